/-
  Slices of strings: their reading, and the walks of the small functions on them.
-/
import Derived.Test.YtklifieahcoljaaGreatTo
import Derived.Test.YtklifieahcoljaaGreatSz
import Derived.Test.YtklifieahcoljaaGreatPlain
import Derived.StillTailTactics
import Derived.SliceStrings
import Derived.BigQuiet
import Derived.Deep.OwnRows
namespace Go.Proofs.YtklifieahcoljaaGreat
open Go.RowKit
set_option maxRecDepth 100000
set_option linter.unusedVariables false
set_option linter.unusedSimpArgs false

/-- The letters of a slice of strings read as these strings. -/
def Rss (w : World) (xs : List ByteArray) (a : Option Addr) (n cap : Nat) : Prop :=
  n = xs.length ∧ n ≤ cap ∧ cap ≤ maxLen ∧ (∀ x ∈ xs, x.size ≤ 9223372036854775807) ∧ (xs = [] ∨ xs ≠ [] ∧ ∃ b off, a = some ⟨b, off, none⟩ ∧ ∀ i (h : i < xs.length), w.cell? ⟨b, off + i, none⟩ = some (.string xs[i]))
theorem Rss.get {w : World} {xs : List ByteArray} {a : Option Addr} {n cap : Nat} (h : Rss w xs a n cap) (j : Nat) (hj : j < xs.length) :
    ∃ b off, a = some ⟨b, off, none⟩ ∧ b < w.heap.size ∧ w.cell? ⟨b, off + j, none⟩ = some (.string xs[j]) := by
  obtain ⟨h1, h2, h3, hs, h4⟩ := h
  rcases h4 with rfl | ⟨_, b, off, rfl, hc⟩
  · simp at hj
  · exact ⟨b, off, rfl, World.block_lt_of_cell? _ _ (hc j hj), hc j hj⟩
theorem Rss.below {w w' : World} {xs : List ByteArray} {a : Option Addr} {n cap : Nat} (h : Rss w xs a n cap) (hb : Below w.heap.size w w') : Rss w' xs a n cap := by
  obtain ⟨h1, h2, h3, hs, h4⟩ := h
  refine ⟨h1, h2, h3, hs, ?_⟩
  rcases h4 with h4 | ⟨hne, b, off, rfl, hc⟩
  · exact .inl h4
  · exact .inr ⟨hne, b, off, rfl, fun i hi => (hb.cell (World.block_lt_of_cell? _ _ (hc i hi))).trans (hc i hi)⟩

/-- Their bytes, and one more for each. -/
def sizeSs (xs : List ByteArray) : Nat := xs.length + (xs.map ByteArray.size).sum
theorem sizeSs_take (xs : List ByteArray) (k : Nat) (h : k < xs.length) : ((xs.take (k + 1)).map ByteArray.size).sum = ((xs.take k).map ByteArray.size).sum + xs[k].size := by
  rw [take_snoc xs k h, List.map_append, List.sum_append]
  simp
theorem sizeSs_take_le (xs : List ByteArray) (k : Nat) : ((xs.take k).map ByteArray.size).sum ≤ (xs.map ByteArray.size).sum := by
  conv => rhs; rw [← List.take_append_drop k xs, List.map_append, List.sum_append]
  omega

set_option maxHeartbeats 400000 in
theorem indexString_any (xs : List ByteArray) (s : ByteArray) (a : Option Addr) (n cap : Nat) (w : World) (h : Rss w xs a n cap) :
    Calls Tryz.prog 128 #[.slice a n cap, .string s] w fun e w' => e = .returned (.int .i64 (fIdx (fun x => s.toList == x.toList) xs)) ∧ w = w' := by
  have hn : n ≤ 9223372036854775807 := by obtain ⟨_, h2, h3, _⟩ := h; unfold maxLen at h3; omega
  have hx := hide h.1
  go_enter Tryz.func128, Tryz.ntmps128
  go_wp2_with fail
  go_loopw [8] (fun i wr => ∃ j : Nat, j ≤ n ∧ i = .int .i64 j ∧ Hid (∀ i (h : i < xs.length), i < j → (s.toList == xs[i].toList) = false) ∧ w = wr) (fun i _ => n - (intOf i).toNat)
  case atStart => exact ⟨0, by omega, rfl, fun i _ hi => by omega, rfl⟩
  case round =>
    obtain ⟨j, hj, rfl, HR, rfl⟩ := hrel
    by_cases hjn : j < n
    · have hjx : j < xs.length := by rw [← hx.out]; exact hjn
      obtain ⟨b, off, rfl, hlt', e0⟩ := h.get j hjx
      cases hq : (s.toList == xs[j].toList) with
      | true =>
        go_wp2_with fail
        go_ret
        exact ⟨ret_int (fIdx_at hjx hq HR.out).symm, rfl⟩
      | false =>
        go_wp2_with fail
        go_roundw
        case rel =>
          refine ⟨j + 1, by omega, by go_num, fun i hi hij => ?_, by trivial⟩
          by_cases hij' : i < j
          · exact HR.out i hi hij'
          · obtain rfl : i = j := by omega
            exact hq
        case measure => simp [intOf]; omega
    · go_wp2
      go_ret
      have h4 := hx.out
      exact ⟨ret_int (fIdx_none fun i hi => HR.out i hi (by omega)).symm, rfl⟩
set_option maxHeartbeats 400000 in
theorem containsString_any (xs : List ByteArray) (s : ByteArray) (a : Option Addr) (n cap : Nat) (w : World) (h : Rss w xs a n cap) :
    Calls Tryz.prog 118 #[.slice a n cap, .string s] w fun e w' => e = .returned (.bool (xs.any fun x => s.toList == x.toList)) ∧ w = w' := by
  have C := hide (indexString_any xs s a n cap w h)
  have hge := hide (fIdx_ge (fun x => s.toList == x.toList) xs)
  go_enter Tryz.func118, Tryz.ntmps118
  go_wp2_with (go_at_call 128; (with_reducible refine C.out.mono ?_); rintro e w' ⟨rfl, rfl⟩)
  go_ret
  exact ⟨ret_bool hge.out, rfl⟩
end Go.Proofs.YtklifieahcoljaaGreat
