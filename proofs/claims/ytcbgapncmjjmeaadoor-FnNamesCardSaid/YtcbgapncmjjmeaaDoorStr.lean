/-
  Slices of strings: their reading, and the walks of the small functions on them.
-/
import Derived.Test.YtcbgapncmjjmeaaDoorTo
import Derived.Test.YtcbgapncmjjmeaaDoorSz
import Derived.Test.YtcbgapncmjjmeaaDoorPlain
import Derived.StillTailTactics
import Derived.SliceStrings
import Derived.BigQuiet
import Derived.Deep.OwnRows
namespace Go.Proofs.YtcbgapncmjjmeaaDoor
open Go.RowKit
set_option maxRecDepth 100000
set_option linter.unusedVariables false
set_option linter.unusedSimpArgs false

/-- The letters of a slice of strings read as these strings. -/
def Rss (w : World) (xs : List ByteArray) (a : Option Addr) (n cap : Nat) : Prop :=
  n = xs.length ∧ n ≤ cap ∧ cap ≤ maxLen ∧ (∀ x ∈ xs, x.size ≤ 9223372036854775807) ∧ (xs = [] ∨ xs ≠ [] ∧ ∃ b off, a = some ⟨b, off, none⟩ ∧ ∀ i (h : i < xs.length), w.cell? ⟨b, off + i, none⟩ = some (.string xs[i]))
theorem Rss.get {w : World} {xs : List ByteArray} {a : Option Addr} {n cap : Nat} (h : Rss w xs a n cap) (j : Nat) (hj : j < xs.length) :
    ∃ b off, a = some ⟨b, off, none⟩ ∧ b < w.heap.size ∧ w.cell? ⟨b, off + j, none⟩ = some (.string xs[j]) := by
  obtain ⟨h1, h2, h3, hs, h4⟩ := h
  rcases h4 with rfl | ⟨_, b, off, rfl, hc⟩
  · simp at hj
  · exact ⟨b, off, rfl, World.block_lt_of_cell? _ _ (hc j hj), hc j hj⟩
theorem Rss.below {w w' : World} {xs : List ByteArray} {a : Option Addr} {n cap : Nat} (h : Rss w xs a n cap) (hb : Below w.heap.size w w') : Rss w' xs a n cap := by
  obtain ⟨h1, h2, h3, hs, h4⟩ := h
  refine ⟨h1, h2, h3, hs, ?_⟩
  rcases h4 with h4 | ⟨hne, b, off, rfl, hc⟩
  · exact .inl h4
  · exact .inr ⟨hne, b, off, rfl, fun i hi => (hb.cell (World.block_lt_of_cell? _ _ (hc i hi))).trans (hc i hi)⟩

/-- Their bytes, and one more for each. -/
def sizeSs (xs : List ByteArray) : Nat := xs.length + (xs.map ByteArray.size).sum
theorem sizeSs_take (xs : List ByteArray) (k : Nat) (h : k < xs.length) : ((xs.take (k + 1)).map ByteArray.size).sum = ((xs.take k).map ByteArray.size).sum + xs[k].size := by
  rw [take_snoc xs k h, List.map_append, List.sum_append]
  simp
theorem sizeSs_take_le (xs : List ByteArray) (k : Nat) : ((xs.take k).map ByteArray.size).sum ≤ (xs.map ByteArray.size).sum := by
  conv => rhs; rw [← List.take_append_drop k xs, List.map_append, List.sum_append]
  omega

set_option maxHeartbeats 400000 in
theorem szStringS_any (xs : List ByteArray) (a : Option Addr) (n cap : Nat) (left : Int) (w : World) (h : Rss w xs a n cap) (hl0 : 0 ≤ left) (hl1 : left ≤ 1048576) :
    Calls Tryd.prog 17 #[.slice a n cap, .int .i64 left] w fun e w' => e = .returned (.int .i64 (lessN (sizeSs xs) left)) ∧ w = w' := by
  have hn : n ≤ 9223372036854775807 := by obtain ⟨_, h2, h3, _⟩ := h; unfold maxLen at h3; omega
  have hx := hide h.1
  by_cases hlt : left < n
  · go_enter Tryd.func17, Tryd.ntmps17
    go_wp2
    go_ret
    have h4 := hx.out
    exact ⟨ret_int (lessN_neg (by unfold sizeSs; omega)).symm, rfl⟩
  · have hd : decide (left - (n : Int) < 0) = false := by simp; omega
    go_enter Tryd.func17, Tryd.ntmps17
    go_wp2_with fail
    go_loopw [1, 5] (fun l i wr => ∃ k : Nat, k ≤ n ∧ i = .int .i64 k ∧ (∃ s : Int, l = .int .i64 s ∧ 0 ≤ s ∧ s ≤ left ∧ Hid (s = left - n - ((xs.take k).map ByteArray.size).sum)) ∧ w = wr) (fun _ i _ => n - (intOf i).toNat)
    case atStart => exact ⟨0, by omega, rfl, ⟨_, rfl, by omega, by omega, by simp [Hid]⟩, rfl⟩
    case round =>
      obtain ⟨k, hk, rfl, ⟨s, rfl, hs0, hs1, Hs⟩, rfl⟩ := hrel
      by_cases hkn : k < n
      · have hkx : k < xs.length := by rw [← hx.out]; exact hkn
        obtain ⟨b, off, rfl, hlt', e0⟩ := h.get k hkx
        have hsz := h.2.2.2.1 _ (List.getElem_mem hkx)
        by_cases hz : s < (xs[k].size : Int)
        · have hd2 : decide (s - (xs[k].size : Int) < 0) = true := by simp; omega
          go_wp2_with fail
          go_ret
          have h1 := sizeSs_take xs k hkx
          have h2 := sizeSs_take_le xs (k + 1)
          have h3 := Hs.out
          have h4 := hx.out
          exact ⟨ret_int (lessN_neg (by unfold sizeSs; omega)).symm, rfl⟩
        · have hd2 : decide (s - (xs[k].size : Int) < 0) = false := by simp; omega
          go_wp2_with fail
          go_roundw
          case rel =>
            refine ⟨k + 1, by omega, by go_num, ⟨_, rfl, by omega, by omega, ?_⟩, by trivial⟩
            have h1 := sizeSs_take xs k hkx
            have h3 := Hs.out
            unfold Hid
            omega
          case measure => simp [intOf]; omega
      · go_wp2
        go_ret
        have h3 := Hs.out
        have h4 := hx.out
        rw [List.take_of_length_le (by omega)] at h3
        exact ⟨ret_int (by rw [lessN_pos (by unfold sizeSs; omega)]; unfold sizeSs; omega), rfl⟩
set_option maxHeartbeats 400000 in
theorem indexString_any (xs : List ByteArray) (s : ByteArray) (a : Option Addr) (n cap : Nat) (w : World) (h : Rss w xs a n cap) :
    Calls Tryd.prog 67 #[.slice a n cap, .string s] w fun e w' => e = .returned (.int .i64 (fIdx (fun x => s.toList == x.toList) xs)) ∧ w = w' := by
  have hn : n ≤ 9223372036854775807 := by obtain ⟨_, h2, h3, _⟩ := h; unfold maxLen at h3; omega
  have hx := hide h.1
  go_enter Tryd.func67, Tryd.ntmps67
  go_wp2_with fail
  go_loopw [8] (fun i wr => ∃ j : Nat, j ≤ n ∧ i = .int .i64 j ∧ Hid (∀ i (h : i < xs.length), i < j → (s.toList == xs[i].toList) = false) ∧ w = wr) (fun i _ => n - (intOf i).toNat)
  case atStart => exact ⟨0, by omega, rfl, fun i _ hi => by omega, rfl⟩
  case round =>
    obtain ⟨j, hj, rfl, HR, rfl⟩ := hrel
    by_cases hjn : j < n
    · have hjx : j < xs.length := by rw [← hx.out]; exact hjn
      obtain ⟨b, off, rfl, hlt', e0⟩ := h.get j hjx
      cases hq : (s.toList == xs[j].toList) with
      | true =>
        go_wp2_with fail
        go_ret
        exact ⟨ret_int (fIdx_at hjx hq HR.out).symm, rfl⟩
      | false =>
        go_wp2_with fail
        go_roundw
        case rel =>
          refine ⟨j + 1, by omega, by go_num, fun i hi hij => ?_, by trivial⟩
          by_cases hij' : i < j
          · exact HR.out i hi hij'
          · obtain rfl : i = j := by omega
            exact hq
        case measure => simp [intOf]; omega
    · go_wp2
      go_ret
      have h4 := hx.out
      exact ⟨ret_int (fIdx_none fun i hi => HR.out i hi (by omega)).symm, rfl⟩
set_option maxHeartbeats 400000 in
theorem containsString_any (xs : List ByteArray) (s : ByteArray) (a : Option Addr) (n cap : Nat) (w : World) (h : Rss w xs a n cap) :
    Calls Tryd.prog 64 #[.slice a n cap, .string s] w fun e w' => e = .returned (.bool (xs.any fun x => s.toList == x.toList)) ∧ w = w' := by
  have C := hide (indexString_any xs s a n cap w h)
  have hge := hide (fIdx_ge (fun x => s.toList == x.toList) xs)
  go_enter Tryd.func64, Tryd.ntmps64
  go_wp2_with (go_at_call 67; (with_reducible refine C.out.mono ?_); rintro e w' ⟨rfl, rfl⟩)
  go_ret
  exact ⟨ret_bool hge.out, rfl⟩
set_option maxHeartbeats 400000 in
theorem specIndexOf_any (xs : List ByteArray) (s : ByteArray) (a : Option Addr) (n cap : Nat) (w : World) (h : Rss w xs a n cap) :
    Calls Tryd.prog 52 #[.slice a n cap, .string s] w fun e w' => e = .returned (.int .i64 (fIdx (fun x => s.toList == x.toList) xs)) ∧ w = w' := by
  have hn : n ≤ 9223372036854775807 := by obtain ⟨_, h2, h3, _⟩ := h; unfold maxLen at h3; omega
  have hx := hide h.1
  go_enter Tryd.func52, Tryd.ntmps52
  go_wp2_with fail
  go_loopw [5] (fun i wr => ∃ j : Nat, j ≤ n ∧ i = .int .i64 j ∧ Hid (∀ i (h : i < xs.length), i < j → (s.toList == xs[i].toList) = false) ∧ w = wr) (fun i _ => n - (intOf i).toNat)
  case atStart => exact ⟨0, by omega, rfl, fun i _ hi => by omega, rfl⟩
  case round =>
    obtain ⟨j, hj, rfl, HR, rfl⟩ := hrel
    by_cases hjn : j < n
    · have hjx : j < xs.length := by rw [← hx.out]; exact hjn
      obtain ⟨b, off, rfl, hlt', e0⟩ := h.get j hjx
      cases hq : (xs[j].toList == s.toList) with
      | true =>
        go_wp2_with fail
        go_ret
        exact ⟨ret_int (fIdx_at hjx (by rw [BEq.comm]; exact hq) HR.out).symm, rfl⟩
      | false =>
        go_wp2_with fail
        go_roundw
        case rel =>
          refine ⟨j + 1, by omega, by go_num, fun i hi hij => ?_, by trivial⟩
          by_cases hij' : i < j
          · exact HR.out i hi hij'
          · obtain rfl : i = j := by omega
            rw [BEq.comm]
            exact hq
        case measure => simp [intOf]; omega
    · go_wp2
      go_ret
      have h4 := hx.out
      exact ⟨ret_int (fIdx_none fun i hi => HR.out i hi (by omega)).symm, rfl⟩
theorem implIndexOf_any (xs : List ByteArray) (s : ByteArray) (a : Option Addr) (n cap : Nat) (w : World) (h : Rss w xs a n cap) :
    Calls Tryd.prog 37 #[.slice a n cap, .string s] w fun e w' => e = .returned (.int .i64 (fIdx (fun x => s.toList == x.toList) xs)) ∧ w = w' := by
  have C := hide (indexString_any xs s a n cap w h)
  go_enter Tryd.func37, Tryd.ntmps37
  go_wp2_with (go_at_call 67; (with_reducible refine C.out.mono ?_); rintro e w' ⟨rfl, rfl⟩)
  go_ret
  exact ⟨rfl, rfl⟩
set_option maxHeartbeats 400000 in
theorem eqStringS_any (xs : List ByteArray) (a a' : Option Addr) (n cap cap' : Nat) (w : World) (h : Rss w xs a n cap) (h' : Rss w xs a' n cap') :
    Calls Tryd.prog 21 #[.slice a n cap, .slice a' n cap'] w fun e w' => e = .returned (.bool true) ∧ Below w.heap.size w w' := by
  have hn : n ≤ 9223372036854775807 := by obtain ⟨_, h2, h3, _⟩ := h; unfold maxLen at h3; omega
  have hx := hide h.1
  go_enter Tryd.func21, Tryd.ntmps21
  go_wp2_with fail
  go_loopw [5] (fun i wr => ∃ k : Nat, k ≤ n ∧ i = .int .i64 k ∧ Below w.heap.size w wr) (fun i _ => n - (intOf i).toNat)
  case atStart => exact ⟨0, by omega, rfl, Below.refl _ _⟩
  case round =>
    obtain ⟨k, hk, rfl, hb⟩ := hrel
    have hsz := hb.size
    by_cases hkn : k < n
    · have hkx : k < xs.length := by rw [← hx.out]; exact hkn
      obtain ⟨b, off, rfl, hlt, e0⟩ := (h.below hb).get k hkx
      obtain ⟨b', off', rfl, hlt', f0⟩ := (h'.below hb).get k hkx
      go_wp2_with fail
      go_quiet (fail)
      go_wp2_with fail
      go_roundw
      case rel => exact ⟨k + 1, by omega, by go_num, hb.trans (by repeat (first | exact Below.refl _ _ | assumption | refine Below.drew ?_ | refine below_drewN ?_ _ | refine Below.alloc ?_ (by first | omega | (simp; done) | (simp; omega)) _ | refine Below.setCell ?_ (by first | omega | (simp; done) | (simp; omega)) _))⟩
      case measure => simp [intOf]; omega
    · go_wp2
      go_ret
      exact ⟨rfl, hb⟩
theorem Tryd.infoString : (Tryd.prog.info? 9).map (fun i => (i.zero, i.size, i.bytes)) = some (some (.string ⟨#[]⟩), 1, 16) := by kernel_rfl
/-- What toStringS gives: the same strings in a block of its own, a new one. -/
def CopiedStr (w : World) (xs : List ByteArray) (e : Ending) (w' : World) : Prop :=
  ∃ g cs, e = .returned (.slice (some ⟨g, 0, none⟩) xs.length xs.length) ∧ Blk w' g 9 cs ∧ Rss w' xs (some ⟨g, 0, none⟩) xs.length xs.length ∧ w.heap.size ≤ g ∧ Below w.heap.size w w'
set_option maxHeartbeats 400000 in
theorem toStringS_any (xs : List ByteArray) (a : Option Addr) (n cap : Nat) (w : World) (h : Rss w xs a n cap) (hl : xs.length ≤ 1048576) :
    Calls Tryd.prog 19 #[.slice a n cap] w (CopiedStr w xs) := by
  have hn : n ≤ 1048576 := by rw [h.1]; exact hl
  have hx := hide h.1
  have hmk := fun W => run_make_row' (P := Tryd.prog) 27 9 _ _ Tryd.underlying27 Tryd.infoString rfl .i64 .i64 n (by omega) (by omega) W
  go_enter Tryd.func19, Tryd.ntmps19
  go_wp2_with fail
  clear hmk
  go_loopw [4] (fun i wr => ∃ k : Nat, k ≤ n ∧ i = .int .i64 k ∧ (∃ cs : Array Value, Blk wr w.heap.size 9 cs ∧ cs.size = n ∧ Hid (∀ i (h : i < xs.length), i < k → cs[i]? = some (.string xs[i]))) ∧ Below w.heap.size w wr) (fun i _ => n - (intOf i).toNat)
  case atStart =>
    refine ⟨0, by omega, rfl, ⟨_, Blk.new w _ _, by simp [madeCells], fun i _ hi => by omega⟩, (Below.refl _ _).alloc (Nat.le_refl _) _⟩
  case round =>
    obtain ⟨k, hk, rfl, ⟨cs, hM, hcs, HC⟩, hb⟩ := hrel
    by_cases hkn : k < n
    · have hkx : k < xs.length := by rw [← hx.out]; exact hkn
      obtain ⟨b, off, rfl, hlt', e0⟩ := (h.below hb).get k hkx
      have g0 := hM.at_ (i := k) (by omega)
      have z0 := hM.free k
      go_wp2_with fail
      go_roundw
      case rel =>
        refine ⟨k + 1, by omega, by go_num, ⟨_, hM.set_ k _, by simpa using hcs, fun i hi hik => ?_⟩, hb.setCell (Nat.le_refl _) _⟩
        by_cases hik' : i < k
        · rw [Array.getElem?_setIfInBounds_ne (by omega)]
          exact HC.out i hi hik'
        · obtain rfl : i = k := by omega
          rw [Array.getElem?_setIfInBounds_self_of_lt (by omega)]
      case measure => simp [intOf]; omega
    · go_wp2
      go_ret
      have h4 := hx.out
      refine ⟨w.heap.size, cs, ?_, hM, ⟨rfl, Nat.le_refl _, by unfold maxLen; omega, h.2.2.2.1, ?_⟩, Nat.le_refl _, hb⟩
      · rw [← h4]
        rfl
      · by_cases hne : xs = []
        · exact .inl hne
        · refine .inr ⟨hne, _, 0, rfl, fun i hi => ?_⟩
          rw [Nat.zero_add, hM.cell]
          exact HC.out i hi (by omega)
end Go.Proofs.YtcbgapncmjjmeaaDoor
