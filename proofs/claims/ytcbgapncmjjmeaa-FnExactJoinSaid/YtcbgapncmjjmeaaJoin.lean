/-
  The walk of the reference's Join, and the program's over the library's.
-/
import Derived.Test.YtcbgapncmjjmeaaStr
import Derived.Test.YtcbgapncmjjmeaaRows
import Derived.Lib.AppendStr
import Derived.Lib.JoinLaws
import Derived.Lib.Join
import Derived.Laws.IdiomStrings
import Derived.Test.YtcbgapncmjjmeaaShelf
namespace Go.Proofs.Ytcbgapncmjjmeaa
open Go.RowKit
set_option maxRecDepth 100000
set_option linter.unusedVariables false
set_option linter.unusedSimpArgs false

/-- The bytes of texts, joined. -/
def bjoin (xs : List ByteArray) (s : ByteArray) : List UInt8 := Lib.join (xs.map (·.data.toList)) s.data.toList
theorem bjoin_zero (xs : List ByteArray) (s : ByteArray) : bjoin (xs.take 0) s = [] := by simp [bjoin, Lib.join_nil]
theorem bjoin_first (xs : List ByteArray) (s : ByteArray) (h : 0 < xs.length) : bjoin (xs.take 1) s = xs[0].data.toList := by
  match xs, h with
  | x :: r, _ => simp [bjoin, Lib.join_one]
theorem bjoin_next (xs : List ByteArray) (s : ByteArray) (k : Nat) (h : k < xs.length) (h0 : 0 < k) : bjoin (xs.take (k + 1)) s = bjoin (xs.take k) s ++ s.data.toList ++ xs[k].data.toList := by
  match xs, k, h, h0 with
  | x :: r, k + 1, h, _ =>
    have hk : (r.map (·.data.toList))[k]? = some ((x :: r)[k + 1].data.toList) := by
      have : k < r.length := by simpa using h
      simp [this]
    have h1 := Lib.joinTail_take_succ s.data.toList (r.map (·.data.toList)) k _ hk
    simp only [bjoin, List.take_succ_cons, List.map_cons, Lib.join_cons, List.map_take]
    rw [h1]
    simp
theorem bjoin_len (xs : List ByteArray) (s : ByteArray) (hs : s.size ≤ 1048576) (hx : sizeSs xs ≤ 1048576) : (bjoin xs s).length ≤ 1099512676352 := by
  match xs with
  | [] => simp [bjoin, Lib.join_nil]
  | x :: r =>
    have h1 := Lib.join_length x.data.toList (r.map (·.data.toList)) s.data.toList
    have h2 : Lib.lens ((x :: r).map (·.data.toList)) = ((x :: r).map ByteArray.size).sum := by
      unfold Lib.lens
      rw [List.map_map]
      rfl
    have h3 : s.data.toList.length = s.size := rfl
    unfold sizeSs at hx
    simp only [List.length_cons] at hx
    have h4 : s.size * r.length ≤ 1048576 * 1048576 := Nat.mul_le_mul hs (by omega)
    simp only [List.map_cons] at h2
    simp only [bjoin, List.map_cons]
    rw [h1, h2, h3, List.length_map]
    simp only [List.map_cons] at hx
    omega
theorem sizeSs_take' (xs : List ByteArray) (k : Nat) : sizeSs (xs.take k) ≤ sizeSs xs := by
  have := sizeSs_take_le xs k
  unfold sizeSs
  rw [List.length_take]
  omega
def bcells (l : List UInt8) : List Value := l.map fun b => .int .u8 (b.toNat : Int)
theorem bcells_app (l m : List UInt8) : bcells (l ++ m) = bcells l ++ bcells m := by simp [bcells]
theorem strCells_eq (s : ByteArray) : Lib.strCells s = bcells s.data.toList := by simp [Lib.strCells, bcells]

theorem Try.infoByte : (Try.prog.info? 5).map (fun i => (i.zero, i.size, i.bytes)) = some (some (.int .u8 0), 1, 1) := by kernel_rfl

set_option maxHeartbeats 1600000 in
theorem specJoin_any (xs : List ByteArray) (s : ByteArray) (a : Option Addr) (n cap : Nat) (w : World) (h : Rss w xs a n cap) (hs : s.size ≤ 1048576) (hx : sizeSs xs ≤ 1048576) :
    Calls Try.prog 5 #[.slice a n cap, .string s] w fun e w' => e = .returned (.string ⟨(bjoin xs s).toArray⟩) ∧ Below w.heap.size w w' := by
  have hn : n ≤ 1048576 := by have := h.1; unfold sizeSs at hx; omega
  have hxn := hide h.1
  have HLEN := hide (fun k => bjoin_len (xs.take k) s hs (Nat.le_trans (sizeSs_take' xs k) hx))
  obtain ⟨i0, hi, hz0, hz1, hz2⟩ := info_parts Try.infoByte
  go_enter Try.func5, Try.ntmps5
  go_wp2_with fail
  go_loopw [5, 6] (fun v i wr => ∃ k : Nat, k ≤ n ∧ i = .int .i64 k ∧ (∃ (u : Value) (l : List UInt8), u = v ∧ Hid (l = bjoin (xs.take k) s) ∧ wr.ownsRow w.heap.size 5 1 u l.length (bcells l) ∧ Hid (u ≠ .slice none 0 0)) ∧ Below w.heap.size w wr) (fun _ i _ => n - (intOf i).toNat)
  case atStart => exact ⟨0, by omega, rfl, ⟨_, [], rfl, by rw [Hid, bjoin_zero], World.ownsRow_made w #[] 0 (Nat.le_refl _) (by simp) (by simp), by simp [Hid]⟩, below_new _ _⟩
  case round =>
    obtain ⟨k, hk, rfl, ⟨u, l, rfl, HL, hown, HNN⟩, hb⟩ := hrel
    have hsz := hb.size
    have hll : l.length ≤ 1099512676352 := by rw [HL.out]; exact HLEN.out k
    by_cases hkn : k < n
    · have hkx : k < xs.length := by rw [← hxn.out]; exact hkn
      obtain ⟨b, off, rfl, hlt', e0⟩ := (h.below hb).get k hkx
      have hxs : xs[k].size ≤ 1048576 := by
        have h1 := sizeSs_take xs k hkx
        have h2 := sizeSs_take_le xs (k + 1)
        unfold sizeSs at hx
        omega
      by_cases hk0 : k = 0
      · subst hk0
        have hd : decide (((0 : Nat) : Int) > 0) = false := by simp
        rw [Nat.add_zero] at e0
        go_wp2_with (at_builtin; refine Lib.wpList_append_own_string _ rfl _ _ 28 9 rfl w.heap.size 5 i0 Try.underlying28 Try.underlying9 hi hz0 hz1 hz2 _ l.length (bcells l) rfl hown xs[0] rfl (by unfold maxLen; omega) (by omega) hsz ?_)
        intro v' w1 hown1 hgrow hnil
        go_wp2_with fail
        go_roundw
        case rel =>
          refine ⟨1, by omega, by go_num, ⟨v', xs[0].data.toList, rfl, (bjoin_first xs s (by omega)).symm, ?_, ?_⟩, hb.grown hgrow hsz fun k hk => (hown.lt k hk).1⟩
          · have hl0 : l = [] := by rw [HL.out, bjoin_zero]
            rw [hl0, strCells_eq] at hown1
            simpa [bcells] using hown1
          · exact fun e => HNN.out (hnil.1 e).1
        case measure => simp [intOf]; omega
      · have hd : decide ((k : Int) > 0) = true := by simp; omega
        go_wp2_with (at_builtin; refine Lib.wpList_append_own_string _ rfl _ _ 28 9 rfl w.heap.size 5 i0 Try.underlying28 Try.underlying9 hi hz0 hz1 hz2 _ l.length (bcells l) rfl hown s rfl (by unfold maxLen; omega) (by omega) hsz ?_)
        intro v1 w1 hown1 hgrow1 hnil1
        have b1 : Below w.heap.size w w1 := hb.grown hgrow1 hsz fun k hk => (hown.lt k hk).1
        have hs1 := b1.size
        have e1 : w1.cell? ⟨b, off + k, none⟩ = some (.string xs[k]) := by
          obtain ⟨b', off', ha', -, e'⟩ := (h.below b1).get k hkx
          injection ha' with ha'
          injection ha' with q1 q2
          rw [q1, q2]
          exact e'
        clear e0
        go_wp2_with (at_builtin; refine Lib.wpList_append_own_string _ rfl _ _ 28 9 rfl w.heap.size 5 i0 Try.underlying28 Try.underlying9 hi hz0 hz1 hz2 v1 (l.length + s.size) (bcells l ++ Lib.strCells s) rfl hown1 xs[k] rfl (by unfold maxLen; omega) (by omega) hs1 ?_)
        intro v2 w2 hown2 hgrow2 hnil2
        go_wp2_with fail
        go_roundw
        case rel =>
          refine ⟨k + 1, by omega, by go_num, ⟨v2, l ++ s.data.toList ++ xs[k].data.toList, rfl, ?_, ?_, ?_⟩, b1.grown hgrow2 hs1 fun k hk => (hown1.lt k hk).1⟩
          · rw [Hid, bjoin_next xs s k hkx (by omega), HL.out]
          · rw [strCells_eq, strCells_eq] at hown2
            rw [bcells_app, bcells_app]
            simpa [Nat.add_assoc] using hown2
          · exact fun e => HNN.out (by first | exact (hnil1.1 (hnil2.1 e).1).1 | exact (hnil2.1 e).1.1)
        case measure => simp [intOf]; omega
    · have hkx : k = xs.length := by have := hxn.out; omega
      rcases hown.2 with ⟨rfl, hz⟩ | ⟨g, cap', cur, rfl, hg, hh, r⟩
      · exact absurd rfl HNN.out
      · have hcv := run_convert_bytes_back (P := Try.prog) wr 28 9 5 ⟨g, 0, none⟩ cap' l Try.underlying28 Try.underlying5 Try.underlying9 fun j hj => by
          have := hown.cells (g := g) rfl j (.int .u8 (l[j].toNat : Int)) (by simp [bcells, hj])
          simpa [Addr.add_lit] using this
        go_wp2_with fail
        go_ret
        refine ⟨ret_string ?_, hb⟩
        rw [HL.out, hkx, List.take_length]
theorem implJoin_any (xs : List ByteArray) (s : ByteArray) (a : Option Addr) (n cap : Nat) (w : World) (h : Rss w xs a n cap) (hs : s.size ≤ 1048576) (hx : sizeSs xs ≤ 1048576) :
    Calls Try.prog 7 #[.slice a n cap, .string s] w fun e w' => e = .returned (.string ⟨(bjoin xs s).toArray⟩) ∧ Below w.heap.size w w' := by
  have hlen := bjoin_len xs s hs hx
  have hN : xs.length ≤ 1048576 := by unfold sizeSs at hx; omega
  have C : Calls Try.prog 9 #[.slice a n cap, .string s] w fun e w' => e = .returned (.string ⟨(bjoin xs s).toArray⟩) ∧ Below w.heap.size w w' := by
    obtain ⟨rfl, h2, h3, -, h4⟩ := h
    rcases h4 with rfl | ⟨hne, b, off, rfl, hc⟩
    · refine (Try.strings_Join_none a cap s w).mono ?_
      rintro e w' ⟨rfl, rfl⟩
      exact ⟨ret_string (by simp [bjoin, Lib.join_nil]), Below.refl _ _⟩
    · refine (Try.strings_Join b off cap xs s w (fun j x hj => ?_) ?_ (by omega) h2 ?_).mono ?_
      · obtain ⟨hj', rfl⟩ := List.getElem?_eq_some_iff.1 hj
        exact hc j hj'
      · have h0 : 0 < xs.length := List.length_pos_iff.2 hne
        exact World.block_lt_of_cell? _ _ (hc 0 h0)
      · have : (Lib.join (xs.map (·.data.toList)) s.data.toList).length = (bjoin xs s).length := rfl
        omega
      · rintro e w' ⟨rfl, hb⟩
        exact ⟨rfl, hb⟩
  replace C := hide C
  go_enter Try.func7, Try.ntmps7
  go_wp2_with (go_at_call 9; (with_reducible refine C.out.mono ?_); rintro e w1 ⟨rfl, b1⟩)
  go_ret
  exact ⟨rfl, b1⟩
end Go.Proofs.Ytcbgapncmjjmeaa
