/-
  The walk of the reference's Join, and the program's over the library's.
-/
import Derived.Test.YtcbgapncmjjmeaaDoorStr
import Derived.Test.YtcbgapncmjjmeaaDoorRows
import Derived.Lib.AppendStr
import Derived.Lib.JoinLaws
import Derived.Lib.Join
import Derived.Laws.IdiomStrings
import Derived.Test.YtcbgapncmjjmeaaDoorShelfJ
namespace Go.Proofs.YtcbgapncmjjmeaaDoor
open Go.RowKit
set_option maxRecDepth 100000
set_option linter.unusedVariables false
set_option linter.unusedSimpArgs false

/-- The bytes of texts, joined. -/
def bjoin (xs : List ByteArray) (s : ByteArray) : List UInt8 := Lib.join (xs.map (·.data.toList)) s.data.toList
theorem bjoin_zero (xs : List ByteArray) (s : ByteArray) : bjoin (xs.take 0) s = [] := by simp [bjoin, Lib.join_nil]
theorem bjoin_first (xs : List ByteArray) (s : ByteArray) (h : 0 < xs.length) : bjoin (xs.take 1) s = xs[0].data.toList := by
  match xs, h with
  | x :: r, _ => simp [bjoin, Lib.join_one]
theorem bjoin_next (xs : List ByteArray) (s : ByteArray) (k : Nat) (h : k < xs.length) (h0 : 0 < k) : bjoin (xs.take (k + 1)) s = bjoin (xs.take k) s ++ s.data.toList ++ xs[k].data.toList := by
  match xs, k, h, h0 with
  | x :: r, k + 1, h, _ =>
    have hk : (r.map (·.data.toList))[k]? = some ((x :: r)[k + 1].data.toList) := by
      have : k < r.length := by simpa using h
      simp [this]
    have h1 := Lib.joinTail_take_succ s.data.toList (r.map (·.data.toList)) k _ hk
    simp only [bjoin, List.take_succ_cons, List.map_cons, Lib.join_cons, List.map_take]
    rw [h1]
    simp
theorem bjoin_len (xs : List ByteArray) (s : ByteArray) (hs : s.size ≤ 1048576) (hx : sizeSs xs ≤ 1048576) : (bjoin xs s).length ≤ 1099512676352 := by
  match xs with
  | [] => simp [bjoin, Lib.join_nil]
  | x :: r =>
    have h1 := Lib.join_length x.data.toList (r.map (·.data.toList)) s.data.toList
    have h2 : Lib.lens ((x :: r).map (·.data.toList)) = ((x :: r).map ByteArray.size).sum := by
      unfold Lib.lens
      rw [List.map_map]
      rfl
    have h3 : s.data.toList.length = s.size := rfl
    unfold sizeSs at hx
    simp only [List.length_cons] at hx
    have h4 : s.size * r.length ≤ 1048576 * 1048576 := Nat.mul_le_mul hs (by omega)
    simp only [List.map_cons] at h2
    simp only [bjoin, List.map_cons]
    rw [h1, h2, h3, List.length_map]
    simp only [List.map_cons] at hx
    omega
theorem sizeSs_take' (xs : List ByteArray) (k : Nat) : sizeSs (xs.take k) ≤ sizeSs xs := by
  have := sizeSs_take_le xs k
  unfold sizeSs
  rw [List.length_take]
  omega
def bcells (l : List UInt8) : List Value := l.map fun b => .int .u8 (b.toNat : Int)
theorem bcells_app (l m : List UInt8) : bcells (l ++ m) = bcells l ++ bcells m := by simp [bcells]
theorem strCells_eq (s : ByteArray) : Lib.strCells s = bcells s.data.toList := by simp [Lib.strCells, bcells]

theorem Tryd.infoByte : (Tryd.prog.info? 5).map (fun i => (i.zero, i.size, i.bytes)) = some (some (.int .u8 0), 1, 1) := by kernel_rfl

theorem implJoin_any (xs : List ByteArray) (s : ByteArray) (a : Option Addr) (n cap : Nat) (w : World) (h : Rss w xs a n cap) (hs : s.size ≤ 1048576) (hx : sizeSs xs ≤ 1048576) :
    Calls Tryd.prog 30 #[.slice a n cap, .string s] w fun e w' => e = .returned (.string ⟨(bjoin xs s).toArray⟩) ∧ Below w.heap.size w w' := by
  have hlen := bjoin_len xs s hs hx
  have hN : xs.length ≤ 1048576 := by unfold sizeSs at hx; omega
  have C : Calls Tryd.prog 61 #[.slice a n cap, .string s] w fun e w' => e = .returned (.string ⟨(bjoin xs s).toArray⟩) ∧ Below w.heap.size w w' := by
    obtain ⟨rfl, h2, h3, -, h4⟩ := h
    rcases h4 with rfl | ⟨hne, b, off, rfl, hc⟩
    · refine (Tryd.strings_Join_none a cap s w).mono ?_
      rintro e w' ⟨rfl, rfl⟩
      exact ⟨ret_string (by simp [bjoin, Lib.join_nil]), Below.refl _ _⟩
    · refine (Tryd.strings_Join b off cap xs s w (fun j x hj => ?_) ?_ (by omega) h2 ?_).mono ?_
      · obtain ⟨hj', rfl⟩ := List.getElem?_eq_some_iff.1 hj
        exact hc j hj'
      · have h0 : 0 < xs.length := List.length_pos_iff.2 hne
        exact World.block_lt_of_cell? _ _ (hc 0 h0)
      · have : (Lib.join (xs.map (·.data.toList)) s.data.toList).length = (bjoin xs s).length := rfl
        omega
      · rintro e w' ⟨rfl, hb⟩
        exact ⟨rfl, hb⟩
  replace C := hide C
  go_enter Tryd.func30, Tryd.ntmps30
  go_wp2_with (go_at_call 61; (with_reducible refine C.out.mono ?_); rintro e w1 ⟨rfl, b1⟩)
  go_ret
  exact ⟨rfl, b1⟩
end Go.Proofs.YtcbgapncmjjmeaaDoor
