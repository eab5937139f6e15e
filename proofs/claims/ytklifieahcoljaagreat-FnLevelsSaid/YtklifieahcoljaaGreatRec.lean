/-
  Slices of records of four cells: a name, a type (two cells) and one more. Typing: the last is a number; Param: the last is a truth value.
-/
import Derived.Test.YtklifieahcoljaaGreatStr
namespace Go.Proofs.YtklifieahcoljaaGreat
open Go.RowKit
set_option linter.unusedVariables false
set_option linter.unusedSimpArgs false

/-- A record. -/
structure Rc (α : Type) where
  name : ByteArray
  type : Ty
  last : α
/-- How the last cell is written, and what is asked of it. -/
class Last (α : Type) where
  val : α → Value
  ok : α → Prop
instance : Last Int := ⟨fun n => .int .i64 n, i64⟩
instance : Last Bool := ⟨fun b => .bool b, fun _ => True⟩
variable {α : Type} [Last α]

/-- The record at 'off' in block b. -/
def RcAt (w : World) (b off : Nat) (r : Rc α) : Prop := r.name.size ≤ 9223372036854775807 ∧ Last.ok r.last ∧ ∃ ta tn tc, w.cell? ⟨b, off, none⟩ = some (.string r.name) ∧ w.cell? ⟨b, off + 1, none⟩ = some (.int .i64 r.type.kind) ∧
  w.cell? ⟨b, off + 2, none⟩ = some (.slice ta tn tc) ∧ w.cell? ⟨b, off + 3, none⟩ = some (Last.val r.last) ∧ Rd w r.type (.int .i64 r.type.kind) (.slice ta tn tc)
theorem RcAt.below {w w' : World} {b off : Nat} {r : Rc α} (h : RcAt w b off r) (hb : Below w.heap.size w w') : RcAt w' b off r := by
  obtain ⟨h1, h2, ta, tn, tc, e0, e1, e2, e3, hr⟩ := h
  have hl := lt_of_cell e0
  exact ⟨h1, h2, ta, tn, tc, (hb.cell hl).trans e0, (hb.cell hl).trans e1, (hb.cell hl).trans e2, (hb.cell hl).trans e3, hr.below hb⟩
/-- The letters of a slice of records read as these records. -/
def Rcs (w : World) (xs : List (Rc α)) (a : Option Addr) (n cap : Nat) : Prop :=
  n = xs.length ∧ n ≤ cap ∧ cap ≤ maxLen ∧ (xs = [] ∨ xs ≠ [] ∧ ∃ b off, a = some ⟨b, off, none⟩ ∧ ∀ i (h : i < xs.length), RcAt w b (off + i * 4) xs[i])
theorem Rcs.get {w : World} {xs : List (Rc α)} {a : Option Addr} {n cap : Nat} (h : Rcs w xs a n cap) (j : Nat) (hj : j < xs.length) :
    ∃ b off, a = some ⟨b, off, none⟩ ∧ b < w.heap.size ∧ RcAt w b (off + j * 4) xs[j] := by
  obtain ⟨h1, h2, h3, h4⟩ := h
  rcases h4 with rfl | ⟨_, b, off, rfl, hc⟩
  · simp at hj
  · obtain ⟨_, _, ta, tn, tc, e0, _⟩ := hc j hj
    exact ⟨b, off, rfl, lt_of_cell e0, hc j hj⟩
theorem Rcs.below {w w' : World} {xs : List (Rc α)} {a : Option Addr} {n cap : Nat} (h : Rcs w xs a n cap) (hb : Below w.heap.size w w') : Rcs w' xs a n cap := by
  obtain ⟨h1, h2, h3, h4⟩ := h
  refine ⟨h1, h2, h3, ?_⟩
  rcases h4 with h4 | ⟨hne, b, off, rfl, hc⟩
  · exact .inl h4
  · exact .inr ⟨hne, b, off, rfl, fun i hi => (hc i hi).below hb⟩

/-- What szTyping / szParam count of a record. -/
def Rc.wt (r : Rc α) : Nat := r.name.size + Ty.sizes r.type.args
def Rcs.wt (xs : List (Rc α)) : Nat := xs.length + (xs.map Rc.wt).sum
omit [Last α] in
theorem Rcs.sum_take (xs : List (Rc α)) (k : Nat) (h : k < xs.length) : ((xs.take (k + 1)).map Rc.wt).sum = ((xs.take k).map Rc.wt).sum + xs[k].wt := by
  rw [take_snoc xs k h, List.map_append, List.sum_append]
  simp
omit [Last α] in
theorem Rcs.sum_le (xs : List (Rc α)) (k : Nat) : ((xs.take k).map Rc.wt).sum ≤ (xs.map Rc.wt).sum := by
  conv => rhs; rw [← List.take_append_drop k xs, List.map_append, List.sum_append]
  omega
end Go.Proofs.YtklifieahcoljaaGreat
