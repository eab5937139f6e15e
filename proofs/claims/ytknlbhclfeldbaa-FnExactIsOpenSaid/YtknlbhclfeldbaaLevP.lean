/-
  Plain functions on the levels of a term's parts.
-/
import Derived.Test.YtknlbhclfeldbaaTermM
namespace Go.Proofs.Ytknlbhclfeldbaa
set_option linter.unusedVariables false
set_option linter.unusedSimpArgs false

/-- The level of the parts of a node of kind k at level n. -/
def nextLv (k n : Int) : Int := if k == 10 then n + 1 else if k == 11 then n - 1 else n
mutual
/-- All nodes, each with its level, have the property. -/
def Tm.lv (p : Tm → Int → Bool) : Tm → Int → Bool
  | ⟨k, nm, ot, n, ty, re, xs⟩, m => p ⟨k, nm, ot, n, ty, re, xs⟩ m && Tm.lvs p xs (nextLv k m)
def Tm.lvs (p : Tm → Int → Bool) : List Tm → Int → Bool
  | [], _ => true
  | t :: ts, m => t.lv p m && Tm.lvs p ts m
end
theorem Tm.lvs_eq (p : Tm → Int → Bool) (xs : List Tm) (m : Int) : Tm.lvs p xs m = xs.all fun x => x.lv p m := by
  induction xs with
  | nil => rfl
  | cons x xs ih => rw [Tm.lvs, ih]; rfl
theorem Tm.lv_eq (p : Tm → Int → Bool) (t : Tm) (m : Int) : t.lv p m = (p t m && t.args.all fun x => x.lv p (nextLv t.kind m)) := by
  cases t
  rw [Tm.lv, Tm.lvs_eq]
/-- The levels of the language: 0, 1, 2. -/
abbrev lvOk (t : Tm) (m : Int) : Bool := t.lv (fun _ k => inB k 0 2) m
theorem lvOk_eq (t : Tm) (m : Int) : lvOk t m = (inB m 0 2 && t.args.all fun x => lvOk x (nextLv t.kind m)) := Tm.lv_eq _ t m
theorem lvOk_in {t : Tm} {m : Int} (h : lvOk t m = true) : 0 ≤ m ∧ m ≤ 2 := by
  rw [lvOk_eq, Bool.and_eq_true] at h
  exact inB_iff.1 h.1
theorem lvOk_arg {t : Tm} {m : Int} (h : lvOk t m = true) {x : Tm} (hx : x ∈ t.args) : lvOk x (nextLv t.kind m) = true := by
  rw [lvOk_eq, Bool.and_eq_true, List.all_eq_true] at h
  exact h.2 x hx
/-- No splice at level 1. -/
def unspliced (t : Tm) (m : Int) : Bool := (t.kind != 11) || (m != 1)
abbrev lvMade (t : Tm) (m : Int) : Bool := t.lv unspliced m
theorem lvMade_eq (t : Tm) (m : Int) : lvMade t m = (unspliced t m && t.args.all fun x => lvMade x (nextLv t.kind m)) := Tm.lv_eq _ t m

mutual
/-- The greatest level of a node. -/
def Tm.hi : Tm → Int → Int
  | ⟨k, _, _, _, _, _, xs⟩, m => Tm.his xs (nextLv k m) m
def Tm.his : List Tm → Int → Int → Int
  | [], _, a => a
  | t :: ts, m, a => Tm.his ts m (max a (t.hi m))
end
theorem Tm.hi_eq (t : Tm) (m : Int) : t.hi m = Tm.his t.args (nextLv t.kind m) m := by cases t; rw [Tm.hi]
theorem Tm.his_append (xs ys : List Tm) (m a : Int) : Tm.his (xs ++ ys) m a = Tm.his ys m (Tm.his xs m a) := by
  induction xs generalizing a with
  | nil => rfl
  | cons x xs ih => rw [List.cons_append, Tm.his, Tm.his, ih]
theorem Tm.his_take (xs : List Tm) (m a : Int) (k : Nat) (h : k < xs.length) : Tm.his (xs.take (k + 1)) m a = max (Tm.his (xs.take k) m a) (xs[k].hi m) := by
  rw [take_snoc xs k h, Tm.his_append]
  rfl
theorem Tm.his_max (xs : List Tm) (m a b : Int) : Tm.his xs m (max a b) = max a (Tm.his xs m b) := by
  induction xs generalizing b with
  | nil => rfl
  | cons x xs ih => rw [Tm.his, Tm.his, Int.max_assoc, ih]
theorem Tm.his_le (xs : List Tm) (m a c : Int) (ha : a ≤ c) (h : ∀ x ∈ xs, x.hi m ≤ c) : Tm.his xs m a ≤ c := by
  induction xs generalizing a with
  | nil => exact ha
  | cons x xs ih =>
    rw [Tm.his]
    exact ih _ (by have := h x (by simp); omega) fun y hy => h y (by simp [hy])
theorem Tm.his_ge (xs : List Tm) (m a : Int) : a ≤ Tm.his xs m a := by
  induction xs generalizing a with
  | nil => exact Int.le_refl _
  | cons x xs ih =>
    rw [Tm.his]
    have := ih (max a (x.hi m))
    omega
theorem Tm.hi_in (t : Tm) : ∀ m, lvOk t m = true → 0 ≤ t.hi m ∧ t.hi m ≤ 2 := by
  induction t using Tm.ind' with | h t ih => ?_
  intro m h
  have h1 := lvOk_in h
  rw [Tm.hi_eq]
  have h2 := Tm.his_ge t.args (nextLv t.kind m) m
  exact ⟨by omega, Tm.his_le _ _ _ _ h1.2 fun x hx => (ih x hx _ (lvOk_arg h hx)).2⟩
end Go.Proofs.Ytknlbhclfeldbaa
