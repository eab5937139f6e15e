/-
  The plain law of a node's form: the reference's test of a node and the program's test say the same. No program in sight but for the tests' parts.
-/
import Derived.Test.YtmdmnchnkfjpjaaNamM
namespace Go.Proofs.Ytmdmnchnkfjpjaa
open Go.RowKit
set_option linter.unusedVariables false
set_option linter.unusedSimpArgs false

/-- The greatest number of a node of this kind. -/
def mostN (k : Int) : Int := if k == 2 then 10006 else if k == 3 then 1 else 0
/-- The reference's test of a node's fields. -/
def fieldsS (t : Tm) : Bool :=
  !(((t.kind == 6 || t.kind == 9) != t.type.valid) || (!(t.kind == 6 || t.kind == 9) && !t.type.zero)) && (!(((t.kind == 9) != t.res.valid) || (!(t.kind == 9) && !t.res.zero)) && (inB t.n 0 (mostN t.kind) && namesS t))
theorem fieldsS_eq (t : Tm) : fieldsS t = (!(((t.kind == 6 || t.kind == 9) != t.type.valid) || (!(t.kind == 6 || t.kind == 9) && !t.type.zero)) && (!(((t.kind == 9) != t.res.valid) || (!(t.kind == 9) && !t.res.zero)) && (inB t.n 0 (mostN t.kind) && namesS t))) := rfl
/-- The reference's test of a node. -/
def nodeS (t : Tm) : Bool := fieldsS t && ((t.args.length : Int) == arityS t.kind t.name)

/-- The program's test of a node's names, number and types. -/
def namedI (t : Tm) : Bool :=
  if t.kind == 1 || t.kind == 8 then isName t.name
  else if t.kind == 2 then inB t.n 0 10006
  else if t.kind == 3 then inB t.n 0 1
  else if t.kind == 4 then decide (0 < opArity t.name)
  else if t.kind == 6 then isName t.name && t.type.valid
  else if t.kind == 9 then isName t.name && (isName t.other && ((t.name.toList != t.other.toList) && (t.type.valid && t.res.valid)))
  else inB t.kind 1 13
def wantName (t : Tm) : ByteArray := if t.kind == 1 || t.kind == 4 || t.kind == 6 || t.kind == 8 || t.kind == 9 then t.name else ⟨#[]⟩
def wantOther (t : Tm) : ByteArray := if t.kind == 9 then t.other else ⟨#[]⟩
def wantN (t : Tm) : Int := if t.kind == 2 || t.kind == 3 then t.n else 0
def wantType (t : Tm) : Ty := if t.kind == 6 || t.kind == 9 then t.type else ⟨0, []⟩
def wantRes (t : Tm) : Ty := if t.kind == 9 then t.res else ⟨0, []⟩
/-- The program's test of a node. -/
def formI (t : Tm) : Bool :=
  ((t.args.length : Int) == arityI t.kind t.name) && (namedI t && ((t.name.toList == (wantName t).toList) && ((t.other.toList == (wantOther t).toList) && ((t.n == wantN t) && (t.type.beq (wantType t) && t.res.beq (wantRes t))))))

theorem Ty.beq_zero (t : Ty) : t.beq ⟨0, []⟩ = t.zero := by
  obtain ⟨k, xs⟩ := t
  rw [Ty.beq, Ty.zero]
  cases xs with
  | nil => simp [Ty.beqs]
  | cons x xs => simp [Ty.beqs]; omega
theorem Ty.zero_form {t : Ty} (h : t.zero = true) : t = ⟨0, []⟩ := (Ty.beq_iff _ _).1 (by rw [Ty.beq_zero, h])
theorem Ty.zero_invalid {t : Ty} (h : t.zero = true) : t.valid = false := by
  rw [Ty.zero_form h]
  simp [Ty.valid, Ty.all_eq, Ty.formed]
theorem Ty.zero_and (t : Ty) : (!t.valid && t.zero) = t.zero := by
  cases h : t.zero with
  | false => simp
  | true => simp [Ty.zero_invalid h]
theorem toList_empty : (⟨#[]⟩ : ByteArray).toList = [] := by decide +kernel

set_option maxHeartbeats 1600000 in
theorem node_form (t : Tm) : nodeS t = formI t := by
  obtain ⟨k, nm, ot, n, ty, re, xs⟩ := t
  have hz1 := ty.zero_and
  have hz2 := re.zero_and
  have hn0 : inB n 0 0 = (n == 0) := by
    rw [Bool.eq_iff_iff, inB_iff]
    simp
    omega
  have hin : inB k 1 13 = true ↔ k = 1 ∨ k = 2 ∨ k = 3 ∨ k = 4 ∨ k = 5 ∨ k = 6 ∨ k = 7 ∨ k = 8 ∨ k = 9 ∨ k = 10 ∨ k = 11 ∨ k = 12 ∨ k = 13 := by
    rw [inB_iff]
    omega
  by_cases hk : inB k 1 13 = true
  · have hk' := hk
    rw [hin] at hk
    rcases hk with rfl | rfl | rfl | rfl | rfl | rfl | rfl | rfl | rfl | rfl | rfl | rfl | rfl
    all_goals
      simp [nodeS, fieldsS, namesS, arityS, mostN, formI, namedI, arityI, wantName, wantOther, wantN, wantType, wantRes, Ty.beq_zero, Ty.beq_self, toList_empty, hk', hn0]
      generalize ty.valid = v1 at *
      generalize ty.zero = z1 at *
      generalize re.valid = v2 at *
      generalize re.zero = z2 at *
      generalize isName nm = a1 at *
      generalize isName ot = a2 at *
      generalize opArity nm = oa at *
      clear hin hk'
      cases v1 <;> cases z1 <;> cases v2 <;> cases z2 <;> simp_all <;> grind
  · have hk' : inB k 1 13 = false := by simpa using hk
    have hne : ∀ j : Int, 1 ≤ j → j ≤ 13 → (k == j) = false := fun j h1 h2 => beq_eq_false_iff_ne.2 fun e => by subst e; rw [← Bool.not_eq_true, inB_iff] at hk'; exact hk' ⟨h1, h2⟩
    have hl : ((xs.length : Int) == -1) = false := beq_eq_false_iff_ne.2 (by omega)
    simp [nodeS, arityS, formI, namedI, hk', hne, hl]
end Go.Proofs.Ytmdmnchnkfjpjaa
