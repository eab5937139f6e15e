/-
  The forms of terms, first part.
-/
import Derived.Test.YtklifieahcoljaaGreatArM
import Derived.Test.YtklifieahcoljaaGreatPkTy
import Derived.Test.YtklifieahcoljaaGreatTmSz
import Derived.Test.YtklifieahcoljaaGreatEqualTy
import Derived.Deep.RegionHeld3
namespace Go.Proofs.YtklifieahcoljaaGreat
open Go.RowKit
set_option linter.unusedVariables false
set_option linter.unusedSimpArgs false

/-- The reference's test of the names. -/
def namesS (t : Tm) : Bool :=
  if t.kind == 4 then decide (0 < opArity t.name) && (t.other.toList == [])
  else if t.kind == 1 || t.kind == 6 || t.kind == 8 then isName t.name && (t.other.toList == [])
  else if t.kind == 9 then (isName t.name && isName t.other) && (t.name.toList != t.other.toList)
  else (t.name.toList == []) && (t.other.toList == [])

set_option maxHeartbeats 3200000 in
theorem l5Names_any (t : Tm) (l : Lt) (w : World) (h1 : t.name.size ≤ 1048576) (h2 : t.other.size ≤ 1048576) :
    Calls Tryz.prog 82 #[.agg #[.int .i64 t.kind, .string t.name, .string t.other, .int .i64 t.n, .int .i64 t.type.kind, .slice l.ta l.tn l.tc, .int .i64 t.res.kind, .slice l.ra l.rn l.rc, .slice l.aa l.an l.ac]] w fun e w' => e = .returned (.bool (namesS t)) ∧ Below w.heap.size w w' := by
  go_enter Tryz.func82, Tryz.ntmps82
  go_wp2_with (first
    | (go_at_call 83; (with_reducible refine (specOpArity_any _ _).mono ?_); rintro e w1 ⟨rfl, rfl⟩)
    | (go_at_call 109; (with_reducible refine (specIsName_any t.name _ h1).mono ?_); rintro e w1 ⟨rfl, b1⟩; have B1 := (Blk.new w _ _).under b1; obtain ⟨u0, u1, u2, u3, u4, u5, u6, u7, u8⟩ := B1.nine)
    | (go_at_call 109; (with_reducible refine (specIsName_any t.other _ h2).mono ?_); rintro e w2 ⟨rfl, b2⟩; have B2 := B1.under b2; obtain ⟨v0, v1, v2, v3, v4, v5, v6, v7, v8⟩ := B2.nine))
  all_goals go_ret
  all_goals first
    | exact ⟨ret_bool (by unfold namesS; first | (simp_all; done) | (simp_all; intros; omega) | (simp_all [bne]; done)), below_new _ _⟩
    | exact ⟨ret_bool (by unfold namesS; first | (simp_all; done) | (simp_all; intros; omega) | (simp_all [bne]; done)), below_of_alloc b1⟩
    | exact ⟨ret_bool (by unfold namesS; first | (simp_all; done) | (simp_all; intros; omega) | (simp_all [bne]; done)), below_next (below_of_alloc b1) b2⟩
    | trace_state
end Go.Proofs.YtklifieahcoljaaGreat

namespace Go.Proofs.YtklifieahcoljaaGreat
open Go.RowKit
set_option linter.unusedVariables false
set_option linter.unusedSimpArgs false

/-- The greatest number of a node of this kind. -/
def mostN (k : Int) : Int := if k == 2 then 10006 else if k == 3 then 1 else 0
/-- The reference's test of a node's fields. -/
def fieldsS (t : Tm) : Bool :=
  !(((t.kind == 6 || t.kind == 9) != t.type.valid) || (!(t.kind == 6 || t.kind == 9) && !t.type.zero)) && (!(((t.kind == 9) != t.res.valid) || (!(t.kind == 9) && !t.res.zero)) && (inB t.n 0 (mostN t.kind) && namesS t))
theorem fieldsS_eq (t : Tm) : fieldsS t = (!(((t.kind == 6 || t.kind == 9) != t.type.valid) || (!(t.kind == 6 || t.kind == 9) && !t.type.zero)) && (!(((t.kind == 9) != t.res.valid) || (!(t.kind == 9) && !t.res.zero)) && (inB t.n 0 (mostN t.kind) && namesS t))) := rfl
/-- The reference's test of a node. -/
def nodeS (t : Tm) : Bool := fieldsS t && ((t.args.length : Int) == arityS t.kind t.name)

/-- The program's test of a node's names, number and types. -/
def namedI (t : Tm) : Bool :=
  if t.kind == 1 || t.kind == 8 then isName t.name
  else if t.kind == 2 then inB t.n 0 10006
  else if t.kind == 3 then inB t.n 0 1
  else if t.kind == 4 then decide (0 < opArity t.name)
  else if t.kind == 6 then isName t.name && t.type.valid
  else if t.kind == 9 then isName t.name && (isName t.other && ((t.name.toList != t.other.toList) && (t.type.valid && t.res.valid)))
  else inB t.kind 1 13
def wantName (t : Tm) : ByteArray := if t.kind == 1 || t.kind == 4 || t.kind == 6 || t.kind == 8 || t.kind == 9 then t.name else ⟨#[]⟩
def wantOther (t : Tm) : ByteArray := if t.kind == 9 then t.other else ⟨#[]⟩
def wantN (t : Tm) : Int := if t.kind == 2 || t.kind == 3 then t.n else 0
def wantType (t : Tm) : Ty := if t.kind == 6 || t.kind == 9 then t.type else ⟨0, []⟩
def wantRes (t : Tm) : Ty := if t.kind == 9 then t.res else ⟨0, []⟩
/-- The program's test of a node. -/
def formI (t : Tm) : Bool :=
  ((t.args.length : Int) == arityI t.kind t.name) && (namedI t && ((t.name.toList == (wantName t).toList) && ((t.other.toList == (wantOther t).toList) && ((t.n == wantN t) && (t.type.beq (wantType t) && t.res.beq (wantRes t))))))

theorem Ty.beq_zero (t : Ty) : t.beq ⟨0, []⟩ = t.zero := by
  obtain ⟨k, xs⟩ := t
  rw [Ty.beq, Ty.zero]
  cases xs with
  | nil => simp [Ty.beqs]
  | cons x xs => simp [Ty.beqs]; omega
theorem Ty.zero_form {t : Ty} (h : t.zero = true) : t = ⟨0, []⟩ := (Ty.beq_iff _ _).1 (by rw [Ty.beq_zero, h])
theorem Ty.zero_invalid {t : Ty} (h : t.zero = true) : t.valid = false := by
  rw [Ty.zero_form h]
  simp [Ty.valid, Ty.all_eq, Ty.formed]
theorem Ty.zero_and (t : Ty) : (!t.valid && t.zero) = t.zero := by
  cases h : t.zero with
  | false => simp
  | true => simp [Ty.zero_invalid h]
theorem toList_empty : (⟨#[]⟩ : ByteArray).toList = [] := by decide +kernel

set_option maxHeartbeats 1600000 in
theorem node_form (t : Tm) : nodeS t = formI t := by
  obtain ⟨k, nm, ot, n, ty, re, xs⟩ := t
  have hz1 := ty.zero_and
  have hz2 := re.zero_and
  have hn0 : inB n 0 0 = (n == 0) := by
    rw [Bool.eq_iff_iff, inB_iff]
    simp
    omega
  have hin : inB k 1 13 = true ↔ k = 1 ∨ k = 2 ∨ k = 3 ∨ k = 4 ∨ k = 5 ∨ k = 6 ∨ k = 7 ∨ k = 8 ∨ k = 9 ∨ k = 10 ∨ k = 11 ∨ k = 12 ∨ k = 13 := by
    rw [inB_iff]
    omega
  by_cases hk : inB k 1 13 = true
  · have hk' := hk
    rw [hin] at hk
    rcases hk with rfl | rfl | rfl | rfl | rfl | rfl | rfl | rfl | rfl | rfl | rfl | rfl | rfl
    all_goals
      simp [nodeS, fieldsS, namesS, arityS, mostN, formI, namedI, arityI, wantName, wantOther, wantN, wantType, wantRes, Ty.beq_zero, Ty.beq_self, toList_empty, hk', hn0]
      generalize ty.valid = v1 at *
      generalize ty.zero = z1 at *
      generalize re.valid = v2 at *
      generalize re.zero = z2 at *
      generalize isName nm = a1 at *
      generalize isName ot = a2 at *
      generalize opArity nm = oa at *
      clear hin hk'
      cases v1 <;> cases z1 <;> cases v2 <;> cases z2 <;> simp_all <;> grind
  · have hk' : inB k 1 13 = false := by simpa using hk
    have hne : ∀ j : Int, 1 ≤ j → j ≤ 13 → (k == j) = false := fun j h1 h2 => beq_eq_false_iff_ne.2 fun e => by subst e; rw [← Bool.not_eq_true, inB_iff] at hk'; exact hk' ⟨h1, h2⟩
    have hl : ((xs.length : Int) == -1) = false := beq_eq_false_iff_ne.2 (by omega)
    simp [nodeS, arityS, formI, namedI, hk', hne, hl]
end Go.Proofs.YtklifieahcoljaaGreat

namespace Go.Proofs.YtklifieahcoljaaGreat
open Go.RowKit
set_option linter.unusedVariables false
set_option linter.unusedSimpArgs false

theorem Tm.wt_mem {x : Tm} {xs : List Tm} (h : x ∈ xs) : 1 + x.wt ≤ Tm.wts xs := by
  induction xs with
  | nil => cases h
  | cons y ys ih =>
    rw [Tm.wts]
    rcases List.mem_cons.1 h with rfl | h
    · omega
    · have := ih h
      omega
theorem Tm.wt_arg {t x : Tm} (h : x ∈ t.args) (hw : t.wt ≤ 1048576) : x.wt ≤ 1048576 := by
  have := Tm.wt_mem h
  have := t.wt_eq
  omega

/-- What the function literal of allTerms says, called with the box of 'accept' at bx. -/
abbrev LitTm (A : Value) (q : Tm → Bool) (x : Tm) : Prop := ∀ (bx : Nat) (l : Lt) (W : World), Md W x l → W.cell? ⟨bx, 0, none⟩ = some A →
  Calls Tryz.prog 58 #[.agg #[.int .i64 x.kind, .string x.name, .string x.other, .int .i64 x.n, .int .i64 x.type.kind, .slice l.ta l.tn l.tc, .int .i64 x.res.kind, .slice l.ra l.rn l.rc, .slice l.aa l.an l.ac], .pointer (some ⟨bx, 0, none⟩)] W fun e W' => e = .returned (.bool (q x)) ∧ Below W.heap.size W W'

set_option maxHeartbeats 800000 in
theorem indexFuncTm_of (A : Value) (q : Tm → Bool) (xs : List Tm) (ih : ∀ x ∈ xs, LitTm A q x) (bx : Nat) (a : Option Addr) (n cap : Nat) (w : World) (hr : Mds w xs a n cap) (hA : w.cell? ⟨bx, 0, none⟩ = some A) :
    Calls Tryz.prog 84 #[.slice a n cap, .func (.func 58) #[] #[.pointer (some ⟨bx, 0, none⟩)]] w
      fun e w' => e = .returned (.int .i64 (fIdx q xs)) ∧ Below w.heap.size w w' := by
  have IH := hide ih
  clear ih
  have hn : n ≤ 9223372036854775807 := by obtain ⟨_, h2, h3, _⟩ := hr; unfold maxLen at h3; omega
  have hbx := World.block_lt_of_cell? _ _ hA
  have HA := hide hA
  clear hA
  go_enter Tryz.func84, Tryz.ntmps84
  go_wp2_with fail
  go_loopw [8] (fun i wr => ∃ j : Nat, j ≤ n ∧ i = .int .i64 j ∧ Hid (∀ i (h : i < xs.length), i < j → q xs[i] = false) ∧ Below w.heap.size w wr) (fun i _ => n - (intOf i).toNat)
  case atStart => exact ⟨0, by omega, rfl, fun i _ hi => by omega, (by repeat (first | exact Below.refl _ _ | assumption | refine Below.drew ?_ | refine below_drewN ?_ _ | refine Below.alloc ?_ (by first | omega | (simp; done) | (simp; omega)) _ | refine Below.setCell ?_ (by first | omega | (simp; done) | (simp; omega)) _))⟩
  case round =>
    obtain ⟨j, hj, rfl, HR, hb⟩ := hrel
    have hsz := hb.size
    by_cases hjn : j < n
    · have hjx : j < xs.length := by rw [← hr.1]; exact hjn
      obtain ⟨b, off, l', rfl, hlt, hc, hd⟩ := (hr.below hb).get j hjx
      obtain ⟨e0, e1, e2, e3, e4, e5, e6, e7, e8⟩ := hc.nine
      clear hc
      go_wp2_with (go_at_call 58; (with_reducible refine (IH.out _ (List.getElem_mem hjx) _ _ _ hd ((hb.cell hbx).trans HA.out)).mono ?_); rintro e w' ⟨rfl, hb'⟩)
      · have hyes : q xs[j] = true := ‹q xs[j] = true›
        go_ret
        exact ⟨ret_int (fIdx_at hjx hyes HR.out).symm, hb.trans (by repeat (first | exact Below.refl _ _ | refine Below.drew ?_ | refine below_drewN ?_ _ | refine Below.alloc ?_ (by first | omega | (simp; done) | (simp; omega)) _ | refine Below.setCell ?_ (by first | omega | (simp; done) | (simp; omega)) _ | refine Below.trans ?_ (Below.mono hb' (by first | omega | (simp; done) | (simp; omega)))))⟩
      · have hno : q xs[j] = false := ‹q xs[j] = false›
        go_roundw
        case rel =>
          refine ⟨j + 1, by omega, by go_num, fun i hi hij => ?_, hb.trans (by repeat (first | exact Below.refl _ _ | refine Below.drew ?_ | refine below_drewN ?_ _ | refine Below.alloc ?_ (by first | omega | (simp; done) | (simp; omega)) _ | refine Below.setCell ?_ (by first | omega | (simp; done) | (simp; omega)) _ | refine Below.trans ?_ (Below.mono hb' (by first | omega | (simp; done) | (simp; omega)))))⟩
          by_cases hij' : i < j
          · exact HR.out i hi hij'
          · obtain rfl : i = j := by omega
            exact hno
        case measure => simp [intOf]; omega
    · go_wp2
      go_ret
      have hx1 : n = xs.length := hr.1
      exact ⟨ret_int (fIdx_none fun i hi => HR.out i hi (by omega)).symm, hb⟩

set_option maxHeartbeats 400000 in
theorem containsFuncTm_of (A : Value) (q : Tm → Bool) (xs : List Tm) (ih : ∀ x ∈ xs, LitTm A q x) (bx : Nat) (a : Option Addr) (n cap : Nat) (w : World) (hr : Mds w xs a n cap) (hA : w.cell? ⟨bx, 0, none⟩ = some A) :
    Calls Tryz.prog 57 #[.slice a n cap, .func (.func 58) #[] #[.pointer (some ⟨bx, 0, none⟩)]] w
      fun e w' => e = .returned (.bool (xs.any q)) ∧ Below w.heap.size w w' := by
  have C := hide (indexFuncTm_of A q xs ih bx a n cap w hr hA)
  have hge := hide (fIdx_ge q xs)
  clear ih hA hr
  go_enter Tryz.func57, Tryz.ntmps57
  go_wp2_with (go_at_call 84; (with_reducible refine C.out.mono ?_); rintro e w' ⟨rfl, hb'⟩)
  go_ret
  exact ⟨ret_bool hge.out, hb'⟩

end Go.Proofs.YtklifieahcoljaaGreat

namespace Go.Proofs.YtklifieahcoljaaGreat
open Go.RowKit
set_option linter.unusedVariables false
set_option linter.unusedSimpArgs false

set_option maxHeartbeats 6400000 in
theorem isNamed_any (t : Tm) (l : Lt) (w : World) (h : Md w t l) (hw : t.wt ≤ 1048576) :
    Calls Tryz.prog 78 #[.agg #[.int .i64 t.kind, .string t.name, .string t.other, .int .i64 t.n, .int .i64 t.type.kind, .slice l.ta l.tn l.tc, .int .i64 t.res.kind, .slice l.ra l.rn l.rc, .slice l.aa l.an l.ac]] w fun e w' => e = .returned (.bool (namedI t)) ∧ Below w.heap.size w w' := by
  obtain ⟨-, ht, hre, -⟩ := h.shape
  have hwt := t.wt_eq
  have h1 : t.name.size ≤ 1048576 := by omega
  have h2 : t.other.size ≤ 1048576 := by omega
  have z1 : Ty.sizes t.type.args ≤ 1048576 := by omega
  have z2 : Ty.sizes t.res.args ≤ 1048576 := by omega
  have CV := hide fun W (hW : Below w.heap.size w W) => implIsValidType_any t.type _ _ W (ht.below hW) z1
  have DV := hide fun W (hW : Below w.heap.size w W) => implIsValidType_any t.res _ _ W (hre.below hW) z2
  clear ht hre hwt hw z1 z2 h
  go_enter Tryz.func78, Tryz.ntmps78
  go_wp2_with (first
    | (go_at_call 102; (with_reducible refine (implOpArity_any _ _).mono ?_); rintro e w1 ⟨rfl, rfl⟩)
    | (go_at_call 104; (with_reducible refine (isNumber_is rfl _).mono ?_); rintro e w1 ⟨rfl, rfl⟩)
    | (go_at_call 24; (with_reducible refine (within_any _ _ _ _).mono ?_); rintro e w1 ⟨rfl, rfl⟩)
    | (go_at_call 103; (with_reducible refine (implIsName_any t.name _ h1).mono ?_); rintro e w1 ⟨rfl, b1⟩; have k1 := below_of_alloc b1; have B1 := (Blk.new w _ _).under b1; obtain ⟨u0, u1, u2, u3, u4, u5, u6, u7, u8⟩ := B1.nine)
    | (go_at_call 103; (with_reducible refine (implIsName_any t.other _ h2).mono ?_); rintro e w2 ⟨rfl, b2⟩; have k2 := below_next k1 b2; have B2 := B1.under b2; obtain ⟨v0, v1, v2, v3, v4, v5, v6, v7, v8⟩ := B2.nine)
    | (go_at_call 59; (with_reducible refine (CV.out _ k2).mono ?_); rintro e w3 ⟨rfl, b3⟩; have k3 := below_next k2 b3; have B3 := B2.under b3; obtain ⟨p0, p1, p2, p3, p4, p5, p6, p7, p8⟩ := B3.nine)
    | (go_at_call 59; (with_reducible refine (CV.out _ k1).mono ?_); rintro e w3 ⟨rfl, b3⟩; have k3 := below_next k1 b3)
    | (go_at_call 59; (with_reducible refine (DV.out _ k3).mono ?_); rintro e w4 ⟨rfl, b4⟩; have k4 := below_next k3 b4))
  all_goals go_ret
  all_goals first
    | exact ⟨ret_bool (by unfold namedI; first | (simp_all; done) | (simp_all [bne]; done)), below_new _ _⟩
    | exact ⟨ret_bool (by unfold namedI; first | (simp_all; done) | (simp_all [bne]; done)), k4⟩
    | exact ⟨ret_bool (by unfold namedI; first | (simp_all; done) | (simp_all [bne]; done)), k3⟩
    | exact ⟨ret_bool (by unfold namedI; first | (simp_all; done) | (simp_all [bne]; done)), k2⟩
    | exact ⟨ret_bool (by unfold namedI; first | (simp_all; done) | (simp_all [bne]; done)), k1⟩
    | trace_state
end Go.Proofs.YtklifieahcoljaaGreat

namespace Go.Proofs.YtklifieahcoljaaGreat
open Go.RowKit

theorem formI_eq (t : Tm) : formI t = (((t.args.length : Int) == arityI t.kind t.name) && (namedI t && ((t.name.toList == (wantName t).toList) && ((t.other.toList == (wantOther t).toList) && ((t.n == wantN t) && (t.type.beq (wantType t) && t.res.beq (wantRes t))))))) := rfl
theorem Rd_zero (w : World) : Rd w ⟨0, []⟩ (.int .i64 0) (.slice none 0 0) := Rd.mk (by unfold i64; omega) ⟨rfl, Nat.le_refl _, by simp, .inl rfl⟩
/-- The nine cells of a term's block behind one new block more. -/
theorem Blk.nine_new {w : World} {g T : Nat} {t : Tm} {l : Lt} (h : Blk w g T #[.int .i64 t.kind, .string t.name, .string t.other, .int .i64 t.n, .int .i64 t.type.kind, .slice l.ta l.tn l.tc, .int .i64 t.res.kind, .slice l.ra l.rn l.rc, .slice l.aa l.an l.ac]) :
    (∀ o, (w.alloc o).cell? ⟨g, 0, none⟩ = some (.int .i64 t.kind)) ∧ (∀ o, (w.alloc o).cell? ⟨g, 1, none⟩ = some (.string t.name)) ∧ (∀ o, (w.alloc o).cell? ⟨g, 2, none⟩ = some (.string t.other)) ∧ (∀ o, (w.alloc o).cell? ⟨g, 3, none⟩ = some (.int .i64 t.n)) ∧
    (∀ o, (w.alloc o).cell? ⟨g, 4, none⟩ = some (.int .i64 t.type.kind)) ∧ (∀ o, (w.alloc o).cell? ⟨g, 5, none⟩ = some (.slice l.ta l.tn l.tc)) ∧ (∀ o, (w.alloc o).cell? ⟨g, 6, none⟩ = some (.int .i64 t.res.kind)) ∧ (∀ o, (w.alloc o).cell? ⟨g, 7, none⟩ = some (.slice l.ra l.rn l.rc)) ∧
    (∀ o, (w.alloc o).cell? ⟨g, 8, none⟩ = some (.slice l.aa l.an l.ac)) :=
  ⟨fun o => (h.alloc o).nine.1, fun o => (h.alloc o).nine.2.1, fun o => (h.alloc o).nine.2.2.1, fun o => (h.alloc o).nine.2.2.2.1, fun o => (h.alloc o).nine.2.2.2.2.1, fun o => (h.alloc o).nine.2.2.2.2.2.1, fun o => (h.alloc o).nine.2.2.2.2.2.2.1, fun o => (h.alloc o).nine.2.2.2.2.2.2.2.1, fun o => (h.alloc o).nine.2.2.2.2.2.2.2.2⟩
end Go.Proofs.YtklifieahcoljaaGreat

namespace Go.Proofs.YtklifieahcoljaaGreat
open Go.RowKit
set_option maxRecDepth 100000
set_option linter.unusedVariables false
set_option linter.unusedSimpArgs false

set_option maxHeartbeats 6400000 in
theorem isForm_1 (t : Tm) (l : Lt) (w : World) (h : Md w t l) (hw : t.wt ≤ 1048576) (hk : t.kind = 1) :
    Calls Tryz.prog 51 #[.agg #[.int .i64 t.kind, .string t.name, .string t.other, .int .i64 t.n, .int .i64 t.type.kind, .slice l.ta l.tn l.tc, .int .i64 t.res.kind, .slice l.ra l.rn l.rc, .slice l.aa l.an l.ac]] w fun e w' => e = .returned (.bool (formI t)) ∧ Below w.heap.size w w' := by
  obtain ⟨-, ht, hre, hm⟩ := h.shape
  have hx : (l.an : Int) = (t.args.length : Int) := by rw [hm.1]
  have hf := formI_eq t
  rw [← hx] at hf
  have CA := hide fun W => arity_any t l W
  have CN := fun W (hW : Below w.heap.size w W) => isNamed_any t l W (h.below hW) hw
  have RT0 : ∀ W, Below w.heap.size w W → Rd W t.type (.int .i64 t.type.kind) (.slice l.ta l.tn l.tc) := fun W hW => ht.below hW
  have RR0 : ∀ W, Below w.heap.size w W → Rd W t.res (.int .i64 t.res.kind) (.slice l.ra l.rn l.rc) := fun W hW => hre.below hW
  have CE1 := hide fun W (hW : Below w.heap.size w W) => implEqualType_any t.type ⟨0, []⟩ _ _ _ _ W (RT0 W hW) (Rd_zero W)
  have CE2 := hide fun W (hW : Below w.heap.size w W) => implEqualType_any t.res ⟨0, []⟩ _ _ _ _ W (RR0 W hW) (Rd_zero W)
  clear ht hre hm hw hx RT0 RR0 h
  have k0 : Below w.heap.size w (w.alloc (.cells #[.int .i64 t.kind, .string t.name, .string t.other, .int .i64 t.n, .int .i64 t.type.kind, .slice l.ta l.tn l.tc, .int .i64 t.res.kind, .slice l.ra l.rn l.rc, .slice l.aa l.an l.ac] 29)) := below_new _ _
  obtain ⟨k, nm, ot, n, ty, re, xs⟩ := t
  dsimp only at *
  subst hk
  have WN : wantName ⟨1, nm, ot, n, ty, re, xs⟩ = nm := by simp [wantName]
  have WO : wantOther ⟨1, nm, ot, n, ty, re, xs⟩ = ⟨#[]⟩ := by simp [wantOther]
  have WI : wantN ⟨1, nm, ot, n, ty, re, xs⟩ = 0 := by simp [wantN]
  have WT : wantType ⟨1, nm, ot, n, ty, re, xs⟩ = ⟨0, []⟩ := by simp [wantType]
  have WR : wantRes ⟨1, nm, ot, n, ty, re, xs⟩ = ⟨0, []⟩ := by simp [wantRes]
  rw [WN, WO, WI, WT, WR] at hf
  clear WN WO WI WT WR
  cases hz : ((l.an : Int) == arityI 1 nm) with
  | false =>
    rw [hz] at hf
    rw [Bool.false_and] at hf
    replace hf := hide hf
    have hz1 : ((l.an : Int) != arityI 1 nm) = true := by simp [bne, hz]
    replace hz := hide hz
    have B0 := Blk.new w 29 #[.int .i64 1, .string nm, .string ot, .int .i64 n, .int .i64 ty.kind, .slice l.ta l.tn l.tc, .int .i64 re.kind, .slice l.ra l.rn l.rc, .slice l.aa l.an l.ac]
    have kd : Below w.heap.size w (w.alloc (.cells #[.int .i64 1, .string nm, .string ot, .int .i64 n, .int .i64 ty.kind, .slice l.ta l.tn l.tc, .int .i64 re.kind, .slice l.ra l.rn l.rc, .slice l.aa l.an l.ac] 29)).drew := below_next k0 (below_drew _)
    obtain ⟨u0, u1, u2, u3, u4, u5, u6, u7, u8⟩ := Blk.nine (t := ⟨1, nm, ot, n, ty, re, xs⟩) (l := l) B0
    dsimp only at u0 u1 u2 u3 u4 u5 u6 u7 u8
    go_enter Tryz.func51, Tryz.ntmps51
    go_wp2_with fail
    go_region_held3 (fun W => (W.cell? ⟨w.heap.size, 0, none⟩ = some (.int .i64 1) ∧ W.cell? ⟨w.heap.size, 1, none⟩ = some (.string nm) ∧ W.cell? ⟨w.heap.size, 2, none⟩ = some (.string ot) ∧ W.cell? ⟨w.heap.size, 3, none⟩ = some (.int .i64 n) ∧ W.cell? ⟨w.heap.size, 4, none⟩ = some (.int .i64 ty.kind) ∧ W.cell? ⟨w.heap.size, 5, none⟩ = some (.slice l.ta l.tn l.tc) ∧ W.cell? ⟨w.heap.size, 6, none⟩ = some (.int .i64 re.kind) ∧ W.cell? ⟨w.heap.size, 7, none⟩ = some (.slice l.ra l.rn l.rc) ∧ W.cell? ⟨w.heap.size, 8, none⟩ = some (.slice l.aa l.an l.ac)))
      (first | exact ⟨u0, u1, u2, u3, u4, u5, u6, u7, u8⟩ | exact Blk.nine (t := ⟨1, nm, ot, n, ty, re, xs⟩) (l := l) B1)
      (first
        | (go_at_call 77; (with_reducible refine (CA.out _).mono ?_); rintro e w1 ⟨rfl, b1⟩
           have B1 : Blk w1 _ _ _ := Blk.under (w := (w.alloc (.cells #[.int .i64 1, .string nm, .string ot, .int .i64 n, .int .i64 ty.kind, .slice l.ta l.tn l.tc, .int .i64 re.kind, .slice l.ra l.rn l.rc, .slice l.aa l.an l.ac] 29)).drew) B0 b1
           have k1 := below_next kd b1))
    go_wp2_with fail
    go_ret
    exact ⟨ret_bool hf.out.symm, k1⟩
  | true =>
    rw [hz] at hf
    rw [Bool.true_and] at hf
    have hz1 : ((l.an : Int) != arityI 1 nm) = false := by simp [bne, hz]
    replace hz := hide hz
    cases hn : namedI ⟨1, nm, ot, n, ty, re, xs⟩ with
    | false =>
      have CN1 := CN
      rw [hn] at hf CN1
      rw [Bool.false_and] at hf
      replace hf := hide hf
      replace CN1 := hide CN1
      replace hn := hide hn
      clear CN
      have B0 := Blk.new w 29 #[.int .i64 1, .string nm, .string ot, .int .i64 n, .int .i64 ty.kind, .slice l.ta l.tn l.tc, .int .i64 re.kind, .slice l.ra l.rn l.rc, .slice l.aa l.an l.ac]
      have kd : Below w.heap.size w (w.alloc (.cells #[.int .i64 1, .string nm, .string ot, .int .i64 n, .int .i64 ty.kind, .slice l.ta l.tn l.tc, .int .i64 re.kind, .slice l.ra l.rn l.rc, .slice l.aa l.an l.ac] 29)).drew := below_next k0 (below_drew _)
      obtain ⟨u0, u1, u2, u3, u4, u5, u6, u7, u8⟩ := Blk.nine (t := ⟨1, nm, ot, n, ty, re, xs⟩) (l := l) B0
      dsimp only at u0 u1 u2 u3 u4 u5 u6 u7 u8
      go_enter Tryz.func51, Tryz.ntmps51
      go_wp2_with fail
      go_region_held3 (fun W => (W.cell? ⟨w.heap.size, 0, none⟩ = some (.int .i64 1) ∧ W.cell? ⟨w.heap.size, 1, none⟩ = some (.string nm) ∧ W.cell? ⟨w.heap.size, 2, none⟩ = some (.string ot) ∧ W.cell? ⟨w.heap.size, 3, none⟩ = some (.int .i64 n) ∧ W.cell? ⟨w.heap.size, 4, none⟩ = some (.int .i64 ty.kind) ∧ W.cell? ⟨w.heap.size, 5, none⟩ = some (.slice l.ta l.tn l.tc) ∧ W.cell? ⟨w.heap.size, 6, none⟩ = some (.int .i64 re.kind) ∧ W.cell? ⟨w.heap.size, 7, none⟩ = some (.slice l.ra l.rn l.rc) ∧ W.cell? ⟨w.heap.size, 8, none⟩ = some (.slice l.aa l.an l.ac)))
        (first | exact ⟨u0, u1, u2, u3, u4, u5, u6, u7, u8⟩ | exact Blk.nine (t := ⟨1, nm, ot, n, ty, re, xs⟩) (l := l) B1)
        (first
          | (go_at_call 77; (with_reducible refine (CA.out _).mono ?_); rintro e w1 ⟨rfl, b1⟩
             have B1 : Blk w1 _ _ _ := Blk.under (w := (w.alloc (.cells #[.int .i64 1, .string nm, .string ot, .int .i64 n, .int .i64 ty.kind, .slice l.ta l.tn l.tc, .int .i64 re.kind, .slice l.ra l.rn l.rc, .slice l.aa l.an l.ac] 29)).drew) B0 b1
             have k1 := below_next kd b1))
      obtain ⟨v0, v1, v2, v3, v4, v5, v6, v7, v8⟩ := Blk.nine (t := ⟨1, nm, ot, n, ty, re, xs⟩) (l := l) B1
      dsimp only at v0 v1 v2 v3 v4 v5 v6 v7 v8
      obtain ⟨r0, r1, r2, r3, r4, r5, r6, r7, r8⟩ := Blk.nine_new (t := ⟨1, nm, ot, n, ty, re, xs⟩) (l := l) B1
      dsimp only at r0 r1 r2 r3 r4 r5 r6 r7 r8
      have km : Below w.heap.size w (w1.alloc (.cells #[.int .i64 1, .string nm, .string ⟨#[]⟩, .int .i64 0, .int .i64 0, .slice none 0 0, .int .i64 0, .slice none 0 0, .slice none 0 0] 29)) := below_next k1 (below_new _ _)
      go_wp2_with (first
          | (go_at_call 78; (with_reducible refine (CN1.out _ km).mono ?_); rintro e w2 ⟨rfl, b2⟩
             have k2 := below_next km b2
             have B2 : Blk w2 _ _ _ := Blk.under (w := (w1.alloc (.cells #[.int .i64 1, .string nm, .string ⟨#[]⟩, .int .i64 0, .int .i64 0, .slice none 0 0, .int .i64 0, .slice none 0 0, .slice none 0 0] 29))) (B1.alloc _) b2
             have M2 : Blk w2 _ _ _ := Blk.under (w := (w1.alloc (.cells #[.int .i64 1, .string nm, .string ⟨#[]⟩, .int .i64 0, .int .i64 0, .slice none 0 0, .int .i64 0, .slice none 0 0, .slice none 0 0] 29))) (Blk.new w1 29 #[.int .i64 1, .string nm, .string ⟨#[]⟩, .int .i64 0, .int .i64 0, .slice none 0 0, .int .i64 0, .slice none 0 0, .slice none 0 0]) b2
             obtain ⟨p0, p1, p2, p3, p4, p5, p6, p7, p8⟩ := Blk.nine (t := ⟨1, nm, ot, n, ty, re, xs⟩) (l := l) B2
             dsimp only at p0 p1 p2 p3 p4 p5 p6 p7 p8
             obtain ⟨q0, q1, q2, q3, q4, q5, q6, q7, q8⟩ : _ ∧ _ ∧ _ ∧ _ ∧ _ ∧ _ ∧ _ ∧ _ ∧ _ := ⟨M2.cell 0, M2.cell 1, M2.cell 2, M2.cell 3, M2.cell 4, M2.cell 5, M2.cell 6, M2.cell 7, M2.cell 8⟩
             simp at q0 q1 q2 q3 q4 q5 q6 q7 q8)
          | (go_at_call 79; (with_reducible refine (CE1.out _ k2).mono ?_); rintro e w3 ⟨rfl, b3⟩
             have k3 := below_next k2 b3
             have B3 := B2.under b3
             have M3 := M2.under b3
             obtain ⟨p0', p1', p2', p3', p4', p5', p6', p7', p8'⟩ := Blk.nine (t := ⟨1, nm, ot, n, ty, re, xs⟩) (l := l) B3
             dsimp only at p0' p1' p2' p3' p4' p5' p6' p7' p8'
             obtain ⟨q0', q1', q2', q3', q4', q5', q6', q7', q8'⟩ : _ ∧ _ ∧ _ ∧ _ ∧ _ ∧ _ ∧ _ ∧ _ ∧ _ := ⟨M3.cell 0, M3.cell 1, M3.cell 2, M3.cell 3, M3.cell 4, M3.cell 5, M3.cell 6, M3.cell 7, M3.cell 8⟩
             simp at q0' q1' q2' q3' q4' q5' q6' q7' q8')
          | (go_at_call 79; (with_reducible refine (CE2.out _ k3).mono ?_); rintro e w4 ⟨rfl, b4⟩
             have k4 := below_next k3 b4))
      all_goals go_ret
      all_goals exact ⟨ret_bool hf.out.symm, k2⟩
    | true =>
      have CN1 := CN
      rw [hn] at hf CN1
      rw [Bool.true_and] at hf
      replace hf := hide hf
      replace CN1 := hide CN1
      replace hn := hide hn
      clear CN
      have B0 := Blk.new w 29 #[.int .i64 1, .string nm, .string ot, .int .i64 n, .int .i64 ty.kind, .slice l.ta l.tn l.tc, .int .i64 re.kind, .slice l.ra l.rn l.rc, .slice l.aa l.an l.ac]
      have kd : Below w.heap.size w (w.alloc (.cells #[.int .i64 1, .string nm, .string ot, .int .i64 n, .int .i64 ty.kind, .slice l.ta l.tn l.tc, .int .i64 re.kind, .slice l.ra l.rn l.rc, .slice l.aa l.an l.ac] 29)).drew := below_next k0 (below_drew _)
      obtain ⟨u0, u1, u2, u3, u4, u5, u6, u7, u8⟩ := Blk.nine (t := ⟨1, nm, ot, n, ty, re, xs⟩) (l := l) B0
      dsimp only at u0 u1 u2 u3 u4 u5 u6 u7 u8
      go_enter Tryz.func51, Tryz.ntmps51
      go_wp2_with fail
      go_region_held3 (fun W => (W.cell? ⟨w.heap.size, 0, none⟩ = some (.int .i64 1) ∧ W.cell? ⟨w.heap.size, 1, none⟩ = some (.string nm) ∧ W.cell? ⟨w.heap.size, 2, none⟩ = some (.string ot) ∧ W.cell? ⟨w.heap.size, 3, none⟩ = some (.int .i64 n) ∧ W.cell? ⟨w.heap.size, 4, none⟩ = some (.int .i64 ty.kind) ∧ W.cell? ⟨w.heap.size, 5, none⟩ = some (.slice l.ta l.tn l.tc) ∧ W.cell? ⟨w.heap.size, 6, none⟩ = some (.int .i64 re.kind) ∧ W.cell? ⟨w.heap.size, 7, none⟩ = some (.slice l.ra l.rn l.rc) ∧ W.cell? ⟨w.heap.size, 8, none⟩ = some (.slice l.aa l.an l.ac)))
        (first | exact ⟨u0, u1, u2, u3, u4, u5, u6, u7, u8⟩ | exact Blk.nine (t := ⟨1, nm, ot, n, ty, re, xs⟩) (l := l) B1)
        (first
          | (go_at_call 77; (with_reducible refine (CA.out _).mono ?_); rintro e w1 ⟨rfl, b1⟩
             have B1 : Blk w1 _ _ _ := Blk.under (w := (w.alloc (.cells #[.int .i64 1, .string nm, .string ot, .int .i64 n, .int .i64 ty.kind, .slice l.ta l.tn l.tc, .int .i64 re.kind, .slice l.ra l.rn l.rc, .slice l.aa l.an l.ac] 29)).drew) B0 b1
             have k1 := below_next kd b1))
      obtain ⟨v0, v1, v2, v3, v4, v5, v6, v7, v8⟩ := Blk.nine (t := ⟨1, nm, ot, n, ty, re, xs⟩) (l := l) B1
      dsimp only at v0 v1 v2 v3 v4 v5 v6 v7 v8
      obtain ⟨r0, r1, r2, r3, r4, r5, r6, r7, r8⟩ := Blk.nine_new (t := ⟨1, nm, ot, n, ty, re, xs⟩) (l := l) B1
      dsimp only at r0 r1 r2 r3 r4 r5 r6 r7 r8
      have km : Below w.heap.size w (w1.alloc (.cells #[.int .i64 1, .string nm, .string ⟨#[]⟩, .int .i64 0, .int .i64 0, .slice none 0 0, .int .i64 0, .slice none 0 0, .slice none 0 0] 29)) := below_next k1 (below_new _ _)
      go_wp2_with (first
          | (go_at_call 78; (with_reducible refine (CN1.out _ km).mono ?_); rintro e w2 ⟨rfl, b2⟩
             have k2 := below_next km b2
             have B2 : Blk w2 _ _ _ := Blk.under (w := (w1.alloc (.cells #[.int .i64 1, .string nm, .string ⟨#[]⟩, .int .i64 0, .int .i64 0, .slice none 0 0, .int .i64 0, .slice none 0 0, .slice none 0 0] 29))) (B1.alloc _) b2
             have M2 : Blk w2 _ _ _ := Blk.under (w := (w1.alloc (.cells #[.int .i64 1, .string nm, .string ⟨#[]⟩, .int .i64 0, .int .i64 0, .slice none 0 0, .int .i64 0, .slice none 0 0, .slice none 0 0] 29))) (Blk.new w1 29 #[.int .i64 1, .string nm, .string ⟨#[]⟩, .int .i64 0, .int .i64 0, .slice none 0 0, .int .i64 0, .slice none 0 0, .slice none 0 0]) b2
             obtain ⟨p0, p1, p2, p3, p4, p5, p6, p7, p8⟩ := Blk.nine (t := ⟨1, nm, ot, n, ty, re, xs⟩) (l := l) B2
             dsimp only at p0 p1 p2 p3 p4 p5 p6 p7 p8
             obtain ⟨q0, q1, q2, q3, q4, q5, q6, q7, q8⟩ : _ ∧ _ ∧ _ ∧ _ ∧ _ ∧ _ ∧ _ ∧ _ ∧ _ := ⟨M2.cell 0, M2.cell 1, M2.cell 2, M2.cell 3, M2.cell 4, M2.cell 5, M2.cell 6, M2.cell 7, M2.cell 8⟩
             simp at q0 q1 q2 q3 q4 q5 q6 q7 q8)
          | (go_at_call 79; (with_reducible refine (CE1.out _ k2).mono ?_); rintro e w3 ⟨rfl, b3⟩
             have k3 := below_next k2 b3
             have B3 := B2.under b3
             have M3 := M2.under b3
             obtain ⟨p0', p1', p2', p3', p4', p5', p6', p7', p8'⟩ := Blk.nine (t := ⟨1, nm, ot, n, ty, re, xs⟩) (l := l) B3
             dsimp only at p0' p1' p2' p3' p4' p5' p6' p7' p8'
             obtain ⟨q0', q1', q2', q3', q4', q5', q6', q7', q8'⟩ : _ ∧ _ ∧ _ ∧ _ ∧ _ ∧ _ ∧ _ ∧ _ ∧ _ := ⟨M3.cell 0, M3.cell 1, M3.cell 2, M3.cell 3, M3.cell 4, M3.cell 5, M3.cell 6, M3.cell 7, M3.cell 8⟩
             simp at q0' q1' q2' q3' q4' q5' q6' q7' q8')
          | (go_at_call 79; (with_reducible refine (CE2.out _ k3).mono ?_); rintro e w4 ⟨rfl, b4⟩
             have k4 := below_next k3 b4))
      all_goals go_ret
      all_goals first
        | exact ⟨ret_bool (by rw [hf.out]; simp_all), k4⟩
        | exact ⟨ret_bool (by rw [hf.out]; simp_all), k3⟩
        | exact ⟨ret_bool (by rw [hf.out]; simp_all), k2⟩
        | trace_state

set_option maxHeartbeats 6400000 in
theorem isForm_8 (t : Tm) (l : Lt) (w : World) (h : Md w t l) (hw : t.wt ≤ 1048576) (hk : t.kind = 8) :
    Calls Tryz.prog 51 #[.agg #[.int .i64 t.kind, .string t.name, .string t.other, .int .i64 t.n, .int .i64 t.type.kind, .slice l.ta l.tn l.tc, .int .i64 t.res.kind, .slice l.ra l.rn l.rc, .slice l.aa l.an l.ac]] w fun e w' => e = .returned (.bool (formI t)) ∧ Below w.heap.size w w' := by
  obtain ⟨-, ht, hre, hm⟩ := h.shape
  have hx : (l.an : Int) = (t.args.length : Int) := by rw [hm.1]
  have hf := formI_eq t
  rw [← hx] at hf
  have CA := hide fun W => arity_any t l W
  have CN := fun W (hW : Below w.heap.size w W) => isNamed_any t l W (h.below hW) hw
  have RT0 : ∀ W, Below w.heap.size w W → Rd W t.type (.int .i64 t.type.kind) (.slice l.ta l.tn l.tc) := fun W hW => ht.below hW
  have RR0 : ∀ W, Below w.heap.size w W → Rd W t.res (.int .i64 t.res.kind) (.slice l.ra l.rn l.rc) := fun W hW => hre.below hW
  have CE1 := hide fun W (hW : Below w.heap.size w W) => implEqualType_any t.type ⟨0, []⟩ _ _ _ _ W (RT0 W hW) (Rd_zero W)
  have CE2 := hide fun W (hW : Below w.heap.size w W) => implEqualType_any t.res ⟨0, []⟩ _ _ _ _ W (RR0 W hW) (Rd_zero W)
  clear ht hre hm hw hx RT0 RR0 h
  have k0 : Below w.heap.size w (w.alloc (.cells #[.int .i64 t.kind, .string t.name, .string t.other, .int .i64 t.n, .int .i64 t.type.kind, .slice l.ta l.tn l.tc, .int .i64 t.res.kind, .slice l.ra l.rn l.rc, .slice l.aa l.an l.ac] 29)) := below_new _ _
  obtain ⟨k, nm, ot, n, ty, re, xs⟩ := t
  dsimp only at *
  subst hk
  have WN : wantName ⟨8, nm, ot, n, ty, re, xs⟩ = nm := by simp [wantName]
  have WO : wantOther ⟨8, nm, ot, n, ty, re, xs⟩ = ⟨#[]⟩ := by simp [wantOther]
  have WI : wantN ⟨8, nm, ot, n, ty, re, xs⟩ = 0 := by simp [wantN]
  have WT : wantType ⟨8, nm, ot, n, ty, re, xs⟩ = ⟨0, []⟩ := by simp [wantType]
  have WR : wantRes ⟨8, nm, ot, n, ty, re, xs⟩ = ⟨0, []⟩ := by simp [wantRes]
  rw [WN, WO, WI, WT, WR] at hf
  clear WN WO WI WT WR
  cases hz : ((l.an : Int) == arityI 8 nm) with
  | false =>
    rw [hz] at hf
    rw [Bool.false_and] at hf
    replace hf := hide hf
    have hz1 : ((l.an : Int) != arityI 8 nm) = true := by simp [bne, hz]
    replace hz := hide hz
    have B0 := Blk.new w 29 #[.int .i64 8, .string nm, .string ot, .int .i64 n, .int .i64 ty.kind, .slice l.ta l.tn l.tc, .int .i64 re.kind, .slice l.ra l.rn l.rc, .slice l.aa l.an l.ac]
    have kd : Below w.heap.size w (w.alloc (.cells #[.int .i64 8, .string nm, .string ot, .int .i64 n, .int .i64 ty.kind, .slice l.ta l.tn l.tc, .int .i64 re.kind, .slice l.ra l.rn l.rc, .slice l.aa l.an l.ac] 29)).drew := below_next k0 (below_drew _)
    obtain ⟨u0, u1, u2, u3, u4, u5, u6, u7, u8⟩ := Blk.nine (t := ⟨8, nm, ot, n, ty, re, xs⟩) (l := l) B0
    dsimp only at u0 u1 u2 u3 u4 u5 u6 u7 u8
    go_enter Tryz.func51, Tryz.ntmps51
    go_wp2_with fail
    go_region_held3 (fun W => (W.cell? ⟨w.heap.size, 0, none⟩ = some (.int .i64 8) ∧ W.cell? ⟨w.heap.size, 1, none⟩ = some (.string nm) ∧ W.cell? ⟨w.heap.size, 2, none⟩ = some (.string ot) ∧ W.cell? ⟨w.heap.size, 3, none⟩ = some (.int .i64 n) ∧ W.cell? ⟨w.heap.size, 4, none⟩ = some (.int .i64 ty.kind) ∧ W.cell? ⟨w.heap.size, 5, none⟩ = some (.slice l.ta l.tn l.tc) ∧ W.cell? ⟨w.heap.size, 6, none⟩ = some (.int .i64 re.kind) ∧ W.cell? ⟨w.heap.size, 7, none⟩ = some (.slice l.ra l.rn l.rc) ∧ W.cell? ⟨w.heap.size, 8, none⟩ = some (.slice l.aa l.an l.ac)))
      (first | exact ⟨u0, u1, u2, u3, u4, u5, u6, u7, u8⟩ | exact Blk.nine (t := ⟨8, nm, ot, n, ty, re, xs⟩) (l := l) B1)
      (first
        | (go_at_call 77; (with_reducible refine (CA.out _).mono ?_); rintro e w1 ⟨rfl, b1⟩
           have B1 : Blk w1 _ _ _ := Blk.under (w := (w.alloc (.cells #[.int .i64 8, .string nm, .string ot, .int .i64 n, .int .i64 ty.kind, .slice l.ta l.tn l.tc, .int .i64 re.kind, .slice l.ra l.rn l.rc, .slice l.aa l.an l.ac] 29)).drew) B0 b1
           have k1 := below_next kd b1))
    go_wp2_with fail
    go_ret
    exact ⟨ret_bool hf.out.symm, k1⟩
  | true =>
    rw [hz] at hf
    rw [Bool.true_and] at hf
    have hz1 : ((l.an : Int) != arityI 8 nm) = false := by simp [bne, hz]
    replace hz := hide hz
    cases hn : namedI ⟨8, nm, ot, n, ty, re, xs⟩ with
    | false =>
      have CN1 := CN
      rw [hn] at hf CN1
      rw [Bool.false_and] at hf
      replace hf := hide hf
      replace CN1 := hide CN1
      replace hn := hide hn
      clear CN
      have B0 := Blk.new w 29 #[.int .i64 8, .string nm, .string ot, .int .i64 n, .int .i64 ty.kind, .slice l.ta l.tn l.tc, .int .i64 re.kind, .slice l.ra l.rn l.rc, .slice l.aa l.an l.ac]
      have kd : Below w.heap.size w (w.alloc (.cells #[.int .i64 8, .string nm, .string ot, .int .i64 n, .int .i64 ty.kind, .slice l.ta l.tn l.tc, .int .i64 re.kind, .slice l.ra l.rn l.rc, .slice l.aa l.an l.ac] 29)).drew := below_next k0 (below_drew _)
      obtain ⟨u0, u1, u2, u3, u4, u5, u6, u7, u8⟩ := Blk.nine (t := ⟨8, nm, ot, n, ty, re, xs⟩) (l := l) B0
      dsimp only at u0 u1 u2 u3 u4 u5 u6 u7 u8
      go_enter Tryz.func51, Tryz.ntmps51
      go_wp2_with fail
      go_region_held3 (fun W => (W.cell? ⟨w.heap.size, 0, none⟩ = some (.int .i64 8) ∧ W.cell? ⟨w.heap.size, 1, none⟩ = some (.string nm) ∧ W.cell? ⟨w.heap.size, 2, none⟩ = some (.string ot) ∧ W.cell? ⟨w.heap.size, 3, none⟩ = some (.int .i64 n) ∧ W.cell? ⟨w.heap.size, 4, none⟩ = some (.int .i64 ty.kind) ∧ W.cell? ⟨w.heap.size, 5, none⟩ = some (.slice l.ta l.tn l.tc) ∧ W.cell? ⟨w.heap.size, 6, none⟩ = some (.int .i64 re.kind) ∧ W.cell? ⟨w.heap.size, 7, none⟩ = some (.slice l.ra l.rn l.rc) ∧ W.cell? ⟨w.heap.size, 8, none⟩ = some (.slice l.aa l.an l.ac)))
        (first | exact ⟨u0, u1, u2, u3, u4, u5, u6, u7, u8⟩ | exact Blk.nine (t := ⟨8, nm, ot, n, ty, re, xs⟩) (l := l) B1)
        (first
          | (go_at_call 77; (with_reducible refine (CA.out _).mono ?_); rintro e w1 ⟨rfl, b1⟩
             have B1 : Blk w1 _ _ _ := Blk.under (w := (w.alloc (.cells #[.int .i64 8, .string nm, .string ot, .int .i64 n, .int .i64 ty.kind, .slice l.ta l.tn l.tc, .int .i64 re.kind, .slice l.ra l.rn l.rc, .slice l.aa l.an l.ac] 29)).drew) B0 b1
             have k1 := below_next kd b1))
      obtain ⟨v0, v1, v2, v3, v4, v5, v6, v7, v8⟩ := Blk.nine (t := ⟨8, nm, ot, n, ty, re, xs⟩) (l := l) B1
      dsimp only at v0 v1 v2 v3 v4 v5 v6 v7 v8
      obtain ⟨r0, r1, r2, r3, r4, r5, r6, r7, r8⟩ := Blk.nine_new (t := ⟨8, nm, ot, n, ty, re, xs⟩) (l := l) B1
      dsimp only at r0 r1 r2 r3 r4 r5 r6 r7 r8
      have km : Below w.heap.size w (w1.alloc (.cells #[.int .i64 8, .string nm, .string ⟨#[]⟩, .int .i64 0, .int .i64 0, .slice none 0 0, .int .i64 0, .slice none 0 0, .slice none 0 0] 29)) := below_next k1 (below_new _ _)
      go_wp2_with (first
          | (go_at_call 78; (with_reducible refine (CN1.out _ km).mono ?_); rintro e w2 ⟨rfl, b2⟩
             have k2 := below_next km b2
             have B2 : Blk w2 _ _ _ := Blk.under (w := (w1.alloc (.cells #[.int .i64 8, .string nm, .string ⟨#[]⟩, .int .i64 0, .int .i64 0, .slice none 0 0, .int .i64 0, .slice none 0 0, .slice none 0 0] 29))) (B1.alloc _) b2
             have M2 : Blk w2 _ _ _ := Blk.under (w := (w1.alloc (.cells #[.int .i64 8, .string nm, .string ⟨#[]⟩, .int .i64 0, .int .i64 0, .slice none 0 0, .int .i64 0, .slice none 0 0, .slice none 0 0] 29))) (Blk.new w1 29 #[.int .i64 8, .string nm, .string ⟨#[]⟩, .int .i64 0, .int .i64 0, .slice none 0 0, .int .i64 0, .slice none 0 0, .slice none 0 0]) b2
             obtain ⟨p0, p1, p2, p3, p4, p5, p6, p7, p8⟩ := Blk.nine (t := ⟨8, nm, ot, n, ty, re, xs⟩) (l := l) B2
             dsimp only at p0 p1 p2 p3 p4 p5 p6 p7 p8
             obtain ⟨q0, q1, q2, q3, q4, q5, q6, q7, q8⟩ : _ ∧ _ ∧ _ ∧ _ ∧ _ ∧ _ ∧ _ ∧ _ ∧ _ := ⟨M2.cell 0, M2.cell 1, M2.cell 2, M2.cell 3, M2.cell 4, M2.cell 5, M2.cell 6, M2.cell 7, M2.cell 8⟩
             simp at q0 q1 q2 q3 q4 q5 q6 q7 q8)
          | (go_at_call 79; (with_reducible refine (CE1.out _ k2).mono ?_); rintro e w3 ⟨rfl, b3⟩
             have k3 := below_next k2 b3
             have B3 := B2.under b3
             have M3 := M2.under b3
             obtain ⟨p0', p1', p2', p3', p4', p5', p6', p7', p8'⟩ := Blk.nine (t := ⟨8, nm, ot, n, ty, re, xs⟩) (l := l) B3
             dsimp only at p0' p1' p2' p3' p4' p5' p6' p7' p8'
             obtain ⟨q0', q1', q2', q3', q4', q5', q6', q7', q8'⟩ : _ ∧ _ ∧ _ ∧ _ ∧ _ ∧ _ ∧ _ ∧ _ ∧ _ := ⟨M3.cell 0, M3.cell 1, M3.cell 2, M3.cell 3, M3.cell 4, M3.cell 5, M3.cell 6, M3.cell 7, M3.cell 8⟩
             simp at q0' q1' q2' q3' q4' q5' q6' q7' q8')
          | (go_at_call 79; (with_reducible refine (CE2.out _ k3).mono ?_); rintro e w4 ⟨rfl, b4⟩
             have k4 := below_next k3 b4))
      all_goals go_ret
      all_goals exact ⟨ret_bool hf.out.symm, k2⟩
    | true =>
      have CN1 := CN
      rw [hn] at hf CN1
      rw [Bool.true_and] at hf
      replace hf := hide hf
      replace CN1 := hide CN1
      replace hn := hide hn
      clear CN
      have B0 := Blk.new w 29 #[.int .i64 8, .string nm, .string ot, .int .i64 n, .int .i64 ty.kind, .slice l.ta l.tn l.tc, .int .i64 re.kind, .slice l.ra l.rn l.rc, .slice l.aa l.an l.ac]
      have kd : Below w.heap.size w (w.alloc (.cells #[.int .i64 8, .string nm, .string ot, .int .i64 n, .int .i64 ty.kind, .slice l.ta l.tn l.tc, .int .i64 re.kind, .slice l.ra l.rn l.rc, .slice l.aa l.an l.ac] 29)).drew := below_next k0 (below_drew _)
      obtain ⟨u0, u1, u2, u3, u4, u5, u6, u7, u8⟩ := Blk.nine (t := ⟨8, nm, ot, n, ty, re, xs⟩) (l := l) B0
      dsimp only at u0 u1 u2 u3 u4 u5 u6 u7 u8
      go_enter Tryz.func51, Tryz.ntmps51
      go_wp2_with fail
      go_region_held3 (fun W => (W.cell? ⟨w.heap.size, 0, none⟩ = some (.int .i64 8) ∧ W.cell? ⟨w.heap.size, 1, none⟩ = some (.string nm) ∧ W.cell? ⟨w.heap.size, 2, none⟩ = some (.string ot) ∧ W.cell? ⟨w.heap.size, 3, none⟩ = some (.int .i64 n) ∧ W.cell? ⟨w.heap.size, 4, none⟩ = some (.int .i64 ty.kind) ∧ W.cell? ⟨w.heap.size, 5, none⟩ = some (.slice l.ta l.tn l.tc) ∧ W.cell? ⟨w.heap.size, 6, none⟩ = some (.int .i64 re.kind) ∧ W.cell? ⟨w.heap.size, 7, none⟩ = some (.slice l.ra l.rn l.rc) ∧ W.cell? ⟨w.heap.size, 8, none⟩ = some (.slice l.aa l.an l.ac)))
        (first | exact ⟨u0, u1, u2, u3, u4, u5, u6, u7, u8⟩ | exact Blk.nine (t := ⟨8, nm, ot, n, ty, re, xs⟩) (l := l) B1)
        (first
          | (go_at_call 77; (with_reducible refine (CA.out _).mono ?_); rintro e w1 ⟨rfl, b1⟩
             have B1 : Blk w1 _ _ _ := Blk.under (w := (w.alloc (.cells #[.int .i64 8, .string nm, .string ot, .int .i64 n, .int .i64 ty.kind, .slice l.ta l.tn l.tc, .int .i64 re.kind, .slice l.ra l.rn l.rc, .slice l.aa l.an l.ac] 29)).drew) B0 b1
             have k1 := below_next kd b1))
      obtain ⟨v0, v1, v2, v3, v4, v5, v6, v7, v8⟩ := Blk.nine (t := ⟨8, nm, ot, n, ty, re, xs⟩) (l := l) B1
      dsimp only at v0 v1 v2 v3 v4 v5 v6 v7 v8
      obtain ⟨r0, r1, r2, r3, r4, r5, r6, r7, r8⟩ := Blk.nine_new (t := ⟨8, nm, ot, n, ty, re, xs⟩) (l := l) B1
      dsimp only at r0 r1 r2 r3 r4 r5 r6 r7 r8
      have km : Below w.heap.size w (w1.alloc (.cells #[.int .i64 8, .string nm, .string ⟨#[]⟩, .int .i64 0, .int .i64 0, .slice none 0 0, .int .i64 0, .slice none 0 0, .slice none 0 0] 29)) := below_next k1 (below_new _ _)
      go_wp2_with (first
          | (go_at_call 78; (with_reducible refine (CN1.out _ km).mono ?_); rintro e w2 ⟨rfl, b2⟩
             have k2 := below_next km b2
             have B2 : Blk w2 _ _ _ := Blk.under (w := (w1.alloc (.cells #[.int .i64 8, .string nm, .string ⟨#[]⟩, .int .i64 0, .int .i64 0, .slice none 0 0, .int .i64 0, .slice none 0 0, .slice none 0 0] 29))) (B1.alloc _) b2
             have M2 : Blk w2 _ _ _ := Blk.under (w := (w1.alloc (.cells #[.int .i64 8, .string nm, .string ⟨#[]⟩, .int .i64 0, .int .i64 0, .slice none 0 0, .int .i64 0, .slice none 0 0, .slice none 0 0] 29))) (Blk.new w1 29 #[.int .i64 8, .string nm, .string ⟨#[]⟩, .int .i64 0, .int .i64 0, .slice none 0 0, .int .i64 0, .slice none 0 0, .slice none 0 0]) b2
             obtain ⟨p0, p1, p2, p3, p4, p5, p6, p7, p8⟩ := Blk.nine (t := ⟨8, nm, ot, n, ty, re, xs⟩) (l := l) B2
             dsimp only at p0 p1 p2 p3 p4 p5 p6 p7 p8
             obtain ⟨q0, q1, q2, q3, q4, q5, q6, q7, q8⟩ : _ ∧ _ ∧ _ ∧ _ ∧ _ ∧ _ ∧ _ ∧ _ ∧ _ := ⟨M2.cell 0, M2.cell 1, M2.cell 2, M2.cell 3, M2.cell 4, M2.cell 5, M2.cell 6, M2.cell 7, M2.cell 8⟩
             simp at q0 q1 q2 q3 q4 q5 q6 q7 q8)
          | (go_at_call 79; (with_reducible refine (CE1.out _ k2).mono ?_); rintro e w3 ⟨rfl, b3⟩
             have k3 := below_next k2 b3
             have B3 := B2.under b3
             have M3 := M2.under b3
             obtain ⟨p0', p1', p2', p3', p4', p5', p6', p7', p8'⟩ := Blk.nine (t := ⟨8, nm, ot, n, ty, re, xs⟩) (l := l) B3
             dsimp only at p0' p1' p2' p3' p4' p5' p6' p7' p8'
             obtain ⟨q0', q1', q2', q3', q4', q5', q6', q7', q8'⟩ : _ ∧ _ ∧ _ ∧ _ ∧ _ ∧ _ ∧ _ ∧ _ ∧ _ := ⟨M3.cell 0, M3.cell 1, M3.cell 2, M3.cell 3, M3.cell 4, M3.cell 5, M3.cell 6, M3.cell 7, M3.cell 8⟩
             simp at q0' q1' q2' q3' q4' q5' q6' q7' q8')
          | (go_at_call 79; (with_reducible refine (CE2.out _ k3).mono ?_); rintro e w4 ⟨rfl, b4⟩
             have k4 := below_next k3 b4))
      all_goals go_ret
      all_goals first
        | exact ⟨ret_bool (by rw [hf.out]; simp_all), k4⟩
        | exact ⟨ret_bool (by rw [hf.out]; simp_all), k3⟩
        | exact ⟨ret_bool (by rw [hf.out]; simp_all), k2⟩
        | trace_state
end Go.Proofs.YtklifieahcoljaaGreat

namespace Go.Proofs.YtklifieahcoljaaGreat
open Go.RowKit
set_option maxRecDepth 100000
set_option linter.unusedVariables false
set_option linter.unusedSimpArgs false

set_option maxHeartbeats 6400000 in
theorem isForm_2 (t : Tm) (l : Lt) (w : World) (h : Md w t l) (hw : t.wt ≤ 1048576) (hk : t.kind = 2) :
    Calls Tryz.prog 51 #[.agg #[.int .i64 t.kind, .string t.name, .string t.other, .int .i64 t.n, .int .i64 t.type.kind, .slice l.ta l.tn l.tc, .int .i64 t.res.kind, .slice l.ra l.rn l.rc, .slice l.aa l.an l.ac]] w fun e w' => e = .returned (.bool (formI t)) ∧ Below w.heap.size w w' := by
  obtain ⟨-, ht, hre, hm⟩ := h.shape
  have hx : (l.an : Int) = (t.args.length : Int) := by rw [hm.1]
  have hf := formI_eq t
  rw [← hx] at hf
  have CA := hide fun W => arity_any t l W
  have CN := fun W (hW : Below w.heap.size w W) => isNamed_any t l W (h.below hW) hw
  have RT0 : ∀ W, Below w.heap.size w W → Rd W t.type (.int .i64 t.type.kind) (.slice l.ta l.tn l.tc) := fun W hW => ht.below hW
  have RR0 : ∀ W, Below w.heap.size w W → Rd W t.res (.int .i64 t.res.kind) (.slice l.ra l.rn l.rc) := fun W hW => hre.below hW
  have CE1 := hide fun W (hW : Below w.heap.size w W) => implEqualType_any t.type ⟨0, []⟩ _ _ _ _ W (RT0 W hW) (Rd_zero W)
  have CE2 := hide fun W (hW : Below w.heap.size w W) => implEqualType_any t.res ⟨0, []⟩ _ _ _ _ W (RR0 W hW) (Rd_zero W)
  clear ht hre hm hw hx RT0 RR0 h
  have k0 : Below w.heap.size w (w.alloc (.cells #[.int .i64 t.kind, .string t.name, .string t.other, .int .i64 t.n, .int .i64 t.type.kind, .slice l.ta l.tn l.tc, .int .i64 t.res.kind, .slice l.ra l.rn l.rc, .slice l.aa l.an l.ac] 29)) := below_new _ _
  obtain ⟨k, nm, ot, n, ty, re, xs⟩ := t
  dsimp only at *
  subst hk
  have WN : wantName ⟨2, nm, ot, n, ty, re, xs⟩ = ⟨#[]⟩ := by simp [wantName]
  have WO : wantOther ⟨2, nm, ot, n, ty, re, xs⟩ = ⟨#[]⟩ := by simp [wantOther]
  have WI : wantN ⟨2, nm, ot, n, ty, re, xs⟩ = n := by simp [wantN]
  have WT : wantType ⟨2, nm, ot, n, ty, re, xs⟩ = ⟨0, []⟩ := by simp [wantType]
  have WR : wantRes ⟨2, nm, ot, n, ty, re, xs⟩ = ⟨0, []⟩ := by simp [wantRes]
  rw [WN, WO, WI, WT, WR] at hf
  clear WN WO WI WT WR
  cases hz : ((l.an : Int) == arityI 2 nm) with
  | false =>
    rw [hz] at hf
    rw [Bool.false_and] at hf
    replace hf := hide hf
    have hz1 : ((l.an : Int) != arityI 2 nm) = true := by simp [bne, hz]
    replace hz := hide hz
    have B0 := Blk.new w 29 #[.int .i64 2, .string nm, .string ot, .int .i64 n, .int .i64 ty.kind, .slice l.ta l.tn l.tc, .int .i64 re.kind, .slice l.ra l.rn l.rc, .slice l.aa l.an l.ac]
    have kd : Below w.heap.size w (w.alloc (.cells #[.int .i64 2, .string nm, .string ot, .int .i64 n, .int .i64 ty.kind, .slice l.ta l.tn l.tc, .int .i64 re.kind, .slice l.ra l.rn l.rc, .slice l.aa l.an l.ac] 29)).drew := below_next k0 (below_drew _)
    obtain ⟨u0, u1, u2, u3, u4, u5, u6, u7, u8⟩ := Blk.nine (t := ⟨2, nm, ot, n, ty, re, xs⟩) (l := l) B0
    dsimp only at u0 u1 u2 u3 u4 u5 u6 u7 u8
    go_enter Tryz.func51, Tryz.ntmps51
    go_wp2_with fail
    go_region_held3 (fun W => (W.cell? ⟨w.heap.size, 0, none⟩ = some (.int .i64 2) ∧ W.cell? ⟨w.heap.size, 1, none⟩ = some (.string nm) ∧ W.cell? ⟨w.heap.size, 2, none⟩ = some (.string ot) ∧ W.cell? ⟨w.heap.size, 3, none⟩ = some (.int .i64 n) ∧ W.cell? ⟨w.heap.size, 4, none⟩ = some (.int .i64 ty.kind) ∧ W.cell? ⟨w.heap.size, 5, none⟩ = some (.slice l.ta l.tn l.tc) ∧ W.cell? ⟨w.heap.size, 6, none⟩ = some (.int .i64 re.kind) ∧ W.cell? ⟨w.heap.size, 7, none⟩ = some (.slice l.ra l.rn l.rc) ∧ W.cell? ⟨w.heap.size, 8, none⟩ = some (.slice l.aa l.an l.ac)))
      (first | exact ⟨u0, u1, u2, u3, u4, u5, u6, u7, u8⟩ | exact Blk.nine (t := ⟨2, nm, ot, n, ty, re, xs⟩) (l := l) B1)
      (first
        | (go_at_call 77; (with_reducible refine (CA.out _).mono ?_); rintro e w1 ⟨rfl, b1⟩
           have B1 : Blk w1 _ _ _ := Blk.under (w := (w.alloc (.cells #[.int .i64 2, .string nm, .string ot, .int .i64 n, .int .i64 ty.kind, .slice l.ta l.tn l.tc, .int .i64 re.kind, .slice l.ra l.rn l.rc, .slice l.aa l.an l.ac] 29)).drew) B0 b1
           have k1 := below_next kd b1))
    go_wp2_with fail
    go_ret
    exact ⟨ret_bool hf.out.symm, k1⟩
  | true =>
    rw [hz] at hf
    rw [Bool.true_and] at hf
    have hz1 : ((l.an : Int) != arityI 2 nm) = false := by simp [bne, hz]
    replace hz := hide hz
    cases hn : namedI ⟨2, nm, ot, n, ty, re, xs⟩ with
    | false =>
      have CN1 := CN
      rw [hn] at hf CN1
      rw [Bool.false_and] at hf
      replace hf := hide hf
      replace CN1 := hide CN1
      replace hn := hide hn
      clear CN
      have B0 := Blk.new w 29 #[.int .i64 2, .string nm, .string ot, .int .i64 n, .int .i64 ty.kind, .slice l.ta l.tn l.tc, .int .i64 re.kind, .slice l.ra l.rn l.rc, .slice l.aa l.an l.ac]
      have kd : Below w.heap.size w (w.alloc (.cells #[.int .i64 2, .string nm, .string ot, .int .i64 n, .int .i64 ty.kind, .slice l.ta l.tn l.tc, .int .i64 re.kind, .slice l.ra l.rn l.rc, .slice l.aa l.an l.ac] 29)).drew := below_next k0 (below_drew _)
      obtain ⟨u0, u1, u2, u3, u4, u5, u6, u7, u8⟩ := Blk.nine (t := ⟨2, nm, ot, n, ty, re, xs⟩) (l := l) B0
      dsimp only at u0 u1 u2 u3 u4 u5 u6 u7 u8
      go_enter Tryz.func51, Tryz.ntmps51
      go_wp2_with fail
      go_region_held3 (fun W => (W.cell? ⟨w.heap.size, 0, none⟩ = some (.int .i64 2) ∧ W.cell? ⟨w.heap.size, 1, none⟩ = some (.string nm) ∧ W.cell? ⟨w.heap.size, 2, none⟩ = some (.string ot) ∧ W.cell? ⟨w.heap.size, 3, none⟩ = some (.int .i64 n) ∧ W.cell? ⟨w.heap.size, 4, none⟩ = some (.int .i64 ty.kind) ∧ W.cell? ⟨w.heap.size, 5, none⟩ = some (.slice l.ta l.tn l.tc) ∧ W.cell? ⟨w.heap.size, 6, none⟩ = some (.int .i64 re.kind) ∧ W.cell? ⟨w.heap.size, 7, none⟩ = some (.slice l.ra l.rn l.rc) ∧ W.cell? ⟨w.heap.size, 8, none⟩ = some (.slice l.aa l.an l.ac)))
        (first | exact ⟨u0, u1, u2, u3, u4, u5, u6, u7, u8⟩ | exact Blk.nine (t := ⟨2, nm, ot, n, ty, re, xs⟩) (l := l) B1)
        (first
          | (go_at_call 77; (with_reducible refine (CA.out _).mono ?_); rintro e w1 ⟨rfl, b1⟩
             have B1 : Blk w1 _ _ _ := Blk.under (w := (w.alloc (.cells #[.int .i64 2, .string nm, .string ot, .int .i64 n, .int .i64 ty.kind, .slice l.ta l.tn l.tc, .int .i64 re.kind, .slice l.ra l.rn l.rc, .slice l.aa l.an l.ac] 29)).drew) B0 b1
             have k1 := below_next kd b1))
      obtain ⟨v0, v1, v2, v3, v4, v5, v6, v7, v8⟩ := Blk.nine (t := ⟨2, nm, ot, n, ty, re, xs⟩) (l := l) B1
      dsimp only at v0 v1 v2 v3 v4 v5 v6 v7 v8
      obtain ⟨r0, r1, r2, r3, r4, r5, r6, r7, r8⟩ := Blk.nine_new (t := ⟨2, nm, ot, n, ty, re, xs⟩) (l := l) B1
      dsimp only at r0 r1 r2 r3 r4 r5 r6 r7 r8
      have km : Below w.heap.size w (w1.alloc (.cells #[.int .i64 2, .string ⟨#[]⟩, .string ⟨#[]⟩, .int .i64 n, .int .i64 0, .slice none 0 0, .int .i64 0, .slice none 0 0, .slice none 0 0] 29)) := below_next k1 (below_new _ _)
      go_wp2_with (first
          | (go_at_call 78; (with_reducible refine (CN1.out _ km).mono ?_); rintro e w2 ⟨rfl, b2⟩
             have k2 := below_next km b2
             have B2 : Blk w2 _ _ _ := Blk.under (w := (w1.alloc (.cells #[.int .i64 2, .string ⟨#[]⟩, .string ⟨#[]⟩, .int .i64 n, .int .i64 0, .slice none 0 0, .int .i64 0, .slice none 0 0, .slice none 0 0] 29))) (B1.alloc _) b2
             have M2 : Blk w2 _ _ _ := Blk.under (w := (w1.alloc (.cells #[.int .i64 2, .string ⟨#[]⟩, .string ⟨#[]⟩, .int .i64 n, .int .i64 0, .slice none 0 0, .int .i64 0, .slice none 0 0, .slice none 0 0] 29))) (Blk.new w1 29 #[.int .i64 2, .string ⟨#[]⟩, .string ⟨#[]⟩, .int .i64 n, .int .i64 0, .slice none 0 0, .int .i64 0, .slice none 0 0, .slice none 0 0]) b2
             obtain ⟨p0, p1, p2, p3, p4, p5, p6, p7, p8⟩ := Blk.nine (t := ⟨2, nm, ot, n, ty, re, xs⟩) (l := l) B2
             dsimp only at p0 p1 p2 p3 p4 p5 p6 p7 p8
             obtain ⟨q0, q1, q2, q3, q4, q5, q6, q7, q8⟩ : _ ∧ _ ∧ _ ∧ _ ∧ _ ∧ _ ∧ _ ∧ _ ∧ _ := ⟨M2.cell 0, M2.cell 1, M2.cell 2, M2.cell 3, M2.cell 4, M2.cell 5, M2.cell 6, M2.cell 7, M2.cell 8⟩
             simp at q0 q1 q2 q3 q4 q5 q6 q7 q8)
          | (go_at_call 79; (with_reducible refine (CE1.out _ k2).mono ?_); rintro e w3 ⟨rfl, b3⟩
             have k3 := below_next k2 b3
             have B3 := B2.under b3
             have M3 := M2.under b3
             obtain ⟨p0', p1', p2', p3', p4', p5', p6', p7', p8'⟩ := Blk.nine (t := ⟨2, nm, ot, n, ty, re, xs⟩) (l := l) B3
             dsimp only at p0' p1' p2' p3' p4' p5' p6' p7' p8'
             obtain ⟨q0', q1', q2', q3', q4', q5', q6', q7', q8'⟩ : _ ∧ _ ∧ _ ∧ _ ∧ _ ∧ _ ∧ _ ∧ _ ∧ _ := ⟨M3.cell 0, M3.cell 1, M3.cell 2, M3.cell 3, M3.cell 4, M3.cell 5, M3.cell 6, M3.cell 7, M3.cell 8⟩
             simp at q0' q1' q2' q3' q4' q5' q6' q7' q8')
          | (go_at_call 79; (with_reducible refine (CE2.out _ k3).mono ?_); rintro e w4 ⟨rfl, b4⟩
             have k4 := below_next k3 b4))
      all_goals go_ret
      all_goals exact ⟨ret_bool hf.out.symm, k2⟩
    | true =>
      have CN1 := CN
      rw [hn] at hf CN1
      rw [Bool.true_and] at hf
      replace hf := hide hf
      replace CN1 := hide CN1
      replace hn := hide hn
      clear CN
      have B0 := Blk.new w 29 #[.int .i64 2, .string nm, .string ot, .int .i64 n, .int .i64 ty.kind, .slice l.ta l.tn l.tc, .int .i64 re.kind, .slice l.ra l.rn l.rc, .slice l.aa l.an l.ac]
      have kd : Below w.heap.size w (w.alloc (.cells #[.int .i64 2, .string nm, .string ot, .int .i64 n, .int .i64 ty.kind, .slice l.ta l.tn l.tc, .int .i64 re.kind, .slice l.ra l.rn l.rc, .slice l.aa l.an l.ac] 29)).drew := below_next k0 (below_drew _)
      obtain ⟨u0, u1, u2, u3, u4, u5, u6, u7, u8⟩ := Blk.nine (t := ⟨2, nm, ot, n, ty, re, xs⟩) (l := l) B0
      dsimp only at u0 u1 u2 u3 u4 u5 u6 u7 u8
      go_enter Tryz.func51, Tryz.ntmps51
      go_wp2_with fail
      go_region_held3 (fun W => (W.cell? ⟨w.heap.size, 0, none⟩ = some (.int .i64 2) ∧ W.cell? ⟨w.heap.size, 1, none⟩ = some (.string nm) ∧ W.cell? ⟨w.heap.size, 2, none⟩ = some (.string ot) ∧ W.cell? ⟨w.heap.size, 3, none⟩ = some (.int .i64 n) ∧ W.cell? ⟨w.heap.size, 4, none⟩ = some (.int .i64 ty.kind) ∧ W.cell? ⟨w.heap.size, 5, none⟩ = some (.slice l.ta l.tn l.tc) ∧ W.cell? ⟨w.heap.size, 6, none⟩ = some (.int .i64 re.kind) ∧ W.cell? ⟨w.heap.size, 7, none⟩ = some (.slice l.ra l.rn l.rc) ∧ W.cell? ⟨w.heap.size, 8, none⟩ = some (.slice l.aa l.an l.ac)))
        (first | exact ⟨u0, u1, u2, u3, u4, u5, u6, u7, u8⟩ | exact Blk.nine (t := ⟨2, nm, ot, n, ty, re, xs⟩) (l := l) B1)
        (first
          | (go_at_call 77; (with_reducible refine (CA.out _).mono ?_); rintro e w1 ⟨rfl, b1⟩
             have B1 : Blk w1 _ _ _ := Blk.under (w := (w.alloc (.cells #[.int .i64 2, .string nm, .string ot, .int .i64 n, .int .i64 ty.kind, .slice l.ta l.tn l.tc, .int .i64 re.kind, .slice l.ra l.rn l.rc, .slice l.aa l.an l.ac] 29)).drew) B0 b1
             have k1 := below_next kd b1))
      obtain ⟨v0, v1, v2, v3, v4, v5, v6, v7, v8⟩ := Blk.nine (t := ⟨2, nm, ot, n, ty, re, xs⟩) (l := l) B1
      dsimp only at v0 v1 v2 v3 v4 v5 v6 v7 v8
      obtain ⟨r0, r1, r2, r3, r4, r5, r6, r7, r8⟩ := Blk.nine_new (t := ⟨2, nm, ot, n, ty, re, xs⟩) (l := l) B1
      dsimp only at r0 r1 r2 r3 r4 r5 r6 r7 r8
      have km : Below w.heap.size w (w1.alloc (.cells #[.int .i64 2, .string ⟨#[]⟩, .string ⟨#[]⟩, .int .i64 n, .int .i64 0, .slice none 0 0, .int .i64 0, .slice none 0 0, .slice none 0 0] 29)) := below_next k1 (below_new _ _)
      go_wp2_with (first
          | (go_at_call 78; (with_reducible refine (CN1.out _ km).mono ?_); rintro e w2 ⟨rfl, b2⟩
             have k2 := below_next km b2
             have B2 : Blk w2 _ _ _ := Blk.under (w := (w1.alloc (.cells #[.int .i64 2, .string ⟨#[]⟩, .string ⟨#[]⟩, .int .i64 n, .int .i64 0, .slice none 0 0, .int .i64 0, .slice none 0 0, .slice none 0 0] 29))) (B1.alloc _) b2
             have M2 : Blk w2 _ _ _ := Blk.under (w := (w1.alloc (.cells #[.int .i64 2, .string ⟨#[]⟩, .string ⟨#[]⟩, .int .i64 n, .int .i64 0, .slice none 0 0, .int .i64 0, .slice none 0 0, .slice none 0 0] 29))) (Blk.new w1 29 #[.int .i64 2, .string ⟨#[]⟩, .string ⟨#[]⟩, .int .i64 n, .int .i64 0, .slice none 0 0, .int .i64 0, .slice none 0 0, .slice none 0 0]) b2
             obtain ⟨p0, p1, p2, p3, p4, p5, p6, p7, p8⟩ := Blk.nine (t := ⟨2, nm, ot, n, ty, re, xs⟩) (l := l) B2
             dsimp only at p0 p1 p2 p3 p4 p5 p6 p7 p8
             obtain ⟨q0, q1, q2, q3, q4, q5, q6, q7, q8⟩ : _ ∧ _ ∧ _ ∧ _ ∧ _ ∧ _ ∧ _ ∧ _ ∧ _ := ⟨M2.cell 0, M2.cell 1, M2.cell 2, M2.cell 3, M2.cell 4, M2.cell 5, M2.cell 6, M2.cell 7, M2.cell 8⟩
             simp at q0 q1 q2 q3 q4 q5 q6 q7 q8)
          | (go_at_call 79; (with_reducible refine (CE1.out _ k2).mono ?_); rintro e w3 ⟨rfl, b3⟩
             have k3 := below_next k2 b3
             have B3 := B2.under b3
             have M3 := M2.under b3
             obtain ⟨p0', p1', p2', p3', p4', p5', p6', p7', p8'⟩ := Blk.nine (t := ⟨2, nm, ot, n, ty, re, xs⟩) (l := l) B3
             dsimp only at p0' p1' p2' p3' p4' p5' p6' p7' p8'
             obtain ⟨q0', q1', q2', q3', q4', q5', q6', q7', q8'⟩ : _ ∧ _ ∧ _ ∧ _ ∧ _ ∧ _ ∧ _ ∧ _ ∧ _ := ⟨M3.cell 0, M3.cell 1, M3.cell 2, M3.cell 3, M3.cell 4, M3.cell 5, M3.cell 6, M3.cell 7, M3.cell 8⟩
             simp at q0' q1' q2' q3' q4' q5' q6' q7' q8')
          | (go_at_call 79; (with_reducible refine (CE2.out _ k3).mono ?_); rintro e w4 ⟨rfl, b4⟩
             have k4 := below_next k3 b4))
      all_goals go_ret
      all_goals first
        | exact ⟨ret_bool (by rw [hf.out]; simp_all), k4⟩
        | exact ⟨ret_bool (by rw [hf.out]; simp_all), k3⟩
        | exact ⟨ret_bool (by rw [hf.out]; simp_all), k2⟩
        | trace_state

set_option maxHeartbeats 6400000 in
theorem isForm_3 (t : Tm) (l : Lt) (w : World) (h : Md w t l) (hw : t.wt ≤ 1048576) (hk : t.kind = 3) :
    Calls Tryz.prog 51 #[.agg #[.int .i64 t.kind, .string t.name, .string t.other, .int .i64 t.n, .int .i64 t.type.kind, .slice l.ta l.tn l.tc, .int .i64 t.res.kind, .slice l.ra l.rn l.rc, .slice l.aa l.an l.ac]] w fun e w' => e = .returned (.bool (formI t)) ∧ Below w.heap.size w w' := by
  obtain ⟨-, ht, hre, hm⟩ := h.shape
  have hx : (l.an : Int) = (t.args.length : Int) := by rw [hm.1]
  have hf := formI_eq t
  rw [← hx] at hf
  have CA := hide fun W => arity_any t l W
  have CN := fun W (hW : Below w.heap.size w W) => isNamed_any t l W (h.below hW) hw
  have RT0 : ∀ W, Below w.heap.size w W → Rd W t.type (.int .i64 t.type.kind) (.slice l.ta l.tn l.tc) := fun W hW => ht.below hW
  have RR0 : ∀ W, Below w.heap.size w W → Rd W t.res (.int .i64 t.res.kind) (.slice l.ra l.rn l.rc) := fun W hW => hre.below hW
  have CE1 := hide fun W (hW : Below w.heap.size w W) => implEqualType_any t.type ⟨0, []⟩ _ _ _ _ W (RT0 W hW) (Rd_zero W)
  have CE2 := hide fun W (hW : Below w.heap.size w W) => implEqualType_any t.res ⟨0, []⟩ _ _ _ _ W (RR0 W hW) (Rd_zero W)
  clear ht hre hm hw hx RT0 RR0 h
  have k0 : Below w.heap.size w (w.alloc (.cells #[.int .i64 t.kind, .string t.name, .string t.other, .int .i64 t.n, .int .i64 t.type.kind, .slice l.ta l.tn l.tc, .int .i64 t.res.kind, .slice l.ra l.rn l.rc, .slice l.aa l.an l.ac] 29)) := below_new _ _
  obtain ⟨k, nm, ot, n, ty, re, xs⟩ := t
  dsimp only at *
  subst hk
  have WN : wantName ⟨3, nm, ot, n, ty, re, xs⟩ = ⟨#[]⟩ := by simp [wantName]
  have WO : wantOther ⟨3, nm, ot, n, ty, re, xs⟩ = ⟨#[]⟩ := by simp [wantOther]
  have WI : wantN ⟨3, nm, ot, n, ty, re, xs⟩ = n := by simp [wantN]
  have WT : wantType ⟨3, nm, ot, n, ty, re, xs⟩ = ⟨0, []⟩ := by simp [wantType]
  have WR : wantRes ⟨3, nm, ot, n, ty, re, xs⟩ = ⟨0, []⟩ := by simp [wantRes]
  rw [WN, WO, WI, WT, WR] at hf
  clear WN WO WI WT WR
  cases hz : ((l.an : Int) == arityI 3 nm) with
  | false =>
    rw [hz] at hf
    rw [Bool.false_and] at hf
    replace hf := hide hf
    have hz1 : ((l.an : Int) != arityI 3 nm) = true := by simp [bne, hz]
    replace hz := hide hz
    have B0 := Blk.new w 29 #[.int .i64 3, .string nm, .string ot, .int .i64 n, .int .i64 ty.kind, .slice l.ta l.tn l.tc, .int .i64 re.kind, .slice l.ra l.rn l.rc, .slice l.aa l.an l.ac]
    have kd : Below w.heap.size w (w.alloc (.cells #[.int .i64 3, .string nm, .string ot, .int .i64 n, .int .i64 ty.kind, .slice l.ta l.tn l.tc, .int .i64 re.kind, .slice l.ra l.rn l.rc, .slice l.aa l.an l.ac] 29)).drew := below_next k0 (below_drew _)
    obtain ⟨u0, u1, u2, u3, u4, u5, u6, u7, u8⟩ := Blk.nine (t := ⟨3, nm, ot, n, ty, re, xs⟩) (l := l) B0
    dsimp only at u0 u1 u2 u3 u4 u5 u6 u7 u8
    go_enter Tryz.func51, Tryz.ntmps51
    go_wp2_with fail
    go_region_held3 (fun W => (W.cell? ⟨w.heap.size, 0, none⟩ = some (.int .i64 3) ∧ W.cell? ⟨w.heap.size, 1, none⟩ = some (.string nm) ∧ W.cell? ⟨w.heap.size, 2, none⟩ = some (.string ot) ∧ W.cell? ⟨w.heap.size, 3, none⟩ = some (.int .i64 n) ∧ W.cell? ⟨w.heap.size, 4, none⟩ = some (.int .i64 ty.kind) ∧ W.cell? ⟨w.heap.size, 5, none⟩ = some (.slice l.ta l.tn l.tc) ∧ W.cell? ⟨w.heap.size, 6, none⟩ = some (.int .i64 re.kind) ∧ W.cell? ⟨w.heap.size, 7, none⟩ = some (.slice l.ra l.rn l.rc) ∧ W.cell? ⟨w.heap.size, 8, none⟩ = some (.slice l.aa l.an l.ac)))
      (first | exact ⟨u0, u1, u2, u3, u4, u5, u6, u7, u8⟩ | exact Blk.nine (t := ⟨3, nm, ot, n, ty, re, xs⟩) (l := l) B1)
      (first
        | (go_at_call 77; (with_reducible refine (CA.out _).mono ?_); rintro e w1 ⟨rfl, b1⟩
           have B1 : Blk w1 _ _ _ := Blk.under (w := (w.alloc (.cells #[.int .i64 3, .string nm, .string ot, .int .i64 n, .int .i64 ty.kind, .slice l.ta l.tn l.tc, .int .i64 re.kind, .slice l.ra l.rn l.rc, .slice l.aa l.an l.ac] 29)).drew) B0 b1
           have k1 := below_next kd b1))
    go_wp2_with fail
    go_ret
    exact ⟨ret_bool hf.out.symm, k1⟩
  | true =>
    rw [hz] at hf
    rw [Bool.true_and] at hf
    have hz1 : ((l.an : Int) != arityI 3 nm) = false := by simp [bne, hz]
    replace hz := hide hz
    cases hn : namedI ⟨3, nm, ot, n, ty, re, xs⟩ with
    | false =>
      have CN1 := CN
      rw [hn] at hf CN1
      rw [Bool.false_and] at hf
      replace hf := hide hf
      replace CN1 := hide CN1
      replace hn := hide hn
      clear CN
      have B0 := Blk.new w 29 #[.int .i64 3, .string nm, .string ot, .int .i64 n, .int .i64 ty.kind, .slice l.ta l.tn l.tc, .int .i64 re.kind, .slice l.ra l.rn l.rc, .slice l.aa l.an l.ac]
      have kd : Below w.heap.size w (w.alloc (.cells #[.int .i64 3, .string nm, .string ot, .int .i64 n, .int .i64 ty.kind, .slice l.ta l.tn l.tc, .int .i64 re.kind, .slice l.ra l.rn l.rc, .slice l.aa l.an l.ac] 29)).drew := below_next k0 (below_drew _)
      obtain ⟨u0, u1, u2, u3, u4, u5, u6, u7, u8⟩ := Blk.nine (t := ⟨3, nm, ot, n, ty, re, xs⟩) (l := l) B0
      dsimp only at u0 u1 u2 u3 u4 u5 u6 u7 u8
      go_enter Tryz.func51, Tryz.ntmps51
      go_wp2_with fail
      go_region_held3 (fun W => (W.cell? ⟨w.heap.size, 0, none⟩ = some (.int .i64 3) ∧ W.cell? ⟨w.heap.size, 1, none⟩ = some (.string nm) ∧ W.cell? ⟨w.heap.size, 2, none⟩ = some (.string ot) ∧ W.cell? ⟨w.heap.size, 3, none⟩ = some (.int .i64 n) ∧ W.cell? ⟨w.heap.size, 4, none⟩ = some (.int .i64 ty.kind) ∧ W.cell? ⟨w.heap.size, 5, none⟩ = some (.slice l.ta l.tn l.tc) ∧ W.cell? ⟨w.heap.size, 6, none⟩ = some (.int .i64 re.kind) ∧ W.cell? ⟨w.heap.size, 7, none⟩ = some (.slice l.ra l.rn l.rc) ∧ W.cell? ⟨w.heap.size, 8, none⟩ = some (.slice l.aa l.an l.ac)))
        (first | exact ⟨u0, u1, u2, u3, u4, u5, u6, u7, u8⟩ | exact Blk.nine (t := ⟨3, nm, ot, n, ty, re, xs⟩) (l := l) B1)
        (first
          | (go_at_call 77; (with_reducible refine (CA.out _).mono ?_); rintro e w1 ⟨rfl, b1⟩
             have B1 : Blk w1 _ _ _ := Blk.under (w := (w.alloc (.cells #[.int .i64 3, .string nm, .string ot, .int .i64 n, .int .i64 ty.kind, .slice l.ta l.tn l.tc, .int .i64 re.kind, .slice l.ra l.rn l.rc, .slice l.aa l.an l.ac] 29)).drew) B0 b1
             have k1 := below_next kd b1))
      obtain ⟨v0, v1, v2, v3, v4, v5, v6, v7, v8⟩ := Blk.nine (t := ⟨3, nm, ot, n, ty, re, xs⟩) (l := l) B1
      dsimp only at v0 v1 v2 v3 v4 v5 v6 v7 v8
      obtain ⟨r0, r1, r2, r3, r4, r5, r6, r7, r8⟩ := Blk.nine_new (t := ⟨3, nm, ot, n, ty, re, xs⟩) (l := l) B1
      dsimp only at r0 r1 r2 r3 r4 r5 r6 r7 r8
      have km : Below w.heap.size w (w1.alloc (.cells #[.int .i64 3, .string ⟨#[]⟩, .string ⟨#[]⟩, .int .i64 n, .int .i64 0, .slice none 0 0, .int .i64 0, .slice none 0 0, .slice none 0 0] 29)) := below_next k1 (below_new _ _)
      go_wp2_with (first
          | (go_at_call 78; (with_reducible refine (CN1.out _ km).mono ?_); rintro e w2 ⟨rfl, b2⟩
             have k2 := below_next km b2
             have B2 : Blk w2 _ _ _ := Blk.under (w := (w1.alloc (.cells #[.int .i64 3, .string ⟨#[]⟩, .string ⟨#[]⟩, .int .i64 n, .int .i64 0, .slice none 0 0, .int .i64 0, .slice none 0 0, .slice none 0 0] 29))) (B1.alloc _) b2
             have M2 : Blk w2 _ _ _ := Blk.under (w := (w1.alloc (.cells #[.int .i64 3, .string ⟨#[]⟩, .string ⟨#[]⟩, .int .i64 n, .int .i64 0, .slice none 0 0, .int .i64 0, .slice none 0 0, .slice none 0 0] 29))) (Blk.new w1 29 #[.int .i64 3, .string ⟨#[]⟩, .string ⟨#[]⟩, .int .i64 n, .int .i64 0, .slice none 0 0, .int .i64 0, .slice none 0 0, .slice none 0 0]) b2
             obtain ⟨p0, p1, p2, p3, p4, p5, p6, p7, p8⟩ := Blk.nine (t := ⟨3, nm, ot, n, ty, re, xs⟩) (l := l) B2
             dsimp only at p0 p1 p2 p3 p4 p5 p6 p7 p8
             obtain ⟨q0, q1, q2, q3, q4, q5, q6, q7, q8⟩ : _ ∧ _ ∧ _ ∧ _ ∧ _ ∧ _ ∧ _ ∧ _ ∧ _ := ⟨M2.cell 0, M2.cell 1, M2.cell 2, M2.cell 3, M2.cell 4, M2.cell 5, M2.cell 6, M2.cell 7, M2.cell 8⟩
             simp at q0 q1 q2 q3 q4 q5 q6 q7 q8)
          | (go_at_call 79; (with_reducible refine (CE1.out _ k2).mono ?_); rintro e w3 ⟨rfl, b3⟩
             have k3 := below_next k2 b3
             have B3 := B2.under b3
             have M3 := M2.under b3
             obtain ⟨p0', p1', p2', p3', p4', p5', p6', p7', p8'⟩ := Blk.nine (t := ⟨3, nm, ot, n, ty, re, xs⟩) (l := l) B3
             dsimp only at p0' p1' p2' p3' p4' p5' p6' p7' p8'
             obtain ⟨q0', q1', q2', q3', q4', q5', q6', q7', q8'⟩ : _ ∧ _ ∧ _ ∧ _ ∧ _ ∧ _ ∧ _ ∧ _ ∧ _ := ⟨M3.cell 0, M3.cell 1, M3.cell 2, M3.cell 3, M3.cell 4, M3.cell 5, M3.cell 6, M3.cell 7, M3.cell 8⟩
             simp at q0' q1' q2' q3' q4' q5' q6' q7' q8')
          | (go_at_call 79; (with_reducible refine (CE2.out _ k3).mono ?_); rintro e w4 ⟨rfl, b4⟩
             have k4 := below_next k3 b4))
      all_goals go_ret
      all_goals exact ⟨ret_bool hf.out.symm, k2⟩
    | true =>
      have CN1 := CN
      rw [hn] at hf CN1
      rw [Bool.true_and] at hf
      replace hf := hide hf
      replace CN1 := hide CN1
      replace hn := hide hn
      clear CN
      have B0 := Blk.new w 29 #[.int .i64 3, .string nm, .string ot, .int .i64 n, .int .i64 ty.kind, .slice l.ta l.tn l.tc, .int .i64 re.kind, .slice l.ra l.rn l.rc, .slice l.aa l.an l.ac]
      have kd : Below w.heap.size w (w.alloc (.cells #[.int .i64 3, .string nm, .string ot, .int .i64 n, .int .i64 ty.kind, .slice l.ta l.tn l.tc, .int .i64 re.kind, .slice l.ra l.rn l.rc, .slice l.aa l.an l.ac] 29)).drew := below_next k0 (below_drew _)
      obtain ⟨u0, u1, u2, u3, u4, u5, u6, u7, u8⟩ := Blk.nine (t := ⟨3, nm, ot, n, ty, re, xs⟩) (l := l) B0
      dsimp only at u0 u1 u2 u3 u4 u5 u6 u7 u8
      go_enter Tryz.func51, Tryz.ntmps51
      go_wp2_with fail
      go_region_held3 (fun W => (W.cell? ⟨w.heap.size, 0, none⟩ = some (.int .i64 3) ∧ W.cell? ⟨w.heap.size, 1, none⟩ = some (.string nm) ∧ W.cell? ⟨w.heap.size, 2, none⟩ = some (.string ot) ∧ W.cell? ⟨w.heap.size, 3, none⟩ = some (.int .i64 n) ∧ W.cell? ⟨w.heap.size, 4, none⟩ = some (.int .i64 ty.kind) ∧ W.cell? ⟨w.heap.size, 5, none⟩ = some (.slice l.ta l.tn l.tc) ∧ W.cell? ⟨w.heap.size, 6, none⟩ = some (.int .i64 re.kind) ∧ W.cell? ⟨w.heap.size, 7, none⟩ = some (.slice l.ra l.rn l.rc) ∧ W.cell? ⟨w.heap.size, 8, none⟩ = some (.slice l.aa l.an l.ac)))
        (first | exact ⟨u0, u1, u2, u3, u4, u5, u6, u7, u8⟩ | exact Blk.nine (t := ⟨3, nm, ot, n, ty, re, xs⟩) (l := l) B1)
        (first
          | (go_at_call 77; (with_reducible refine (CA.out _).mono ?_); rintro e w1 ⟨rfl, b1⟩
             have B1 : Blk w1 _ _ _ := Blk.under (w := (w.alloc (.cells #[.int .i64 3, .string nm, .string ot, .int .i64 n, .int .i64 ty.kind, .slice l.ta l.tn l.tc, .int .i64 re.kind, .slice l.ra l.rn l.rc, .slice l.aa l.an l.ac] 29)).drew) B0 b1
             have k1 := below_next kd b1))
      obtain ⟨v0, v1, v2, v3, v4, v5, v6, v7, v8⟩ := Blk.nine (t := ⟨3, nm, ot, n, ty, re, xs⟩) (l := l) B1
      dsimp only at v0 v1 v2 v3 v4 v5 v6 v7 v8
      obtain ⟨r0, r1, r2, r3, r4, r5, r6, r7, r8⟩ := Blk.nine_new (t := ⟨3, nm, ot, n, ty, re, xs⟩) (l := l) B1
      dsimp only at r0 r1 r2 r3 r4 r5 r6 r7 r8
      have km : Below w.heap.size w (w1.alloc (.cells #[.int .i64 3, .string ⟨#[]⟩, .string ⟨#[]⟩, .int .i64 n, .int .i64 0, .slice none 0 0, .int .i64 0, .slice none 0 0, .slice none 0 0] 29)) := below_next k1 (below_new _ _)
      go_wp2_with (first
          | (go_at_call 78; (with_reducible refine (CN1.out _ km).mono ?_); rintro e w2 ⟨rfl, b2⟩
             have k2 := below_next km b2
             have B2 : Blk w2 _ _ _ := Blk.under (w := (w1.alloc (.cells #[.int .i64 3, .string ⟨#[]⟩, .string ⟨#[]⟩, .int .i64 n, .int .i64 0, .slice none 0 0, .int .i64 0, .slice none 0 0, .slice none 0 0] 29))) (B1.alloc _) b2
             have M2 : Blk w2 _ _ _ := Blk.under (w := (w1.alloc (.cells #[.int .i64 3, .string ⟨#[]⟩, .string ⟨#[]⟩, .int .i64 n, .int .i64 0, .slice none 0 0, .int .i64 0, .slice none 0 0, .slice none 0 0] 29))) (Blk.new w1 29 #[.int .i64 3, .string ⟨#[]⟩, .string ⟨#[]⟩, .int .i64 n, .int .i64 0, .slice none 0 0, .int .i64 0, .slice none 0 0, .slice none 0 0]) b2
             obtain ⟨p0, p1, p2, p3, p4, p5, p6, p7, p8⟩ := Blk.nine (t := ⟨3, nm, ot, n, ty, re, xs⟩) (l := l) B2
             dsimp only at p0 p1 p2 p3 p4 p5 p6 p7 p8
             obtain ⟨q0, q1, q2, q3, q4, q5, q6, q7, q8⟩ : _ ∧ _ ∧ _ ∧ _ ∧ _ ∧ _ ∧ _ ∧ _ ∧ _ := ⟨M2.cell 0, M2.cell 1, M2.cell 2, M2.cell 3, M2.cell 4, M2.cell 5, M2.cell 6, M2.cell 7, M2.cell 8⟩
             simp at q0 q1 q2 q3 q4 q5 q6 q7 q8)
          | (go_at_call 79; (with_reducible refine (CE1.out _ k2).mono ?_); rintro e w3 ⟨rfl, b3⟩
             have k3 := below_next k2 b3
             have B3 := B2.under b3
             have M3 := M2.under b3
             obtain ⟨p0', p1', p2', p3', p4', p5', p6', p7', p8'⟩ := Blk.nine (t := ⟨3, nm, ot, n, ty, re, xs⟩) (l := l) B3
             dsimp only at p0' p1' p2' p3' p4' p5' p6' p7' p8'
             obtain ⟨q0', q1', q2', q3', q4', q5', q6', q7', q8'⟩ : _ ∧ _ ∧ _ ∧ _ ∧ _ ∧ _ ∧ _ ∧ _ ∧ _ := ⟨M3.cell 0, M3.cell 1, M3.cell 2, M3.cell 3, M3.cell 4, M3.cell 5, M3.cell 6, M3.cell 7, M3.cell 8⟩
             simp at q0' q1' q2' q3' q4' q5' q6' q7' q8')
          | (go_at_call 79; (with_reducible refine (CE2.out _ k3).mono ?_); rintro e w4 ⟨rfl, b4⟩
             have k4 := below_next k3 b4))
      all_goals go_ret
      all_goals first
        | exact ⟨ret_bool (by rw [hf.out]; simp_all), k4⟩
        | exact ⟨ret_bool (by rw [hf.out]; simp_all), k3⟩
        | exact ⟨ret_bool (by rw [hf.out]; simp_all), k2⟩
        | trace_state

set_option maxHeartbeats 6400000 in
theorem isForm_4 (t : Tm) (l : Lt) (w : World) (h : Md w t l) (hw : t.wt ≤ 1048576) (hk : t.kind = 4) :
    Calls Tryz.prog 51 #[.agg #[.int .i64 t.kind, .string t.name, .string t.other, .int .i64 t.n, .int .i64 t.type.kind, .slice l.ta l.tn l.tc, .int .i64 t.res.kind, .slice l.ra l.rn l.rc, .slice l.aa l.an l.ac]] w fun e w' => e = .returned (.bool (formI t)) ∧ Below w.heap.size w w' := by
  obtain ⟨-, ht, hre, hm⟩ := h.shape
  have hx : (l.an : Int) = (t.args.length : Int) := by rw [hm.1]
  have hf := formI_eq t
  rw [← hx] at hf
  have CA := hide fun W => arity_any t l W
  have CN := fun W (hW : Below w.heap.size w W) => isNamed_any t l W (h.below hW) hw
  have RT0 : ∀ W, Below w.heap.size w W → Rd W t.type (.int .i64 t.type.kind) (.slice l.ta l.tn l.tc) := fun W hW => ht.below hW
  have RR0 : ∀ W, Below w.heap.size w W → Rd W t.res (.int .i64 t.res.kind) (.slice l.ra l.rn l.rc) := fun W hW => hre.below hW
  have CE1 := hide fun W (hW : Below w.heap.size w W) => implEqualType_any t.type ⟨0, []⟩ _ _ _ _ W (RT0 W hW) (Rd_zero W)
  have CE2 := hide fun W (hW : Below w.heap.size w W) => implEqualType_any t.res ⟨0, []⟩ _ _ _ _ W (RR0 W hW) (Rd_zero W)
  clear ht hre hm hw hx RT0 RR0 h
  have k0 : Below w.heap.size w (w.alloc (.cells #[.int .i64 t.kind, .string t.name, .string t.other, .int .i64 t.n, .int .i64 t.type.kind, .slice l.ta l.tn l.tc, .int .i64 t.res.kind, .slice l.ra l.rn l.rc, .slice l.aa l.an l.ac] 29)) := below_new _ _
  obtain ⟨k, nm, ot, n, ty, re, xs⟩ := t
  dsimp only at *
  subst hk
  have WN : wantName ⟨4, nm, ot, n, ty, re, xs⟩ = nm := by simp [wantName]
  have WO : wantOther ⟨4, nm, ot, n, ty, re, xs⟩ = ⟨#[]⟩ := by simp [wantOther]
  have WI : wantN ⟨4, nm, ot, n, ty, re, xs⟩ = 0 := by simp [wantN]
  have WT : wantType ⟨4, nm, ot, n, ty, re, xs⟩ = ⟨0, []⟩ := by simp [wantType]
  have WR : wantRes ⟨4, nm, ot, n, ty, re, xs⟩ = ⟨0, []⟩ := by simp [wantRes]
  rw [WN, WO, WI, WT, WR] at hf
  clear WN WO WI WT WR
  cases hz : ((l.an : Int) == arityI 4 nm) with
  | false =>
    rw [hz] at hf
    rw [Bool.false_and] at hf
    replace hf := hide hf
    have hz1 : ((l.an : Int) != arityI 4 nm) = true := by simp [bne, hz]
    replace hz := hide hz
    have B0 := Blk.new w 29 #[.int .i64 4, .string nm, .string ot, .int .i64 n, .int .i64 ty.kind, .slice l.ta l.tn l.tc, .int .i64 re.kind, .slice l.ra l.rn l.rc, .slice l.aa l.an l.ac]
    have kd : Below w.heap.size w (w.alloc (.cells #[.int .i64 4, .string nm, .string ot, .int .i64 n, .int .i64 ty.kind, .slice l.ta l.tn l.tc, .int .i64 re.kind, .slice l.ra l.rn l.rc, .slice l.aa l.an l.ac] 29)).drew := below_next k0 (below_drew _)
    obtain ⟨u0, u1, u2, u3, u4, u5, u6, u7, u8⟩ := Blk.nine (t := ⟨4, nm, ot, n, ty, re, xs⟩) (l := l) B0
    dsimp only at u0 u1 u2 u3 u4 u5 u6 u7 u8
    go_enter Tryz.func51, Tryz.ntmps51
    go_wp2_with fail
    go_region_held3 (fun W => (W.cell? ⟨w.heap.size, 0, none⟩ = some (.int .i64 4) ∧ W.cell? ⟨w.heap.size, 1, none⟩ = some (.string nm) ∧ W.cell? ⟨w.heap.size, 2, none⟩ = some (.string ot) ∧ W.cell? ⟨w.heap.size, 3, none⟩ = some (.int .i64 n) ∧ W.cell? ⟨w.heap.size, 4, none⟩ = some (.int .i64 ty.kind) ∧ W.cell? ⟨w.heap.size, 5, none⟩ = some (.slice l.ta l.tn l.tc) ∧ W.cell? ⟨w.heap.size, 6, none⟩ = some (.int .i64 re.kind) ∧ W.cell? ⟨w.heap.size, 7, none⟩ = some (.slice l.ra l.rn l.rc) ∧ W.cell? ⟨w.heap.size, 8, none⟩ = some (.slice l.aa l.an l.ac)))
      (first | exact ⟨u0, u1, u2, u3, u4, u5, u6, u7, u8⟩ | exact Blk.nine (t := ⟨4, nm, ot, n, ty, re, xs⟩) (l := l) B1)
      (first
        | (go_at_call 77; (with_reducible refine (CA.out _).mono ?_); rintro e w1 ⟨rfl, b1⟩
           have B1 : Blk w1 _ _ _ := Blk.under (w := (w.alloc (.cells #[.int .i64 4, .string nm, .string ot, .int .i64 n, .int .i64 ty.kind, .slice l.ta l.tn l.tc, .int .i64 re.kind, .slice l.ra l.rn l.rc, .slice l.aa l.an l.ac] 29)).drew) B0 b1
           have k1 := below_next kd b1))
    go_wp2_with fail
    go_ret
    exact ⟨ret_bool hf.out.symm, k1⟩
  | true =>
    rw [hz] at hf
    rw [Bool.true_and] at hf
    have hz1 : ((l.an : Int) != arityI 4 nm) = false := by simp [bne, hz]
    replace hz := hide hz
    cases hn : namedI ⟨4, nm, ot, n, ty, re, xs⟩ with
    | false =>
      have CN1 := CN
      rw [hn] at hf CN1
      rw [Bool.false_and] at hf
      replace hf := hide hf
      replace CN1 := hide CN1
      replace hn := hide hn
      clear CN
      have B0 := Blk.new w 29 #[.int .i64 4, .string nm, .string ot, .int .i64 n, .int .i64 ty.kind, .slice l.ta l.tn l.tc, .int .i64 re.kind, .slice l.ra l.rn l.rc, .slice l.aa l.an l.ac]
      have kd : Below w.heap.size w (w.alloc (.cells #[.int .i64 4, .string nm, .string ot, .int .i64 n, .int .i64 ty.kind, .slice l.ta l.tn l.tc, .int .i64 re.kind, .slice l.ra l.rn l.rc, .slice l.aa l.an l.ac] 29)).drew := below_next k0 (below_drew _)
      obtain ⟨u0, u1, u2, u3, u4, u5, u6, u7, u8⟩ := Blk.nine (t := ⟨4, nm, ot, n, ty, re, xs⟩) (l := l) B0
      dsimp only at u0 u1 u2 u3 u4 u5 u6 u7 u8
      go_enter Tryz.func51, Tryz.ntmps51
      go_wp2_with fail
      go_region_held3 (fun W => (W.cell? ⟨w.heap.size, 0, none⟩ = some (.int .i64 4) ∧ W.cell? ⟨w.heap.size, 1, none⟩ = some (.string nm) ∧ W.cell? ⟨w.heap.size, 2, none⟩ = some (.string ot) ∧ W.cell? ⟨w.heap.size, 3, none⟩ = some (.int .i64 n) ∧ W.cell? ⟨w.heap.size, 4, none⟩ = some (.int .i64 ty.kind) ∧ W.cell? ⟨w.heap.size, 5, none⟩ = some (.slice l.ta l.tn l.tc) ∧ W.cell? ⟨w.heap.size, 6, none⟩ = some (.int .i64 re.kind) ∧ W.cell? ⟨w.heap.size, 7, none⟩ = some (.slice l.ra l.rn l.rc) ∧ W.cell? ⟨w.heap.size, 8, none⟩ = some (.slice l.aa l.an l.ac)))
        (first | exact ⟨u0, u1, u2, u3, u4, u5, u6, u7, u8⟩ | exact Blk.nine (t := ⟨4, nm, ot, n, ty, re, xs⟩) (l := l) B1)
        (first
          | (go_at_call 77; (with_reducible refine (CA.out _).mono ?_); rintro e w1 ⟨rfl, b1⟩
             have B1 : Blk w1 _ _ _ := Blk.under (w := (w.alloc (.cells #[.int .i64 4, .string nm, .string ot, .int .i64 n, .int .i64 ty.kind, .slice l.ta l.tn l.tc, .int .i64 re.kind, .slice l.ra l.rn l.rc, .slice l.aa l.an l.ac] 29)).drew) B0 b1
             have k1 := below_next kd b1))
      obtain ⟨v0, v1, v2, v3, v4, v5, v6, v7, v8⟩ := Blk.nine (t := ⟨4, nm, ot, n, ty, re, xs⟩) (l := l) B1
      dsimp only at v0 v1 v2 v3 v4 v5 v6 v7 v8
      obtain ⟨r0, r1, r2, r3, r4, r5, r6, r7, r8⟩ := Blk.nine_new (t := ⟨4, nm, ot, n, ty, re, xs⟩) (l := l) B1
      dsimp only at r0 r1 r2 r3 r4 r5 r6 r7 r8
      have km : Below w.heap.size w (w1.alloc (.cells #[.int .i64 4, .string nm, .string ⟨#[]⟩, .int .i64 0, .int .i64 0, .slice none 0 0, .int .i64 0, .slice none 0 0, .slice none 0 0] 29)) := below_next k1 (below_new _ _)
      go_wp2_with (first
          | (go_at_call 78; (with_reducible refine (CN1.out _ km).mono ?_); rintro e w2 ⟨rfl, b2⟩
             have k2 := below_next km b2
             have B2 : Blk w2 _ _ _ := Blk.under (w := (w1.alloc (.cells #[.int .i64 4, .string nm, .string ⟨#[]⟩, .int .i64 0, .int .i64 0, .slice none 0 0, .int .i64 0, .slice none 0 0, .slice none 0 0] 29))) (B1.alloc _) b2
             have M2 : Blk w2 _ _ _ := Blk.under (w := (w1.alloc (.cells #[.int .i64 4, .string nm, .string ⟨#[]⟩, .int .i64 0, .int .i64 0, .slice none 0 0, .int .i64 0, .slice none 0 0, .slice none 0 0] 29))) (Blk.new w1 29 #[.int .i64 4, .string nm, .string ⟨#[]⟩, .int .i64 0, .int .i64 0, .slice none 0 0, .int .i64 0, .slice none 0 0, .slice none 0 0]) b2
             obtain ⟨p0, p1, p2, p3, p4, p5, p6, p7, p8⟩ := Blk.nine (t := ⟨4, nm, ot, n, ty, re, xs⟩) (l := l) B2
             dsimp only at p0 p1 p2 p3 p4 p5 p6 p7 p8
             obtain ⟨q0, q1, q2, q3, q4, q5, q6, q7, q8⟩ : _ ∧ _ ∧ _ ∧ _ ∧ _ ∧ _ ∧ _ ∧ _ ∧ _ := ⟨M2.cell 0, M2.cell 1, M2.cell 2, M2.cell 3, M2.cell 4, M2.cell 5, M2.cell 6, M2.cell 7, M2.cell 8⟩
             simp at q0 q1 q2 q3 q4 q5 q6 q7 q8)
          | (go_at_call 79; (with_reducible refine (CE1.out _ k2).mono ?_); rintro e w3 ⟨rfl, b3⟩
             have k3 := below_next k2 b3
             have B3 := B2.under b3
             have M3 := M2.under b3
             obtain ⟨p0', p1', p2', p3', p4', p5', p6', p7', p8'⟩ := Blk.nine (t := ⟨4, nm, ot, n, ty, re, xs⟩) (l := l) B3
             dsimp only at p0' p1' p2' p3' p4' p5' p6' p7' p8'
             obtain ⟨q0', q1', q2', q3', q4', q5', q6', q7', q8'⟩ : _ ∧ _ ∧ _ ∧ _ ∧ _ ∧ _ ∧ _ ∧ _ ∧ _ := ⟨M3.cell 0, M3.cell 1, M3.cell 2, M3.cell 3, M3.cell 4, M3.cell 5, M3.cell 6, M3.cell 7, M3.cell 8⟩
             simp at q0' q1' q2' q3' q4' q5' q6' q7' q8')
          | (go_at_call 79; (with_reducible refine (CE2.out _ k3).mono ?_); rintro e w4 ⟨rfl, b4⟩
             have k4 := below_next k3 b4))
      all_goals go_ret
      all_goals exact ⟨ret_bool hf.out.symm, k2⟩
    | true =>
      have CN1 := CN
      rw [hn] at hf CN1
      rw [Bool.true_and] at hf
      replace hf := hide hf
      replace CN1 := hide CN1
      replace hn := hide hn
      clear CN
      have B0 := Blk.new w 29 #[.int .i64 4, .string nm, .string ot, .int .i64 n, .int .i64 ty.kind, .slice l.ta l.tn l.tc, .int .i64 re.kind, .slice l.ra l.rn l.rc, .slice l.aa l.an l.ac]
      have kd : Below w.heap.size w (w.alloc (.cells #[.int .i64 4, .string nm, .string ot, .int .i64 n, .int .i64 ty.kind, .slice l.ta l.tn l.tc, .int .i64 re.kind, .slice l.ra l.rn l.rc, .slice l.aa l.an l.ac] 29)).drew := below_next k0 (below_drew _)
      obtain ⟨u0, u1, u2, u3, u4, u5, u6, u7, u8⟩ := Blk.nine (t := ⟨4, nm, ot, n, ty, re, xs⟩) (l := l) B0
      dsimp only at u0 u1 u2 u3 u4 u5 u6 u7 u8
      go_enter Tryz.func51, Tryz.ntmps51
      go_wp2_with fail
      go_region_held3 (fun W => (W.cell? ⟨w.heap.size, 0, none⟩ = some (.int .i64 4) ∧ W.cell? ⟨w.heap.size, 1, none⟩ = some (.string nm) ∧ W.cell? ⟨w.heap.size, 2, none⟩ = some (.string ot) ∧ W.cell? ⟨w.heap.size, 3, none⟩ = some (.int .i64 n) ∧ W.cell? ⟨w.heap.size, 4, none⟩ = some (.int .i64 ty.kind) ∧ W.cell? ⟨w.heap.size, 5, none⟩ = some (.slice l.ta l.tn l.tc) ∧ W.cell? ⟨w.heap.size, 6, none⟩ = some (.int .i64 re.kind) ∧ W.cell? ⟨w.heap.size, 7, none⟩ = some (.slice l.ra l.rn l.rc) ∧ W.cell? ⟨w.heap.size, 8, none⟩ = some (.slice l.aa l.an l.ac)))
        (first | exact ⟨u0, u1, u2, u3, u4, u5, u6, u7, u8⟩ | exact Blk.nine (t := ⟨4, nm, ot, n, ty, re, xs⟩) (l := l) B1)
        (first
          | (go_at_call 77; (with_reducible refine (CA.out _).mono ?_); rintro e w1 ⟨rfl, b1⟩
             have B1 : Blk w1 _ _ _ := Blk.under (w := (w.alloc (.cells #[.int .i64 4, .string nm, .string ot, .int .i64 n, .int .i64 ty.kind, .slice l.ta l.tn l.tc, .int .i64 re.kind, .slice l.ra l.rn l.rc, .slice l.aa l.an l.ac] 29)).drew) B0 b1
             have k1 := below_next kd b1))
      obtain ⟨v0, v1, v2, v3, v4, v5, v6, v7, v8⟩ := Blk.nine (t := ⟨4, nm, ot, n, ty, re, xs⟩) (l := l) B1
      dsimp only at v0 v1 v2 v3 v4 v5 v6 v7 v8
      obtain ⟨r0, r1, r2, r3, r4, r5, r6, r7, r8⟩ := Blk.nine_new (t := ⟨4, nm, ot, n, ty, re, xs⟩) (l := l) B1
      dsimp only at r0 r1 r2 r3 r4 r5 r6 r7 r8
      have km : Below w.heap.size w (w1.alloc (.cells #[.int .i64 4, .string nm, .string ⟨#[]⟩, .int .i64 0, .int .i64 0, .slice none 0 0, .int .i64 0, .slice none 0 0, .slice none 0 0] 29)) := below_next k1 (below_new _ _)
      go_wp2_with (first
          | (go_at_call 78; (with_reducible refine (CN1.out _ km).mono ?_); rintro e w2 ⟨rfl, b2⟩
             have k2 := below_next km b2
             have B2 : Blk w2 _ _ _ := Blk.under (w := (w1.alloc (.cells #[.int .i64 4, .string nm, .string ⟨#[]⟩, .int .i64 0, .int .i64 0, .slice none 0 0, .int .i64 0, .slice none 0 0, .slice none 0 0] 29))) (B1.alloc _) b2
             have M2 : Blk w2 _ _ _ := Blk.under (w := (w1.alloc (.cells #[.int .i64 4, .string nm, .string ⟨#[]⟩, .int .i64 0, .int .i64 0, .slice none 0 0, .int .i64 0, .slice none 0 0, .slice none 0 0] 29))) (Blk.new w1 29 #[.int .i64 4, .string nm, .string ⟨#[]⟩, .int .i64 0, .int .i64 0, .slice none 0 0, .int .i64 0, .slice none 0 0, .slice none 0 0]) b2
             obtain ⟨p0, p1, p2, p3, p4, p5, p6, p7, p8⟩ := Blk.nine (t := ⟨4, nm, ot, n, ty, re, xs⟩) (l := l) B2
             dsimp only at p0 p1 p2 p3 p4 p5 p6 p7 p8
             obtain ⟨q0, q1, q2, q3, q4, q5, q6, q7, q8⟩ : _ ∧ _ ∧ _ ∧ _ ∧ _ ∧ _ ∧ _ ∧ _ ∧ _ := ⟨M2.cell 0, M2.cell 1, M2.cell 2, M2.cell 3, M2.cell 4, M2.cell 5, M2.cell 6, M2.cell 7, M2.cell 8⟩
             simp at q0 q1 q2 q3 q4 q5 q6 q7 q8)
          | (go_at_call 79; (with_reducible refine (CE1.out _ k2).mono ?_); rintro e w3 ⟨rfl, b3⟩
             have k3 := below_next k2 b3
             have B3 := B2.under b3
             have M3 := M2.under b3
             obtain ⟨p0', p1', p2', p3', p4', p5', p6', p7', p8'⟩ := Blk.nine (t := ⟨4, nm, ot, n, ty, re, xs⟩) (l := l) B3
             dsimp only at p0' p1' p2' p3' p4' p5' p6' p7' p8'
             obtain ⟨q0', q1', q2', q3', q4', q5', q6', q7', q8'⟩ : _ ∧ _ ∧ _ ∧ _ ∧ _ ∧ _ ∧ _ ∧ _ ∧ _ := ⟨M3.cell 0, M3.cell 1, M3.cell 2, M3.cell 3, M3.cell 4, M3.cell 5, M3.cell 6, M3.cell 7, M3.cell 8⟩
             simp at q0' q1' q2' q3' q4' q5' q6' q7' q8')
          | (go_at_call 79; (with_reducible refine (CE2.out _ k3).mono ?_); rintro e w4 ⟨rfl, b4⟩
             have k4 := below_next k3 b4))
      all_goals go_ret
      all_goals first
        | exact ⟨ret_bool (by rw [hf.out]; simp_all), k4⟩
        | exact ⟨ret_bool (by rw [hf.out]; simp_all), k3⟩
        | exact ⟨ret_bool (by rw [hf.out]; simp_all), k2⟩
        | trace_state
end Go.Proofs.YtklifieahcoljaaGreat
