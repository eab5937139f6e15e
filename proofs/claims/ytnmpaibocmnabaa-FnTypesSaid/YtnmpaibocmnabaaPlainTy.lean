/-
  The walks of IsPlainType in both texts, of the reference's l3Has, and of IsBase.
-/
import Derived.Test.YtnmpaibocmnabaaValidTy
namespace Go.Proofs.Ytnmpaibocmnabaa
open Go.RowKit
set_option linter.unusedVariables false
set_option linter.unusedSimpArgs false

/-- Some node is of kind q. -/
def Ty.hasKind (q : Int) (t : Ty) : Bool := !(t.all fun x => !(x.kind == q))
theorem Ty.hasKind_eq (q k : Int) (xs : List Ty) : Ty.hasKind q ⟨k, xs⟩ = (xs.any (Ty.hasKind q) || k == q) := by
  rw [Ty.hasKind, Ty.all_eq, ← all_not_any]
  simp only [Bool.not_and, Bool.not_not, Ty.hasKind]
  rw [Bool.or_comm]
  rfl
theorem Ty.hasKind_code (t : Ty) : (!t.hasKind 4) = t.all Ty.nocode := by
  rw [Ty.hasKind, Bool.not_not]
  rfl

set_option maxHeartbeats 800000 in
theorem l3Has_any (q : Int) (t : Ty) : ∀ (c0 c1 : Value) (w : World), Rd w t c0 c1 →
    Calls Try.prog 65 #[.agg #[c0, c1], .int .i64 q] w fun e w' => e = .returned (.bool (t.hasKind q)) ∧ Below w.heap.size w w' := by
  induction t using Ty.ind with | h k xs ih => ?_
  intro c0 c1 w h
  have IH := hide ih
  clear ih
  obtain ⟨a, n, cap, rfl, rfl, hk, hr⟩ := h.shape
  have hn : n ≤ 9223372036854775807 := by obtain ⟨_, h2, h3, _⟩ := hr; unfold maxLen at h3; omega
  have hall := hide (Ty.hasKind_eq q k xs)
  go_enter Try.func65, Try.ntmps65
  go_wp2_with fail
  go_loopw [5] (fun i wr => ∃ j : Nat, j ≤ n ∧ i = .int .i64 j ∧ Hid (∀ i (h : i < xs.length), i < j → xs[i].hasKind q = false) ∧ Blk wr w.heap.size 42 #[.int .i64 k, .slice a n cap] ∧ Below w.heap.size w wr) (fun i _ => n - (intOf i).toNat)
  case atStart => exact ⟨0, by omega, rfl, fun i _ hi => by omega, Blk.new _ _ _, (by repeat (first | exact Below.refl _ _ | assumption | refine Below.drew ?_ | refine below_drewN ?_ _ | refine Below.alloc ?_ (by first | omega | (simp; done) | (simp; omega)) _ | refine Below.setCell ?_ (by first | omega | (simp; done) | (simp; omega)) _))⟩
  case round =>
    obtain ⟨j, hj, rfl, HR, hB, hb⟩ := hrel
    have hsz := hb.size
    obtain ⟨v0, v1⟩ := hB.two
    by_cases hjn : j < n
    · have hjx : j < xs.length := by rw [← hr.1]; exact hjn
      obtain ⟨b, off, e0, e1, rfl, hlt, q0, q1, hd⟩ := (hr.below hb).get j hjx
      cases hq : xs[j].hasKind q with
      | true =>
        have C := hide (fun W hW => IH.out _ (List.getElem_mem hjx) e0 e1 W hW)
        rw [hq] at C
        replace hq := hide hq
        go_wp2_with (go_at_call 65; (with_reducible refine (C.out _ hd).mono ?_); rintro e w' ⟨rfl, hb'⟩)
        go_ret
        refine ⟨ret_bool ?_, hb.trans (by repeat (first | exact Below.refl _ _ | refine Below.drew ?_ | refine below_drewN ?_ _ | refine Below.alloc ?_ (by first | omega | (simp; done) | (simp; omega)) _ | refine Below.setCell ?_ (by first | omega | (simp; done) | (simp; omega)) _ | refine Below.trans ?_ (Below.mono hb' (by first | omega | (simp; done) | (simp; omega)))))⟩
        rw [hall.out, any_yes hjx hq.out]
        rfl
      | false =>
        have C := hide (fun W hW => IH.out _ (List.getElem_mem hjx) e0 e1 W hW)
        rw [hq] at C
        replace hq := hide hq
        go_wp2_with (go_at_call 65; (with_reducible refine (C.out _ hd).mono ?_); rintro e w' ⟨rfl, hb'⟩)
        go_roundw
        case rel =>
          refine ⟨j + 1, by omega, by go_num, fun i hi hij => ?_, hB.under hb', hb.trans (by repeat (first | exact Below.refl _ _ | refine Below.drew ?_ | refine below_drewN ?_ _ | refine Below.alloc ?_ (by first | omega | (simp; done) | (simp; omega)) _ | refine Below.setCell ?_ (by first | omega | (simp; done) | (simp; omega)) _ | refine Below.trans ?_ (Below.mono hb' (by first | omega | (simp; done) | (simp; omega)))))⟩
          by_cases hij' : i < j
          · exact HR.out i hi hij'
          · obtain rfl : i = j := by omega
            exact hq.out
        case measure => simp [intOf]; omega
    · have hx1 : n = xs.length := hr.1
      have hfin : Hid (Ty.hasKind q ⟨k, xs⟩ = (k == q)) := by
        have := hall.out
        rw [any_no fun i hi => HR.out i hi (by omega), Bool.false_or] at this
        exact this
      clear hx1
      go_wp2
      go_ret
      exact ⟨ret_bool hfin.out.symm, hb⟩

/-- A plain type: valid, without code. -/
def Ty.plain (t : Ty) : Bool := t.valid && t.all Ty.nocode

set_option maxHeartbeats 400000 in
theorem specIsPlainType_any (t : Ty) (c0 c1 : Value) (w : World) (h : Rd w t c0 c1) (hz : Ty.sizes t.args ≤ 1048576) :
    Calls Try.prog 34 #[.agg #[c0, c1]] w fun e w' => e = .returned (.bool t.plain) ∧ Below w.heap.size w w' := by
  have h1 : Rd (w.alloc (.cells #[c0, c1] 42)) t c0 c1 := h.below (below_new _ _)
  have C := specIsValidType_any t c0 c1 (w.alloc (.cells #[c0, c1] 42)) h1
  cases hv : t.valid with
  | true =>
    have hf := hide (show t.plain = t.all Ty.nocode by simp [Ty.plain, hv])
    rw [hv] at C
    replace C := hide C
    clear hv
    go_enter Try.func34, Try.ntmps34
    go_wp2_with fail
    refine C.out.mono ?_
    rintro e w1 ⟨rfl, b1⟩
    have B1 := (Blk.new w _ _).under b1
    obtain ⟨u0, u1⟩ := B1.two
    go_wp2_with fail
    refine (l3Has_any 4 t _ _ _ (h1.below b1)).mono ?_
    rintro e w2 ⟨rfl, b2⟩
    go_wp2_with fail
    go_ret
    refine ⟨ret_bool ?_, below_next (below_of_alloc b1) b2⟩
    rw [hf.out]
    exact Ty.hasKind_code t
  | false =>
    have hf := hide (show t.plain = false by simp [Ty.plain, hv])
    rw [hv] at C
    replace C := hide C
    clear hv
    go_enter Try.func34, Try.ntmps34
    go_wp2_with fail
    refine C.out.mono ?_
    rintro e w1 ⟨rfl, b1⟩
    go_wp2_with fail
    go_ret
    exact ⟨ret_bool hf.out.symm, below_of_alloc b1⟩
set_option maxHeartbeats 400000 in
theorem implIsPlainType_any (t : Ty) (c0 c1 : Value) (w : World) (h : Rd w t c0 c1) (hz : Ty.sizes t.args ≤ 1048576) :
    Calls Try.prog 33 #[.agg #[c0, c1]] w fun e w' => e = .returned (.bool t.plain) ∧ Below w.heap.size w w' := by
  have h1 : Rd (w.alloc (.cells #[c0, c1] 42)) t c0 c1 := h.below (below_new _ _)
  have C := implIsValidType_any t c0 c1 (w.alloc (.cells #[c0, c1] 42)) h1 hz
  cases hv : t.valid with
  | true =>
    have hf := hide (show t.plain = t.all Ty.nocode by simp [Ty.plain, hv])
    rw [hv] at C
    replace C := hide C
    clear hv
    go_enter Try.func33, Try.ntmps33
    go_wp2_with fail
    refine C.out.mono ?_
    rintro e w1 ⟨rfl, b1⟩
    have B1 := (Blk.new w _ _).under b1
    obtain ⟨u0, u1⟩ := B1.two
    go_wp2_with fail
    refine (allTypes_plainLit_any t _ _ _ (h1.below b1)).mono ?_
    rintro e w2 ⟨rfl, b2⟩
    go_wp2_with fail
    go_ret
    refine ⟨ret_bool ?_, below_next (below_of_alloc b1) b2⟩
    rw [hf.out]
  | false =>
    have hf := hide (show t.plain = false by simp [Ty.plain, hv])
    rw [hv] at C
    replace C := hide C
    clear hv
    go_enter Try.func33, Try.ntmps33
    go_wp2_with fail
    refine C.out.mono ?_
    rintro e w1 ⟨rfl, b1⟩
    go_wp2_with fail
    go_ret
    exact ⟨ret_bool hf.out.symm, below_of_alloc b1⟩
end Go.Proofs.Ytnmpaibocmnabaa
