/-
  The walk of allTerms at one test of a node.
-/
import Derived.Test.YtmdmnchnkfjpjaaAllM
import Derived.Test.YtmdmnchnkfjpjaaFormM
namespace Go.Proofs.Ytmdmnchnkfjpjaa
open Go.RowKit
set_option linter.unusedVariables false
set_option linter.unusedSimpArgs false

set_option maxHeartbeats 1600000 in
theorem allTerms_isForm_any (t : Tm) : ∀ (l : Lt) (w : World), Md w t l → t.wt ≤ 1048576 →
    Calls Try.prog 26 #[.agg #[.int .i64 t.kind, .string t.name, .string t.other, .int .i64 t.n, .int .i64 t.type.kind, .slice l.ta l.tn l.tc, .int .i64 t.res.kind, .slice l.ra l.rn l.rc, .slice l.aa l.an l.ac], .func (.func 27) #[] #[]] w fun e w' => e = .returned (.bool (t.all formI)) ∧ Below w.heap.size w w' := by
  induction t using Tm.ind' with | h t ih => ?_
  intro l w h hw
  have L : ∀ x ∈ t.args, LitTm (.func (.func 27) #[] #[]) (fun x => !x.all formI) x := by
    intro x hx bx l' W hd hA
    have C := hide (fun W hW => ih x hx l' W hW (Tm.wt_arg hx hw))
    have hA1 : ∀ o, (W.alloc o).cell? ⟨bx, 0, none⟩ = some (.func (.func 27) #[] #[]) := fun o => (World.cell?_alloc_lt W o _ (World.block_lt_of_cell? _ _ hA)).trans hA
    clear ih hA
    go_enter Try.func41, Try.ntmps41
    go_wp2_with (go_at_call 26; (with_reducible refine (C.out _ (hd.below (below_new _ _))).mono ?_); rintro e w' ⟨rfl, hb'⟩)
    go_ret
    exact ⟨rfl, below_of_alloc hb'⟩
  clear ih
  have CC := hide (containsFuncTm_of (.func (.func 27) #[] #[]) (fun x => !x.all formI) t.args L)
  clear L
  obtain ⟨-, -, -, hr⟩ := h.shape
  have hall := Tm.all_eq formI t
  have hp' : ∀ W, Below w.heap.size w W → Md W t l := fun W hW => h.below hW
  have C := fun W hd => isForm_any t l W hd hw
  cases hpt : formI t with
  | true =>
    rw [hpt] at C hall
    replace hall := hide hall
    clear hpt
    replace C := hide C
    go_enter Try.func26, Try.ntmps26
    go_wp2_with (first
      | (go_at_call 27; (with_reducible refine (C.out _ (hp' _ (by repeat (first | exact Below.refl _ _ | assumption | refine Below.drew ?_ | refine below_drewN ?_ _ | refine Below.alloc ?_ (by first | omega | (simp; done) | (simp; omega)) _ | refine Below.setCell ?_ (by first | omega | (simp; done) | (simp; omega)) _)))).mono ?_); rintro e w1 ⟨rfl, b1⟩
         have B1 := Blk.under ((Blk.new w 29 #[.int .i64 t.kind, .string t.name, .string t.other, .int .i64 t.n, .int .i64 t.type.kind, .slice l.ta l.tn l.tc, .int .i64 t.res.kind, .slice l.ra l.rn l.rc, .slice l.aa l.an l.ac]).alloc (.cells #[.func (.func 27) #[] #[]] 35)) b1
         have A1 := (Blk.new2 w (.cells #[.int .i64 t.kind, .string t.name, .string t.other, .int .i64 t.n, .int .i64 t.type.kind, .slice l.ta l.tn l.tc, .int .i64 t.res.kind, .slice l.ra l.rn l.rc, .slice l.aa l.an l.ac] 29) 35 #[.func (.func 27) #[] #[]]).under b1
         obtain ⟨u0, u1, u2, u3, u4, u5, u6, u7, u8⟩ := B1.nine
         have hA1 := hide (A1.cell 0))
      | (go_at_call 40; (with_reducible refine (CC.out _ _ _ _ _ (hr.below (by repeat (first | exact Below.refl _ _ | refine Below.drew ?_ | refine below_drewN ?_ _ | refine Below.alloc ?_ (by first | omega | (simp; done) | (simp; omega)) _ | refine Below.setCell ?_ (by first | omega | (simp; done) | (simp; omega)) _ | refine Below.trans ?_ (Below.mono b1 (by first | omega | (simp; done) | (simp; omega)))))) hA1.out).mono ?_); rintro e w2 ⟨rfl, b2⟩))
    go_ret
    refine ⟨ret_bool ?_, below_next (by repeat (first | exact Below.refl _ _ | refine Below.drew ?_ | refine below_drewN ?_ _ | refine Below.alloc ?_ (by first | omega | (simp; done) | (simp; omega)) _ | refine Below.setCell ?_ (by first | omega | (simp; done) | (simp; omega)) _ | refine Below.trans ?_ (Below.mono b1 (by first | omega | (simp; done) | (simp; omega))))) b2⟩
    rw [hall.out, all_not_any]
    rfl
  | false =>
    rw [hpt] at C hall
    replace hall := hide hall
    clear hpt
    replace C := hide C
    go_enter Try.func26, Try.ntmps26
    go_wp2_with (go_at_call 27; (with_reducible refine (C.out _ (hp' _ (by repeat (first | exact Below.refl _ _ | assumption | refine Below.drew ?_ | refine below_drewN ?_ _ | refine Below.alloc ?_ (by first | omega | (simp; done) | (simp; omega)) _ | refine Below.setCell ?_ (by first | omega | (simp; done) | (simp; omega)) _)))).mono ?_); rintro e w1 ⟨rfl, b1⟩)
    go_ret
    refine ⟨ret_bool ?_, (by repeat (first | exact Below.refl _ _ | refine Below.drew ?_ | refine below_drewN ?_ _ | refine Below.alloc ?_ (by first | omega | (simp; done) | (simp; omega)) _ | refine Below.setCell ?_ (by first | omega | (simp; done) | (simp; omega)) _ | refine Below.trans ?_ (Below.mono b1 (by first | omega | (simp; done) | (simp; omega)))))⟩
    rw [hall.out]
    rfl
end Go.Proofs.Ytmdmnchnkfjpjaa
