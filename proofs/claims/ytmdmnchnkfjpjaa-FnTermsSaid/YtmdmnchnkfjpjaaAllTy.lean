/-
  The walks of allTypes, its function literal, and of the library's ContainsFunc and IndexFunc that it calls.
-/
import Derived.Test.YtmdmnchnkfjpjaaValTy
import Derived.Test.YtmdmnchnkfjpjaaPlain
namespace Go.Proofs.Ytmdmnchnkfjpjaa
open Go.RowKit
set_option linter.unusedVariables false
set_option linter.unusedSimpArgs false

/-- What the function literal of allTypes says, called with the box of 'accept' at bx. -/
abbrev LitTy (A : Value) (q : Ty → Bool) (x : Ty) : Prop := ∀ (bx : Nat) (c0 c1 : Value) (W : World), Rd W x c0 c1 → W.cell? ⟨bx, 0, none⟩ = some A →
  Calls Try.prog 72 #[.agg #[c0, c1], .pointer (some ⟨bx, 0, none⟩)] W fun e W' => e = .returned (.bool (q x)) ∧ Below W.heap.size W W'

set_option maxHeartbeats 400000 in
theorem indexFuncTy_of (A : Value) (q : Ty → Bool) (xs : List Ty) (ih : ∀ x ∈ xs, LitTy A q x) (bx : Nat) (a : Option Addr) (n cap : Nat) (w : World) (hr : Rds w xs a n cap) (hA : w.cell? ⟨bx, 0, none⟩ = some A) :
    Calls Try.prog 73 #[.slice a n cap, .func (.func 72) #[] #[.pointer (some ⟨bx, 0, none⟩)]] w
      fun e w' => e = .returned (.int .i64 (fIdx q xs)) ∧ Below w.heap.size w w' := by
  have IH := hide ih
  clear ih
  have hn : n ≤ 9223372036854775807 := by obtain ⟨_, h2, h3, _⟩ := hr; unfold maxLen at h3; omega
  have hbx := World.block_lt_of_cell? _ _ hA
  have HA := hide hA
  clear hA
  go_enter Try.func73, Try.ntmps73
  go_wp2_with fail
  go_loopw [8] (fun i wr => ∃ j : Nat, j ≤ n ∧ i = .int .i64 j ∧ Hid (∀ i (h : i < xs.length), i < j → q xs[i] = false) ∧ Below w.heap.size w wr) (fun i _ => n - (intOf i).toNat)
  case atStart => exact ⟨0, by omega, rfl, fun i _ hi => by omega, (by repeat (first | exact Below.refl _ _ | assumption | refine Below.drew ?_ | refine below_drewN ?_ _ | refine Below.alloc ?_ (by first | omega | (simp; done) | (simp; omega)) _ | refine Below.setCell ?_ (by first | omega | (simp; done) | (simp; omega)) _))⟩
  case round =>
    obtain ⟨j, hj, rfl, HR, hb⟩ := hrel
    have hsz := hb.size
    by_cases hjn : j < n
    · have hjx : j < xs.length := by rw [← hr.1]; exact hjn
      obtain ⟨b, off, c0, c1, rfl, hlt, q0, q1, hd⟩ := (hr.below hb).get j hjx
      go_wp2_with (go_at_call 72; (with_reducible refine (IH.out _ (List.getElem_mem hjx) _ _ _ _ hd ((hb.cell hbx).trans HA.out)).mono ?_); rintro e w' ⟨rfl, hb'⟩)
      · have hyes : q xs[j] = true := ‹q xs[j] = true›
        go_ret
        exact ⟨ret_int (fIdx_at hjx hyes HR.out).symm, hb.trans (by repeat (first | exact Below.refl _ _ | refine Below.drew ?_ | refine below_drewN ?_ _ | refine Below.alloc ?_ (by first | omega | (simp; done) | (simp; omega)) _ | refine Below.setCell ?_ (by first | omega | (simp; done) | (simp; omega)) _ | refine Below.trans ?_ (Below.mono hb' (by first | omega | (simp; done) | (simp; omega)))))⟩
      · have hno : q xs[j] = false := ‹q xs[j] = false›
        go_roundw
        case rel =>
          refine ⟨j + 1, by omega, by go_num, fun i hi hij => ?_, hb.trans (by repeat (first | exact Below.refl _ _ | refine Below.drew ?_ | refine below_drewN ?_ _ | refine Below.alloc ?_ (by first | omega | (simp; done) | (simp; omega)) _ | refine Below.setCell ?_ (by first | omega | (simp; done) | (simp; omega)) _ | refine Below.trans ?_ (Below.mono hb' (by first | omega | (simp; done) | (simp; omega)))))⟩
          by_cases hij' : i < j
          · exact HR.out i hi hij'
          · obtain rfl : i = j := by omega
            exact hno
        case measure => simp [intOf]; omega
    · go_wp2
      go_ret
      have hx1 : n = xs.length := hr.1
      exact ⟨ret_int (fIdx_none fun i hi => HR.out i hi (by omega)).symm, hb⟩

set_option maxHeartbeats 400000 in
theorem containsFuncTy_of (A : Value) (q : Ty → Bool) (xs : List Ty) (ih : ∀ x ∈ xs, LitTy A q x) (bx : Nat) (a : Option Addr) (n cap : Nat) (w : World) (hr : Rds w xs a n cap) (hA : w.cell? ⟨bx, 0, none⟩ = some A) :
    Calls Try.prog 71 #[.slice a n cap, .func (.func 72) #[] #[.pointer (some ⟨bx, 0, none⟩)]] w
      fun e w' => e = .returned (.bool (xs.any q)) ∧ Below w.heap.size w w' := by
  have C := hide (indexFuncTy_of A q xs ih bx a n cap w hr hA)
  have hge := hide (fIdx_ge q xs)
  clear ih hA hr
  go_enter Try.func71, Try.ntmps71
  go_wp2_with (go_at_call 73; (with_reducible refine C.out.mono ?_); rintro e w' ⟨rfl, hb'⟩)
  go_ret
  exact ⟨ret_bool hge.out, hb'⟩

/-- Not code. -/
def Ty.nocode (t : Ty) : Bool := t.kind != 4

set_option maxHeartbeats 800000 in
theorem allTypes_validLit_any (t : Ty) : ∀ (c0 c1 : Value) (w : World), Rd w t c0 c1 →
    Calls Try.prog 68 #[.agg #[c0, c1], .func (.func 69) #[] #[]] w fun e w' => e = .returned (.bool (t.all Ty.formed)) ∧ Below w.heap.size w w' := by
  induction t using Ty.ind with | h k xs ih => ?_
  intro c0 c1 w h
  have L : ∀ x ∈ xs, LitTy (.func (.func 69) #[] #[]) (fun x => !x.all Ty.formed) x := by
    intro x hx bx d0 d1 W hd hA
    have C := hide (ih x hx d0 d1)
    have hA1 : ∀ o, (W.alloc o).cell? ⟨bx, 0, none⟩ = some (.func (.func 69) #[] #[]) := fun o => (World.cell?_alloc_lt W o _ (World.block_lt_of_cell? _ _ hA)).trans hA
    clear ih hA
    go_enter Try.func72, Try.ntmps72
    go_wp2_with (go_at_call 68; (with_reducible refine (C.out _ (hd.below (below_new _ _))).mono ?_); rintro e w' ⟨rfl, hb'⟩)
    go_ret
    exact ⟨rfl, below_of_alloc hb'⟩
  clear ih
  have CC := hide (containsFuncTy_of (.func (.func 69) #[] #[]) (fun x => !x.all Ty.formed) xs L)
  clear L
  obtain ⟨a, n, cap, rfl, rfl, hk, hr⟩ := h.shape
  have hall := Ty.all_eq Ty.formed ⟨k, xs⟩
  have hp' : ∀ W, Below w.heap.size w W → Rd W ⟨k, xs⟩ (.int .i64 k) (.slice a n cap) := fun W hW => h.below hW
  have C := fun W hd => validLit_any ⟨k, xs⟩ (.int .i64 k) (.slice a n cap) W hd
  cases hpt : Ty.formed ⟨k, xs⟩ with
  | true =>
    rw [hpt] at C hall
    replace hall := hide hall
    clear hpt
    replace C := hide C
    go_enter Try.func68, Try.ntmps68
    go_wp2_with (first
      | (go_at_call 69; (with_reducible refine (C.out _ (hp' _ (by repeat (first | exact Below.refl _ _ | assumption | refine Below.drew ?_ | refine below_drewN ?_ _ | refine Below.alloc ?_ (by first | omega | (simp; done) | (simp; omega)) _ | refine Below.setCell ?_ (by first | omega | (simp; done) | (simp; omega)) _)))).mono ?_); rintro e w1 ⟨rfl, b1⟩
         have B1 := Blk.under ((Blk.new w 26 #[.int .i64 k, .slice a n cap]).alloc (.cells #[.func (.func 69) #[] #[]] 61)) b1
         have A1 := (Blk.new2 w (.cells #[.int .i64 k, .slice a n cap] 26) 61 #[.func (.func 69) #[] #[]]).under b1
         obtain ⟨u0, u1⟩ := B1.two
         have hA1 := hide (A1.cell 0))
      | (go_at_call 71; (with_reducible refine (CC.out _ _ _ _ _ (hr.below (by repeat (first | exact Below.refl _ _ | refine Below.drew ?_ | refine below_drewN ?_ _ | refine Below.alloc ?_ (by first | omega | (simp; done) | (simp; omega)) _ | refine Below.setCell ?_ (by first | omega | (simp; done) | (simp; omega)) _ | refine Below.trans ?_ (Below.mono b1 (by first | omega | (simp; done) | (simp; omega)))))) hA1.out).mono ?_); rintro e w2 ⟨rfl, b2⟩))
    go_ret
    refine ⟨ret_bool ?_, below_next (by repeat (first | exact Below.refl _ _ | refine Below.drew ?_ | refine below_drewN ?_ _ | refine Below.alloc ?_ (by first | omega | (simp; done) | (simp; omega)) _ | refine Below.setCell ?_ (by first | omega | (simp; done) | (simp; omega)) _ | refine Below.trans ?_ (Below.mono b1 (by first | omega | (simp; done) | (simp; omega))))) b2⟩
    rw [hall.out, all_not_any]
    rfl
  | false =>
    rw [hpt] at C hall
    replace hall := hide hall
    clear hpt
    replace C := hide C
    go_enter Try.func68, Try.ntmps68
    go_wp2_with (go_at_call 69; (with_reducible refine (C.out _ (hp' _ (by repeat (first | exact Below.refl _ _ | assumption | refine Below.drew ?_ | refine below_drewN ?_ _ | refine Below.alloc ?_ (by first | omega | (simp; done) | (simp; omega)) _ | refine Below.setCell ?_ (by first | omega | (simp; done) | (simp; omega)) _)))).mono ?_); rintro e w1 ⟨rfl, b1⟩)
    go_ret
    refine ⟨ret_bool ?_, (by repeat (first | exact Below.refl _ _ | refine Below.drew ?_ | refine below_drewN ?_ _ | refine Below.alloc ?_ (by first | omega | (simp; done) | (simp; omega)) _ | refine Below.setCell ?_ (by first | omega | (simp; done) | (simp; omega)) _ | refine Below.trans ?_ (Below.mono b1 (by first | omega | (simp; done) | (simp; omega)))))⟩
    rw [hall.out]
    rfl
end Go.Proofs.Ytmdmnchnkfjpjaa
