/-
  The walks of allTerms, its function literal, and of the library's ContainsFunc and IndexFunc that it calls.
-/
import Derived.Test.YtmdmnchnkfjpjaaFormP
import Derived.Test.YtmdmnchnkfjpjaaTmSz
namespace Go.Proofs.Ytmdmnchnkfjpjaa
open Go.RowKit
set_option linter.unusedVariables false
set_option linter.unusedSimpArgs false

theorem Tm.wt_mem {x : Tm} {xs : List Tm} (h : x ∈ xs) : 1 + x.wt ≤ Tm.wts xs := by
  induction xs with
  | nil => cases h
  | cons y ys ih =>
    rw [Tm.wts]
    rcases List.mem_cons.1 h with rfl | h
    · omega
    · have := ih h
      omega
theorem Tm.wt_arg {t x : Tm} (h : x ∈ t.args) (hw : t.wt ≤ 1048576) : x.wt ≤ 1048576 := by
  have := Tm.wt_mem h
  have := t.wt_eq
  omega

/-- What the function literal of allTerms says, called with the box of 'accept' at bx. -/
abbrev LitTm (A : Value) (q : Tm → Bool) (x : Tm) : Prop := ∀ (bx : Nat) (l : Lt) (W : World), Md W x l → W.cell? ⟨bx, 0, none⟩ = some A →
  Calls Try.prog 41 #[.agg #[.int .i64 x.kind, .string x.name, .string x.other, .int .i64 x.n, .int .i64 x.type.kind, .slice l.ta l.tn l.tc, .int .i64 x.res.kind, .slice l.ra l.rn l.rc, .slice l.aa l.an l.ac], .pointer (some ⟨bx, 0, none⟩)] W fun e W' => e = .returned (.bool (q x)) ∧ Below W.heap.size W W'

set_option maxHeartbeats 800000 in
theorem indexFuncTm_of (A : Value) (q : Tm → Bool) (xs : List Tm) (ih : ∀ x ∈ xs, LitTm A q x) (bx : Nat) (a : Option Addr) (n cap : Nat) (w : World) (hr : Mds w xs a n cap) (hA : w.cell? ⟨bx, 0, none⟩ = some A) :
    Calls Try.prog 54 #[.slice a n cap, .func (.func 41) #[] #[.pointer (some ⟨bx, 0, none⟩)]] w
      fun e w' => e = .returned (.int .i64 (fIdx q xs)) ∧ Below w.heap.size w w' := by
  have IH := hide ih
  clear ih
  have hn : n ≤ 9223372036854775807 := by obtain ⟨_, h2, h3, _⟩ := hr; unfold maxLen at h3; omega
  have hbx := World.block_lt_of_cell? _ _ hA
  have HA := hide hA
  clear hA
  go_enter Try.func54, Try.ntmps54
  go_wp2_with fail
  go_loopw [8] (fun i wr => ∃ j : Nat, j ≤ n ∧ i = .int .i64 j ∧ Hid (∀ i (h : i < xs.length), i < j → q xs[i] = false) ∧ Below w.heap.size w wr) (fun i _ => n - (intOf i).toNat)
  case atStart => exact ⟨0, by omega, rfl, fun i _ hi => by omega, (by repeat (first | exact Below.refl _ _ | assumption | refine Below.drew ?_ | refine below_drewN ?_ _ | refine Below.alloc ?_ (by first | omega | (simp; done) | (simp; omega)) _ | refine Below.setCell ?_ (by first | omega | (simp; done) | (simp; omega)) _))⟩
  case round =>
    obtain ⟨j, hj, rfl, HR, hb⟩ := hrel
    have hsz := hb.size
    by_cases hjn : j < n
    · have hjx : j < xs.length := by rw [← hr.1]; exact hjn
      obtain ⟨b, off, l', rfl, hlt, hc, hd⟩ := (hr.below hb).get j hjx
      obtain ⟨e0, e1, e2, e3, e4, e5, e6, e7, e8⟩ := hc.nine
      clear hc
      go_wp2_with (go_at_call 41; (with_reducible refine (IH.out _ (List.getElem_mem hjx) _ _ _ hd ((hb.cell hbx).trans HA.out)).mono ?_); rintro e w' ⟨rfl, hb'⟩)
      · have hyes : q xs[j] = true := ‹q xs[j] = true›
        go_ret
        exact ⟨ret_int (fIdx_at hjx hyes HR.out).symm, hb.trans (by repeat (first | exact Below.refl _ _ | refine Below.drew ?_ | refine below_drewN ?_ _ | refine Below.alloc ?_ (by first | omega | (simp; done) | (simp; omega)) _ | refine Below.setCell ?_ (by first | omega | (simp; done) | (simp; omega)) _ | refine Below.trans ?_ (Below.mono hb' (by first | omega | (simp; done) | (simp; omega)))))⟩
      · have hno : q xs[j] = false := ‹q xs[j] = false›
        go_roundw
        case rel =>
          refine ⟨j + 1, by omega, by go_num, fun i hi hij => ?_, hb.trans (by repeat (first | exact Below.refl _ _ | refine Below.drew ?_ | refine below_drewN ?_ _ | refine Below.alloc ?_ (by first | omega | (simp; done) | (simp; omega)) _ | refine Below.setCell ?_ (by first | omega | (simp; done) | (simp; omega)) _ | refine Below.trans ?_ (Below.mono hb' (by first | omega | (simp; done) | (simp; omega)))))⟩
          by_cases hij' : i < j
          · exact HR.out i hi hij'
          · obtain rfl : i = j := by omega
            exact hno
        case measure => simp [intOf]; omega
    · go_wp2
      go_ret
      have hx1 : n = xs.length := hr.1
      exact ⟨ret_int (fIdx_none fun i hi => HR.out i hi (by omega)).symm, hb⟩

set_option maxHeartbeats 400000 in
theorem containsFuncTm_of (A : Value) (q : Tm → Bool) (xs : List Tm) (ih : ∀ x ∈ xs, LitTm A q x) (bx : Nat) (a : Option Addr) (n cap : Nat) (w : World) (hr : Mds w xs a n cap) (hA : w.cell? ⟨bx, 0, none⟩ = some A) :
    Calls Try.prog 40 #[.slice a n cap, .func (.func 41) #[] #[.pointer (some ⟨bx, 0, none⟩)]] w
      fun e w' => e = .returned (.bool (xs.any q)) ∧ Below w.heap.size w w' := by
  have C := hide (indexFuncTm_of A q xs ih bx a n cap w hr hA)
  have hge := hide (fIdx_ge q xs)
  clear ih hA hr
  go_enter Try.func40, Try.ntmps40
  go_wp2_with (go_at_call 54; (with_reducible refine C.out.mono ?_); rintro e w' ⟨rfl, hb'⟩)
  go_ret
  exact ⟨ret_bool hge.out, hb'⟩

end Go.Proofs.Ytmdmnchnkfjpjaa
