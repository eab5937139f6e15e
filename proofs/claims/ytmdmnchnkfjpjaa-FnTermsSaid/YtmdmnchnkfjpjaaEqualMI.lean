/-
  The walks of EqualTerm in both texts: they answer whether the two trees are one.
-/
import Derived.Test.YtmdmnchnkfjpjaaTm
import Derived.Test.YtmdmnchnkfjpjaaEqualM
namespace Go.Proofs.Ytmdmnchnkfjpjaa
open Go.RowKit
set_option linter.unusedVariables false
set_option linter.unusedSimpArgs false

set_option maxHeartbeats 1600000 in
theorem equalFuncTerm_of (xs : List Tm)
    (ih : ∀ t ∈ xs, ∀ (u : Tm) (l l' : Lt) (w : World), Md w t l → Md w u l' →
      Calls Try.prog 14 #[.agg #[.int .i64 t.kind, .string t.name, .string t.other, .int .i64 t.n, .int .i64 t.type.kind, .slice l.ta l.tn l.tc, .int .i64 t.res.kind, .slice l.ra l.rn l.rc, .slice l.aa l.an l.ac], .agg #[.int .i64 u.kind, .string u.name, .string u.other, .int .i64 u.n, .int .i64 u.type.kind, .slice l'.ta l'.tn l'.tc, .int .i64 u.res.kind, .slice l'.ra l'.rn l'.rc, .slice l'.aa l'.an l'.ac]] w fun e w' => e = .returned (.bool (t.beq u)) ∧ Below w.heap.size w w')
    (ys : List Tm) (a a' : Option Addr) (n cap n' cap' : Nat) (w : World) (hr : Mds w xs a n cap) (hr' : Mds w ys a' n' cap') :
    Calls Try.prog 31 #[.slice a n cap, .slice a' n' cap', .func (.func 14) #[] #[]] w
      fun e w' => e = .returned (.bool (Tm.beqs xs ys)) ∧ Below w.heap.size w w' := by
  have IH := hide ih
  clear ih
  have hn : n ≤ 9223372036854775807 := by obtain ⟨_, h2, h3, _⟩ := hr; unfold maxLen at h3; omega
  have hn' : n' ≤ 9223372036854775807 := by obtain ⟨_, h2, h3, _⟩ := hr'; unfold maxLen at h3; omega
  by_cases hnn : n = n'
  · subst hnn
    go_enter Try.func31, Try.ntmps31
    go_wp2_with fail
    go_loopw [17] (fun i wr => ∃ j : Nat, j ≤ n ∧ i = .int .i64 j ∧ Hid (∀ i (h : i < xs.length) (h' : i < ys.length), i < j → xs[i].beq ys[i] = true) ∧ Below w.heap.size w wr) (fun i _ => n - (intOf i).toNat)
    case atStart => exact ⟨0, by omega, rfl, fun i _ _ hi => by omega, (by repeat (first | exact Below.refl _ _ | assumption | refine Below.drew ?_ | refine below_drewN ?_ _ | refine Below.alloc ?_ (by first | omega | (simp; done) | (simp; omega)) _ | refine Below.setCell ?_ (by first | omega | (simp; done) | (simp; omega)) _))⟩
    case round =>
      obtain ⟨j, hj, rfl, HR, hb⟩ := hrel
      have hsz := hb.size
      by_cases hjn : j < n
      · have hjx : j < xs.length := by rw [← hr.1]; exact hjn
        have hjy : j < ys.length := by rw [← hr'.1]; exact hjn
        obtain ⟨b, off, lx, rfl, hlt, hc, hd⟩ := (hr.below hb).get j hjx
        obtain ⟨b', off', ly, rfl, hlt', hc', hd'⟩ := (hr'.below hb).get j hjy
        obtain ⟨e0, e1, e2, e3, e4, e5, e6, e7, e8⟩ := hc.nine
        have hc2 : CellsAt (wr.alloc (.cells #[.int .i64 xs[j].kind, .string xs[j].name, .string xs[j].other, .int .i64 xs[j].n, .int .i64 xs[j].type.kind, .slice lx.ta lx.tn lx.tc, .int .i64 xs[j].res.kind, .slice lx.ra lx.rn lx.rc, .slice lx.aa lx.an lx.ac] 29)) b' (off' + j * 9) (tcells ys[j] ly) := hc'.keep fun o _ _ => World.cell?_alloc_lt wr _ _ hlt'
        obtain ⟨f0, f1, f2, f3, f4, f5, f6, f7, f8⟩ := hc2.nine
        clear hc hc' hc2
        go_wp2_with (go_at_call 14; refine (IH.out _ (List.getElem_mem hjx) ys[j] _ _ _ (hd.below (by repeat (first | exact Below.refl _ _ | assumption | refine Below.drew ?_ | refine below_drewN ?_ _ | refine Below.alloc ?_ (by first | omega | (simp; done) | (simp; omega)) _ | refine Below.setCell ?_ (by first | omega | (simp; done) | (simp; omega)) _))) (hd'.below (by repeat (first | exact Below.refl _ _ | assumption | refine Below.drew ?_ | refine below_drewN ?_ _ | refine Below.alloc ?_ (by first | omega | (simp; done) | (simp; omega)) _ | refine Below.setCell ?_ (by first | omega | (simp; done) | (simp; omega)) _)))).mono ?_; rintro e w' ⟨rfl, hb'⟩)
        · have hno : xs[j].beq ys[j] = false := by simpa using ‹(!xs[j].beq ys[j]) = true›
          go_ret
          exact ⟨ret_bool (Tm.beqs_no hjx hjy hno).symm, hb.trans (by repeat (first | exact Below.refl _ _ | refine Below.drew ?_ | refine below_drewN ?_ _ | refine Below.alloc ?_ (by first | omega | (simp; done) | (simp; omega)) _ | refine Below.setCell ?_ (by first | omega | (simp; done) | (simp; omega)) _ | refine Below.trans ?_ (Below.mono hb' (by first | omega | (simp; done) | (simp; omega)))))⟩
        · have hyes : xs[j].beq ys[j] = true := by simpa using ‹(!xs[j].beq ys[j]) = false›
          go_roundw
          case rel =>
            refine ⟨j + 1, by omega, by go_num, fun i hi hi' hij => ?_, hb.trans (by repeat (first | exact Below.refl _ _ | refine Below.drew ?_ | refine below_drewN ?_ _ | refine Below.alloc ?_ (by first | omega | (simp; done) | (simp; omega)) _ | refine Below.setCell ?_ (by first | omega | (simp; done) | (simp; omega)) _ | refine Below.trans ?_ (Below.mono hb' (by first | omega | (simp; done) | (simp; omega)))))⟩
            by_cases hij' : i < j
            · exact HR.out i hi hi' hij'
            · obtain rfl : i = j := by omega
              exact hyes
          case measure => simp [intOf]; omega
      · go_wp2
        go_ret
        have hx1 : n = xs.length := hr.1
        have hx2 : n = ys.length := hr'.1
        refine ⟨ret_bool ?_, hb⟩
        rw [eq_comm, Tm.beqs_iff]
        exact ⟨by omega, fun i hi hi' => HR.out i hi hi' (by omega)⟩
  · have hnk : ((n : Int) != (n' : Int)) = true := by simp; omega
    go_enter Try.func31, Try.ntmps31
    go_wp2
    go_ret
    have hx1 : n = xs.length := hr.1
    have hx2 : n' = ys.length := hr'.1
    exact ⟨ret_bool (Tm.beqs_len (by omega)).symm, (by repeat (first | exact Below.refl _ _ | assumption | refine Below.drew ?_ | refine below_drewN ?_ _ | refine Below.alloc ?_ (by first | omega | (simp; done) | (simp; omega)) _ | refine Below.setCell ?_ (by first | omega | (simp; done) | (simp; omega)) _))⟩

set_option maxHeartbeats 3200000 in
theorem implEqualTerm_any (t : Tm) : ∀ (u : Tm) (l l' : Lt) (w : World), Md w t l → Md w u l' →
    Calls Try.prog 14 #[.agg #[.int .i64 t.kind, .string t.name, .string t.other, .int .i64 t.n, .int .i64 t.type.kind, .slice l.ta l.tn l.tc, .int .i64 t.res.kind, .slice l.ra l.rn l.rc, .slice l.aa l.an l.ac], .agg #[.int .i64 u.kind, .string u.name, .string u.other, .int .i64 u.n, .int .i64 u.type.kind, .slice l'.ta l'.tn l'.tc, .int .i64 u.res.kind, .slice l'.ra l'.rn l'.rc, .slice l'.aa l'.an l'.ac]] w fun e w' => e = .returned (.bool (t.beq u)) ∧ Below w.heap.size w w' := by
  induction t using Tm.ind' with | h t ih => ?_
  intro u l l' w h h'
  have IH := hide ih
  clear ih
  obtain ⟨-, ht, hre, hr⟩ := h.shape
  obtain ⟨-, ht', hre', hr'⟩ := h'.shape
  have hn : l.an ≤ 9223372036854775807 := by obtain ⟨_, h2, h3, _⟩ := hr; unfold maxLen at h3; omega
  have hn' : l'.an ≤ 9223372036854775807 := by obtain ⟨_, h2, h3, _⟩ := hr'; unfold maxLen at h3; omega
  have C5 := hide fun W (hW : Below w.heap.size w W) => implEqualType_any t.type u.type _ _ _ _ W (ht.below hW) (ht'.below hW)
  have C6 := hide fun W (hW : Below w.heap.size w W) => implEqualType_any t.res u.res _ _ _ _ W (hre.below hW) (hre'.below hW)
  have heq := t.beq_eq u
  have below2 : Below w.heap.size w ((w.alloc (.cells #[.int .i64 t.kind, .string t.name, .string t.other, .int .i64 t.n, .int .i64 t.type.kind, .slice l.ta l.tn l.tc, .int .i64 t.res.kind, .slice l.ra l.rn l.rc, .slice l.aa l.an l.ac] 29)).alloc (.cells #[.int .i64 u.kind, .string u.name, .string u.other, .int .i64 u.n, .int .i64 u.type.kind, .slice l'.ta l'.tn l'.tc, .int .i64 u.res.kind, .slice l'.ra l'.rn l'.rc, .slice l'.aa l'.an l'.ac] 29)) := (by repeat (first | exact Below.refl _ _ | assumption | refine Below.drew ?_ | refine below_drewN ?_ _ | refine Below.alloc ?_ (by first | omega | (simp; done) | (simp; omega)) _ | refine Below.setCell ?_ (by first | omega | (simp; done) | (simp; omega)) _))
  cases h0 : (t.kind == u.kind) with
  | false =>
    have g0 : (t.kind != u.kind) = true := by simp [bne, h0]
    rw [h0] at heq
    simp only [Bool.false_and, Bool.and_false, Bool.true_and] at heq
    rw [heq]
    go_enter Try.func14, Try.ntmps14
    go_wp2_with fail
    go_ret
    exact ⟨rfl, below2⟩
  | true =>
    have g0 : (t.kind != u.kind) = false := by simp [bne, h0]
    rw [h0] at heq
    cases h1 : (t.name.toList == u.name.toList) with
    | false =>
      have g1 : (t.name.toList != u.name.toList) = true := by simp [bne, h1]
      rw [h1] at heq
      simp only [Bool.false_and, Bool.and_false, Bool.true_and] at heq
      rw [heq]
      go_enter Try.func14, Try.ntmps14
      go_wp2_with fail
      go_ret
      exact ⟨rfl, below2⟩
    | true =>
      have g1 : (t.name.toList != u.name.toList) = false := by simp [bne, h1]
      rw [h1] at heq
      cases h2 : (t.other.toList == u.other.toList) with
      | false =>
        have g2 : (t.other.toList != u.other.toList) = true := by simp [bne, h2]
        rw [h2] at heq
        simp only [Bool.false_and, Bool.and_false, Bool.true_and] at heq
        rw [heq]
        go_enter Try.func14, Try.ntmps14
        go_wp2_with fail
        go_ret
        exact ⟨rfl, below2⟩
      | true =>
        have g2 : (t.other.toList != u.other.toList) = false := by simp [bne, h2]
        rw [h2] at heq
        cases h3 : (t.n == u.n) with
        | false =>
          have g3 : (t.n != u.n) = true := by simp [bne, h3]
          rw [h3] at heq
          simp only [Bool.false_and, Bool.and_false, Bool.true_and] at heq
          rw [heq]
          go_enter Try.func14, Try.ntmps14
          go_wp2_with fail
          go_ret
          exact ⟨rfl, below2⟩
        | true =>
          have g3 : (t.n != u.n) = false := by simp [bne, h3]
          rw [h3] at heq
          cases h4 : (t.type.beq u.type) with
          | false =>
            rw [h4] at C5
            rw [h4] at heq
            simp only [Bool.false_and, Bool.and_false, Bool.true_and] at heq
            rw [heq]
            go_enter Try.func14, Try.ntmps14
            go_wp2_with (first | (go_at_call 30; (with_reducible refine (C5.out _ below2).mono ?_); rintro e w1 ⟨rfl, b1⟩; have k1 := below_of_alloc (below_of_alloc b1); have A1 : Blk w1 w.heap.size _ _ := ((Blk.new w _ _).alloc _).under b1; have B1 : Blk w1 (w.heap.size + 1) _ _ := (Blk.new2 w _ _ _).under b1; obtain ⟨u0, u1, u2, u3, u4, u5, u6, u7, u8⟩ := A1.nine; obtain ⟨v0, v1, v2, v3, v4, v5, v6, v7, v8⟩ := B1.nine))
            go_ret
            exact ⟨rfl, k1⟩
          | true =>
            rw [h4] at C5
            rw [h4] at heq
            cases h5 : (t.res.beq u.res) with
            | false =>
              rw [h5] at C6
              rw [h5] at heq
              simp only [Bool.false_and, Bool.and_false, Bool.true_and] at heq
              rw [heq]
              go_enter Try.func14, Try.ntmps14
              go_wp2_with (first | (go_at_call 30; (with_reducible refine (C5.out _ below2).mono ?_); rintro e w1 ⟨rfl, b1⟩; have k1 := below_of_alloc (below_of_alloc b1); have A1 : Blk w1 w.heap.size _ _ := ((Blk.new w _ _).alloc _).under b1; have B1 : Blk w1 (w.heap.size + 1) _ _ := (Blk.new2 w _ _ _).under b1; obtain ⟨u0, u1, u2, u3, u4, u5, u6, u7, u8⟩ := A1.nine; obtain ⟨v0, v1, v2, v3, v4, v5, v6, v7, v8⟩ := B1.nine) | (go_at_call 30; (with_reducible refine (C6.out _ k1).mono ?_); rintro e w2 ⟨rfl, b2⟩; have k2 := below_next k1 b2; have A2 := A1.under b2; have B2 := B1.under b2; obtain ⟨u0', u1', u2', u3', u4', u5', u6', u7', u8'⟩ := A2.nine; obtain ⟨v0', v1', v2', v3', v4', v5', v6', v7', v8'⟩ := B2.nine))
              go_ret
              exact ⟨rfl, k2⟩
            | true =>
              rw [h5] at C6
              rw [h5] at heq
              simp only [Bool.true_and] at heq
              rw [heq]
              go_enter Try.func14, Try.ntmps14
              go_wp2_with (first | (go_at_call 30; (with_reducible refine (C5.out _ below2).mono ?_); rintro e w1 ⟨rfl, b1⟩; have k1 := below_of_alloc (below_of_alloc b1); have A1 : Blk w1 w.heap.size _ _ := ((Blk.new w _ _).alloc _).under b1; have B1 : Blk w1 (w.heap.size + 1) _ _ := (Blk.new2 w _ _ _).under b1; obtain ⟨u0, u1, u2, u3, u4, u5, u6, u7, u8⟩ := A1.nine; obtain ⟨v0, v1, v2, v3, v4, v5, v6, v7, v8⟩ := B1.nine) | (go_at_call 30; (with_reducible refine (C6.out _ k1).mono ?_); rintro e w2 ⟨rfl, b2⟩; have k2 := below_next k1 b2; have A2 := A1.under b2; have B2 := B1.under b2; obtain ⟨u0', u1', u2', u3', u4', u5', u6', u7', u8'⟩ := A2.nine; obtain ⟨v0', v1', v2', v3', v4', v5', v6', v7', v8'⟩ := B2.nine) | (go_at_call 31; refine (equalFuncTerm_of t.args IH.out _ _ _ _ _ _ _ _ (hr.below k2) (hr'.below k2)).mono ?_; rintro e w3 ⟨rfl, b3⟩))
              go_ret
              exact ⟨rfl, below_next k2 b3⟩
end Go.Proofs.Ytmdmnchnkfjpjaa
