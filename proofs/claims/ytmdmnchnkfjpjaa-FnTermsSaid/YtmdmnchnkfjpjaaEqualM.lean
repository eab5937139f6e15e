/-
  The walks of EqualTerm in both texts: they answer whether the two trees are one.
-/
import Derived.Test.YtmdmnchnkfjpjaaTm
import Derived.Test.YtmdmnchnkfjpjaaEqualTy
namespace Go.Proofs.Ytmdmnchnkfjpjaa
open Go.RowKit
set_option maxRecDepth 100000
set_option linter.unusedVariables false
set_option linter.unusedSimpArgs false

mutual
def Tm.beq : Tm → Tm → Bool
  | ⟨k, nm, ot, n, ty, re, xs⟩, ⟨k', nm', ot', n', ty', re', ys⟩ => k == k' && (nm.toList == nm'.toList && (ot.toList == ot'.toList && (n == n' && (ty.beq ty' && (re.beq re' && Tm.beqs xs ys)))))
def Tm.beqs : List Tm → List Tm → Bool
  | [], [] => true
  | x :: xs, y :: ys => x.beq y && Tm.beqs xs ys
  | _, _ => false
end
theorem Tm.beq_eq (t u : Tm) : t.beq u = (t.kind == u.kind && (t.name.toList == u.name.toList && (t.other.toList == u.other.toList && (t.n == u.n && (t.type.beq u.type && (t.res.beq u.res && Tm.beqs t.args u.args)))))) := by cases t; cases u; rw [Tm.beq]
theorem Tm.beqs_iff : ∀ (xs ys : List Tm), Tm.beqs xs ys = true ↔ xs.length = ys.length ∧ ∀ i (h : i < xs.length) (h' : i < ys.length), xs[i].beq ys[i] = true
  | [], [] => by simp [Tm.beqs]
  | [], y :: ys => by simp [Tm.beqs]
  | x :: xs, [] => by simp [Tm.beqs]
  | x :: xs, y :: ys => by
    rw [Tm.beqs, Bool.and_eq_true, Tm.beqs_iff xs ys]
    constructor
    · rintro ⟨h, hl, hh⟩
      refine ⟨by simp [hl], fun i h1 h2 => ?_⟩
      cases i with
      | zero => exact h
      | succ i => exact hh i (by simpa using h1) (by simpa using h2)
    · rintro ⟨hl, hh⟩
      exact ⟨hh 0 (by simp) (by simp), by simpa using hl, fun i h1 h2 => hh (i + 1) (by simpa using h1) (by simpa using h2)⟩
theorem Tm.beqs_no {xs ys : List Tm} {i : Nat} (h : i < xs.length) (h' : i < ys.length) (hn : xs[i].beq ys[i] = false) : Tm.beqs xs ys = false := by
  rw [← Bool.not_eq_true, Tm.beqs_iff]
  rintro ⟨_, h2⟩
  rw [h2 i h h'] at hn
  cases hn
theorem Tm.beqs_len {xs ys : List Tm} (h : xs.length ≠ ys.length) : Tm.beqs xs ys = false := by
  rw [← Bool.not_eq_true, Tm.beqs_iff]
  exact fun hh => h hh.1

set_option maxHeartbeats 3200000 in
theorem specEqualTerm_any (t : Tm) : ∀ (u : Tm) (l l' : Lt) (w : World), Md w t l → Md w u l' →
    Calls Try.prog 15 #[.agg #[.int .i64 t.kind, .string t.name, .string t.other, .int .i64 t.n, .int .i64 t.type.kind, .slice l.ta l.tn l.tc, .int .i64 t.res.kind, .slice l.ra l.rn l.rc, .slice l.aa l.an l.ac], .agg #[.int .i64 u.kind, .string u.name, .string u.other, .int .i64 u.n, .int .i64 u.type.kind, .slice l'.ta l'.tn l'.tc, .int .i64 u.res.kind, .slice l'.ra l'.rn l'.rc, .slice l'.aa l'.an l'.ac]] w fun e w' => e = .returned (.bool (t.beq u)) ∧ Below w.heap.size w w' := by
  induction t using Tm.ind' with | h t ih => ?_
  intro u l l' w h h'
  have IH := hide ih
  clear ih
  obtain ⟨-, ht, hre, hr⟩ := h.shape
  obtain ⟨-, ht', hre', hr'⟩ := h'.shape
  have hn : l.an ≤ 9223372036854775807 := by obtain ⟨_, h2, h3, _⟩ := hr; unfold maxLen at h3; omega
  have hn' : l'.an ≤ 9223372036854775807 := by obtain ⟨_, h2, h3, _⟩ := hr'; unfold maxLen at h3; omega
  have C5 := hide fun W (hW : Below w.heap.size w W) => specEqualType_any t.type u.type _ _ _ _ W (ht.below hW) (ht'.below hW)
  have C6 := hide fun W (hW : Below w.heap.size w W) => specEqualType_any t.res u.res _ _ _ _ W (hre.below hW) (hre'.below hW)
  have heq := t.beq_eq u
  have below2 : Below w.heap.size w ((w.alloc (.cells #[.int .i64 t.kind, .string t.name, .string t.other, .int .i64 t.n, .int .i64 t.type.kind, .slice l.ta l.tn l.tc, .int .i64 t.res.kind, .slice l.ra l.rn l.rc, .slice l.aa l.an l.ac] 29)).alloc (.cells #[.int .i64 u.kind, .string u.name, .string u.other, .int .i64 u.n, .int .i64 u.type.kind, .slice l'.ta l'.tn l'.tc, .int .i64 u.res.kind, .slice l'.ra l'.rn l'.rc, .slice l'.aa l'.an l'.ac] 29)) := (by repeat (first | exact Below.refl _ _ | assumption | refine Below.drew ?_ | refine below_drewN ?_ _ | refine Below.alloc ?_ (by first | omega | (simp; done) | (simp; omega)) _ | refine Below.setCell ?_ (by first | omega | (simp; done) | (simp; omega)) _))
  cases h0 : (t.kind == u.kind) with
  | false =>
    have g0 : (t.kind != u.kind) = true := by simp [bne, h0]
    rw [h0] at heq
    simp only [Bool.false_and, Bool.and_false, Bool.true_and] at heq
    rw [heq]
    go_enter Try.func15, Try.ntmps15
    go_wp2_with fail
    go_ret
    exact ⟨rfl, below2⟩
  | true =>
    have g0 : (t.kind != u.kind) = false := by simp [bne, h0]
    rw [h0] at heq
    cases h1 : (t.name.toList == u.name.toList) with
    | false =>
      have g1 : (t.name.toList != u.name.toList) = true := by simp [bne, h1]
      rw [h1] at heq
      simp only [Bool.false_and, Bool.and_false, Bool.true_and] at heq
      rw [heq]
      go_enter Try.func15, Try.ntmps15
      go_wp2_with fail
      go_ret
      exact ⟨rfl, below2⟩
    | true =>
      have g1 : (t.name.toList != u.name.toList) = false := by simp [bne, h1]
      rw [h1] at heq
      cases h2 : (t.other.toList == u.other.toList) with
      | false =>
        have g2 : (t.other.toList != u.other.toList) = true := by simp [bne, h2]
        rw [h2] at heq
        simp only [Bool.false_and, Bool.and_false, Bool.true_and] at heq
        rw [heq]
        go_enter Try.func15, Try.ntmps15
        go_wp2_with fail
        go_ret
        exact ⟨rfl, below2⟩
      | true =>
        have g2 : (t.other.toList != u.other.toList) = false := by simp [bne, h2]
        rw [h2] at heq
        cases h3 : (t.n == u.n) with
        | false =>
          have g3 : (t.n != u.n) = true := by simp [bne, h3]
          rw [h3] at heq
          simp only [Bool.false_and, Bool.and_false, Bool.true_and] at heq
          rw [heq]
          go_enter Try.func15, Try.ntmps15
          go_wp2_with fail
          go_ret
          exact ⟨rfl, below2⟩
        | true =>
          have g3 : (t.n != u.n) = false := by simp [bne, h3]
          rw [h3] at heq
          cases h4 : (t.type.beq u.type) with
          | false =>
            rw [h4] at C5
            rw [h4] at heq
            simp only [Bool.false_and, Bool.and_false, Bool.true_and] at heq
            rw [heq]
            go_enter Try.func15, Try.ntmps15
            go_wp2_with (first | (go_at_call 32; (with_reducible refine (C5.out _ below2).mono ?_); rintro e w1 ⟨rfl, b1⟩; have k1 := below_of_alloc (below_of_alloc b1); have A1 : Blk w1 w.heap.size _ _ := ((Blk.new w _ _).alloc _).under b1; have B1 : Blk w1 (w.heap.size + 1) _ _ := (Blk.new2 w _ _ _).under b1; obtain ⟨u0, u1, u2, u3, u4, u5, u6, u7, u8⟩ := A1.nine; obtain ⟨v0, v1, v2, v3, v4, v5, v6, v7, v8⟩ := B1.nine))
            go_ret
            exact ⟨rfl, k1⟩
          | true =>
            rw [h4] at C5
            rw [h4] at heq
            cases h5 : (t.res.beq u.res) with
            | false =>
              rw [h5] at C6
              rw [h5] at heq
              simp only [Bool.false_and, Bool.and_false, Bool.true_and] at heq
              rw [heq]
              go_enter Try.func15, Try.ntmps15
              go_wp2_with (first | (go_at_call 32; (with_reducible refine (C5.out _ below2).mono ?_); rintro e w1 ⟨rfl, b1⟩; have k1 := below_of_alloc (below_of_alloc b1); have A1 : Blk w1 w.heap.size _ _ := ((Blk.new w _ _).alloc _).under b1; have B1 : Blk w1 (w.heap.size + 1) _ _ := (Blk.new2 w _ _ _).under b1; obtain ⟨u0, u1, u2, u3, u4, u5, u6, u7, u8⟩ := A1.nine; obtain ⟨v0, v1, v2, v3, v4, v5, v6, v7, v8⟩ := B1.nine) | (go_at_call 32; (with_reducible refine (C6.out _ k1).mono ?_); rintro e w2 ⟨rfl, b2⟩; have k2 := below_next k1 b2; have A2 := A1.under b2; have B2 := B1.under b2; obtain ⟨u0', u1', u2', u3', u4', u5', u6', u7', u8'⟩ := A2.nine; obtain ⟨v0', v1', v2', v3', v4', v5', v6', v7', v8'⟩ := B2.nine))
              go_ret
              exact ⟨rfl, k2⟩
            | true =>
              rw [h5] at C6
              rw [h5] at heq
              simp only [Bool.true_and] at heq
              rw [heq]
              by_cases hnn : l.an = l'.an
              · have gl : ((l.an : Int) != (l'.an : Int)) = false := by simp [hnn]
                replace hnn := hide hnn
                go_enter Try.func15, Try.ntmps15
                go_wp2_with (first | (go_at_call 32; (with_reducible refine (C5.out _ below2).mono ?_); rintro e w1 ⟨rfl, b1⟩; have k1 := below_of_alloc (below_of_alloc b1); have A1 : Blk w1 w.heap.size _ _ := ((Blk.new w _ _).alloc _).under b1; have B1 : Blk w1 (w.heap.size + 1) _ _ := (Blk.new2 w _ _ _).under b1; obtain ⟨u0, u1, u2, u3, u4, u5, u6, u7, u8⟩ := A1.nine; obtain ⟨v0, v1, v2, v3, v4, v5, v6, v7, v8⟩ := B1.nine) | (go_at_call 32; (with_reducible refine (C6.out _ k1).mono ?_); rintro e w2 ⟨rfl, b2⟩; have k2 := below_next k1 b2; have A2 := A1.under b2; have B2 := B1.under b2; obtain ⟨u0', u1', u2', u3', u4', u5', u6', u7', u8'⟩ := A2.nine; obtain ⟨v0', v1', v2', v3', v4', v5', v6', v7', v8'⟩ := B2.nine))
                clear u0 u1 u2 u3 u4 u5 u6 u7 u8 v0 v1 v2 v3 v4 v5 v6 v7 v8 u0' u1' u2' u3' u4' u5' u6' u7' u8' v0' v1' v2' v3' v4' v5' v6' v7' v8'
                go_loopw [5] (fun i wr => ∃ j : Nat, j ≤ l.an ∧ i = .int .i64 j ∧ Hid (∀ i (h : i < t.args.length) (h' : i < u.args.length), i < j → t.args[i].beq u.args[i] = true) ∧ Blk wr w.heap.size 29 #[.int .i64 t.kind, .string t.name, .string t.other, .int .i64 t.n, .int .i64 t.type.kind, .slice l.ta l.tn l.tc, .int .i64 t.res.kind, .slice l.ra l.rn l.rc, .slice l.aa l.an l.ac] ∧ Blk wr (w.heap.size + 1) 29 #[.int .i64 u.kind, .string u.name, .string u.other, .int .i64 u.n, .int .i64 u.type.kind, .slice l'.ta l'.tn l'.tc, .int .i64 u.res.kind, .slice l'.ra l'.rn l'.rc, .slice l'.aa l'.an l'.ac] ∧ Below w.heap.size w wr) (fun i _ => l.an - (intOf i).toNat)
                case atStart => exact ⟨0, by omega, rfl, fun i _ _ hi => by omega, A2, B2, k2⟩
                case round =>
                  obtain ⟨j, hj, rfl, HR, hB, hB', hb⟩ := hrel
                  have hsz := hb.size
                  obtain ⟨u0, u1, u2, u3, u4, u5, u6, u7, hcell8⟩ := hB.nine
                  obtain ⟨v0, v1, v2, v3, v4, v5, v6, v7, hcell8'⟩ := hB'.nine
                  by_cases hjn : j < l.an
                  · have hjx : j < t.args.length := by rw [← hr.1]; exact hjn
                    have hjy : j < u.args.length := by rw [← hr'.1, ← hnn.out]; exact hjn
                    have hjn' : j < l'.an := by rw [← hnn.out]; exact hjn
                    obtain ⟨b, off, lx, ha, hlt, hc, hd⟩ := (hr.below hb).get j hjx
                    obtain ⟨b', off', ly, ha', hlt', hc', hd'⟩ := (hr'.below hb).get j hjy
                    obtain ⟨e0, e1, e2, e3, e4, e5, e6, e7, e8⟩ := hc.nine
                    obtain ⟨f0, f1, f2, f3, f4, f5, f6, f7, f8⟩ := hc'.nine
                    clear hc hc'
                    rw [ha] at hcell8 ⊢
                    rw [ha'] at hcell8' ⊢
                    go_wp2_with fail
                    go_still_tail 10, (by kernel_rfl)
                    change wpList _ _ _ _ _ wr.drew
                    go_wp2_with (go_at_call 15; refine (IH.out _ (List.getElem_mem hjx) u.args[j] _ _ _ (hd.below (below_drew _)) (hd'.below (below_drew _))).mono ?_; rintro e w' ⟨rfl, hb'⟩)
                    · have hno : t.args[j].beq u.args[j] = false := by simpa using ‹(!t.args[j].beq u.args[j]) = true›
                      go_ret
                      exact ⟨ret_bool (Tm.beqs_no hjx hjy hno).symm, hb.trans (by repeat (first | exact Below.refl _ _ | refine Below.drew ?_ | refine below_drewN ?_ _ | refine Below.alloc ?_ (by first | omega | (simp; done) | (simp; omega)) _ | refine Below.setCell ?_ (by first | omega | (simp; done) | (simp; omega)) _ | refine Below.trans ?_ (Below.mono hb' (by first | omega | (simp; done) | (simp; omega)))))⟩
                    · have hyes : t.args[j].beq u.args[j] = true := by simpa using ‹(!t.args[j].beq u.args[j]) = false›
                      go_roundw
                      case rel =>
                        refine ⟨j + 1, by omega, by go_num, fun i hi hi' hij => ?_, (by have hB2 := hB.under (below_next (below_drew wr) hb'); rw [ha] at hB2; exact hB2), (by have hB2 := hB'.under (below_next (below_drew wr) hb'); rw [ha'] at hB2; exact hB2), hb.trans (by repeat (first | exact Below.refl _ _ | refine Below.drew ?_ | refine below_drewN ?_ _ | refine Below.alloc ?_ (by first | omega | (simp; done) | (simp; omega)) _ | refine Below.setCell ?_ (by first | omega | (simp; done) | (simp; omega)) _ | refine Below.trans ?_ (Below.mono hb' (by first | omega | (simp; done) | (simp; omega)))))⟩
                        by_cases hij' : i < j
                        · exact HR.out i hi hi' hij'
                        · obtain rfl : i = j := by omega
                          exact hyes
                      case measure => simp [intOf]; omega
                  · go_wp2_with fail
                    go_ret
                    have hx1 : l.an = t.args.length := hr.1
                    have hx2 : l'.an = u.args.length := hr'.1
                    refine ⟨ret_bool ?_, hb⟩
                    rw [eq_comm, Tm.beqs_iff]
                    have hx3 := hnn.out
                    exact ⟨by omega, fun i hi hi' => HR.out i hi hi' (by omega)⟩
              · have gl : ((l.an : Int) != (l'.an : Int)) = true := by simp; omega
                go_enter Try.func15, Try.ntmps15
                go_wp2_with (first | (go_at_call 32; (with_reducible refine (C5.out _ below2).mono ?_); rintro e w1 ⟨rfl, b1⟩; have k1 := below_of_alloc (below_of_alloc b1); have A1 : Blk w1 w.heap.size _ _ := ((Blk.new w _ _).alloc _).under b1; have B1 : Blk w1 (w.heap.size + 1) _ _ := (Blk.new2 w _ _ _).under b1; obtain ⟨u0, u1, u2, u3, u4, u5, u6, u7, u8⟩ := A1.nine; obtain ⟨v0, v1, v2, v3, v4, v5, v6, v7, v8⟩ := B1.nine) | (go_at_call 32; (with_reducible refine (C6.out _ k1).mono ?_); rintro e w2 ⟨rfl, b2⟩; have k2 := below_next k1 b2; have A2 := A1.under b2; have B2 := B1.under b2; obtain ⟨u0', u1', u2', u3', u4', u5', u6', u7', u8'⟩ := A2.nine; obtain ⟨v0', v1', v2', v3', v4', v5', v6', v7', v8'⟩ := B2.nine))
                go_ret
                have hx1 : l.an = t.args.length := hr.1
                have hx2 : l'.an = u.args.length := hr'.1
                exact ⟨ret_bool (Tm.beqs_len (by omega)).symm, k2⟩
end Go.Proofs.Ytmdmnchnkfjpjaa
