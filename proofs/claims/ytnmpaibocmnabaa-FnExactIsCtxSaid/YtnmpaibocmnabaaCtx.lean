/-
  The walks of IsCtx in both texts.
-/
import Derived.Test.YtnmpaibocmnabaaRecSz
import Derived.Test.YtnmpaibocmnabaaName
import Derived.Test.YtnmpaibocmnabaaValidTy
namespace Go.Proofs.Ytnmpaibocmnabaa
open Go.RowKit
set_option maxRecDepth 100000
set_option linter.unusedVariables false
set_option linter.unusedSimpArgs false

/-- A typing of a context: a name, a valid type, a level. -/
def Rc.okT (r : Rc Int) : Bool := isName r.name && (r.type.valid && inB r.last 0 2)
def isCtx (xs : List (Rc Int)) : Bool := xs.all Rc.okT && decide (xs.length ≤ 12)
theorem Rcs.wt_name {α : Type} (xs : List (Rc α)) (k : Nat) (h : k < xs.length) : xs[k].name.size + Ty.sizes xs[k].type.args ≤ Rcs.wt xs := by
  have h1 := Rcs.sum_take xs k h
  have h2 := Rcs.sum_le xs (k + 1)
  unfold Rcs.wt
  unfold Rc.wt at h1 h2 ⊢
  omega

set_option maxHeartbeats 1600000 in
theorem specIsCtx_any (xs : List (Rc Int)) (a : Option Addr) (n cap : Nat) (w : World) (h : Rcs w xs a n cap) (hw : Rcs.wt xs ≤ 1048576) :
    Calls Try.prog 13 #[.slice a n cap] w fun e w' => e = .returned (.bool (isCtx xs)) ∧ Below w.heap.size w w' := by
  have hn : n ≤ 9223372036854775807 := by obtain ⟨_, h2, h3, _⟩ := h; unfold maxLen at h3; omega
  have hx := hide h.1
  have HW := hide hw
  clear hw
  go_enter Try.func13, Try.ntmps13
  go_wp2_with fail
  go_loopw [3] (fun i wr => ∃ k : Nat, k ≤ n ∧ i = .int .i64 k ∧ Hid (∀ i (h : i < xs.length), i < k → xs[i].okT = true) ∧ Below w.heap.size w wr) (fun i _ => n - (intOf i).toNat)
  case atStart => exact ⟨0, by omega, rfl, fun i _ hi => by omega, Below.refl _ _⟩
  case round =>
    obtain ⟨k, hk, rfl, HR, hb⟩ := hrel
    have hsz := hb.size
    by_cases hkn : k < n
    · have hkx : k < xs.length := by rw [← hx.out]; exact hkn
      have hwk := Rcs.wt_name xs k hkx
      have hwt := HW.out
      obtain ⟨b, off, rfl, hlt, -, -, ta, tn, tc, e0, e1, e2, e3, hr⟩ := (h.below hb).get k hkx
      simp only [Last.val] at e3
      have F1 := fun (w1 : World) (b1 : Below wr.heap.size wr w1) => (b1.cell (p := ⟨b, off + k * 4 + 1, none⟩) hlt).trans e1
      have F2 := fun (w1 : World) (b1 : Below wr.heap.size wr w1) => (b1.cell (p := ⟨b, off + k * 4 + 2, none⟩) hlt).trans e2
      have F3 := fun (w1 : World) (b1 : Below wr.heap.size wr w1) => (b1.cell (p := ⟨b, off + k * 4 + 3, none⟩) hlt).trans e3
      replace F1 := hide F1
      replace F2 := hide F2
      replace F3 := hide F3
      have C1 := fun W => specIsName_any xs[k].name W (by omega)
      have C2 := fun (w1 : World) (b1 : Below wr.heap.size wr w1) => specIsValidType_any xs[k].type _ _ w1 (hr.below b1)
      have bad : xs[k].okT = false → isCtx xs = false := fun hb => by rw [isCtx, all_no hkx hb, Bool.false_and]
      clear hwk hwt
      cases hn1 : isName xs[k].name with
      | false =>
        rw [hn1] at C1
        have hno := bad (by rw [Rc.okT, hn1, Bool.false_and])
        replace hno := hide hno
        replace C1 := hide C1
        clear hn1 bad
        go_wp2_with (go_at_call 37; (with_reducible refine (C1.out _).mono ?_); rintro e w1 ⟨rfl, b1⟩)
        go_ret
        exact ⟨ret_bool hno.out.symm, hb.trans (b1.mono hsz)⟩
      | true =>
        rw [hn1] at C1
        replace C1 := hide C1
        cases hv : xs[k].type.valid with
        | false =>
          rw [hv] at C2
          have hno := bad (by rw [Rc.okT, hn1, hv, Bool.false_and, Bool.and_false])
          replace hno := hide hno
          replace C2 := hide C2
          clear hn1 hv bad
          go_wp2_with (first
            | (go_at_call 37; (with_reducible refine (C1.out _).mono ?_); rintro e w1 ⟨rfl, b1⟩; have f1 := F1.out _ b1; have f2 := F2.out _ b1)
            | (go_at_call 28; (with_reducible refine (C2.out _ b1).mono ?_); rintro e w2 ⟨rfl, b2⟩))
          go_ret
          exact ⟨ret_bool hno.out.symm, hb.trans ((below_next b1 b2).mono hsz)⟩
        | true =>
          rw [hv] at C2
          replace C2 := hide C2
          cases hi : inB xs[k].last 0 2 with
          | false =>
            have hno := bad (by rw [Rc.okT, hn1, hv, hi, Bool.and_false, Bool.and_false])
            replace hno := hide hno
            have HI := hide hi
            clear hn1 hv hi bad
            go_wp2_with (first
              | (go_at_call 37; (with_reducible refine (C1.out _).mono ?_); rintro e w1 ⟨rfl, b1⟩; have f1 := F1.out _ b1; have f2 := F2.out _ b1)
              | (go_at_call 28; (with_reducible refine (C2.out _ b1).mono ?_); rintro e w2 ⟨rfl, b2⟩; have b12 := below_next b1 b2; have f3 := F3.out _ b12)
              | (go_at_call 45; (with_reducible refine (l1In_is HI.out _).mono ?_); rintro e w3 ⟨rfl, rfl⟩))
            go_ret
            exact ⟨ret_bool hno.out.symm, hb.trans (b12.mono hsz)⟩
          | true =>
            have hyes := hide (show xs[k].okT = true by rw [Rc.okT, hn1, hv, hi]; rfl)
            have HI := hide hi
            clear hn1 hv hi bad
            go_wp2_with (first
              | (go_at_call 37; (with_reducible refine (C1.out _).mono ?_); rintro e w1 ⟨rfl, b1⟩; have f1 := F1.out _ b1; have f2 := F2.out _ b1)
              | (go_at_call 28; (with_reducible refine (C2.out _ b1).mono ?_); rintro e w2 ⟨rfl, b2⟩; have b12 := below_next b1 b2; have f3 := F3.out _ b12)
              | (go_at_call 45; (with_reducible refine (l1In_is HI.out _).mono ?_); rintro e w3 ⟨rfl, rfl⟩))
            go_roundw
            case rel =>
              refine ⟨k + 1, by omega, by go_num, fun i hi hik => ?_, hb.trans (b12.mono hsz)⟩
              by_cases hik' : i < k
              · exact HR.out i hi hik'
              · obtain rfl : i = k := by omega
                exact hyes.out
            case measure => simp [intOf]; omega
    · go_wp2
      go_ret
      have hx1 := hx.out
      refine ⟨ret_bool ?_, hb⟩
      rw [isCtx, all_yes fun i hi => HR.out i hi (by omega), Bool.true_and, ← hx1]
      by_cases h12 : n ≤ 12
      · simp [h12]
        omega
      · simp [h12]
        omega
set_option maxHeartbeats 1600000 in
theorem ctxLit_any (r : Rc Int) (ta : Option Addr) (tn tc : Nat) (w : World) (hr : Rd w r.type (.int .i64 r.type.kind) (.slice ta tn tc)) (hz : r.name.size + Ty.sizes r.type.args ≤ 1048576) :
    Calls Try.prog 48 #[.agg #[.string r.name, .int .i64 r.type.kind, .slice ta tn tc, .int .i64 r.last]] w fun e w' => e = .returned (.bool (!r.okT)) ∧ Below w.heap.size w w' := by
  have C1 := fun W => implIsName_any r.name W (by omega)
  have C2 := fun (w1 : World) (b1 : Below (w.alloc (.cells #[.string r.name, .int .i64 r.type.kind, .slice ta tn tc, .int .i64 r.last] 68)).heap.size (w.alloc (.cells #[.string r.name, .int .i64 r.type.kind, .slice ta tn tc, .int .i64 r.last] 68)) w1) => implIsValidType_any r.type _ _ w1 (hr.below (below_of_alloc b1)) (by omega)
  have B0 := hide (Blk.new w 68 #[.string r.name, .int .i64 r.type.kind, .slice ta tn tc, .int .i64 r.last])
  cases hn1 : isName r.name with
  | false =>
    rw [hn1] at C1
    have hno := hide (show (!r.okT) = true by rw [Rc.okT, hn1]; rfl)
    replace C1 := hide C1
    clear hn1
    go_enter Try.func48, Try.ntmps48
    go_wp2_with (go_at_call 41; (with_reducible refine (C1.out _).mono ?_); rintro e w1 ⟨rfl, b1⟩)
    go_ret
    exact ⟨ret_bool hno.out.symm, below_of_alloc b1⟩
  | true =>
    rw [hn1] at C1
    replace C1 := hide C1
    cases hv : r.type.valid with
    | false =>
      rw [hv] at C2
      have hno := hide (show (!r.okT) = true by rw [Rc.okT, hn1, hv]; rfl)
      replace C2 := hide C2
      clear hn1 hv
      go_enter Try.func48, Try.ntmps48
      go_wp2_with (first
        | (go_at_call 41; (with_reducible refine (C1.out _).mono ?_); rintro e w1 ⟨rfl, b1⟩; have f1 := (B0.out.under b1).cell 1; have f2 := (B0.out.under b1).cell 2; simp at f1 f2)
        | (go_at_call 27; (with_reducible refine (C2.out _ b1).mono ?_); rintro e w2 ⟨rfl, b2⟩))
      go_ret
      exact ⟨ret_bool hno.out.symm, below_next (below_of_alloc b1) b2⟩
    | true =>
      rw [hv] at C2
      replace C2 := hide C2
      have hin : ∃ b, inB r.last 0 2 = b := ⟨_, rfl⟩
      obtain ⟨q, hi⟩ := hin
      have hno := hide (show (!r.okT) = !q by rw [Rc.okT, hn1, hv, hi]; rfl)
      have HI := hide hi
      clear hn1 hv hi
      go_enter Try.func48, Try.ntmps48
      go_wp2_with (first
        | (go_at_call 41; (with_reducible refine (C1.out _).mono ?_); rintro e w1 ⟨rfl, b1⟩; have f1 := (B0.out.under b1).cell 1; have f2 := (B0.out.under b1).cell 2; simp at f1 f2)
        | (go_at_call 27; (with_reducible refine (C2.out _ b1).mono ?_); rintro e w2 ⟨rfl, b2⟩; have f3 := ((B0.out.under b1).under b2).cell 3; simp at f3)
        | (go_at_call 49; (with_reducible refine (within_is HI.out _).mono ?_); rintro e w3 ⟨rfl, rfl⟩))
      go_ret
      exact ⟨ret_bool hno.out.symm, below_next (below_of_alloc b1) b2⟩
set_option maxHeartbeats 1600000 in
theorem indexFuncT_any (xs : List (Rc Int)) (a : Option Addr) (n cap : Nat) (w : World) (h : Rcs w xs a n cap) (hw : Rcs.wt xs ≤ 1048576) :
    Calls Try.prog 71 #[.slice a n cap, .func (.func 48) #[] #[]] w
      fun e w' => e = .returned (.int .i64 (fIdx (fun r => !r.okT) xs)) ∧ Below w.heap.size w w' := by
  have hn : n ≤ 9223372036854775807 := by obtain ⟨_, h2, h3, _⟩ := h; unfold maxLen at h3; omega
  have hx := hide h.1
  have HW := hide (fun k hk => Nat.le_trans (Rcs.wt_name xs k hk) hw)
  clear hw
  go_enter Try.func71, Try.ntmps71
  go_wp2_with fail
  go_loopw [8] (fun i wr => ∃ j : Nat, j ≤ n ∧ i = .int .i64 j ∧ Hid (∀ i (h : i < xs.length), i < j → (!xs[i].okT) = false) ∧ Below w.heap.size w wr) (fun i _ => n - (intOf i).toNat)
  case atStart => exact ⟨0, by omega, rfl, fun i _ hi => by omega, Below.refl _ _⟩
  case round =>
    obtain ⟨j, hj, rfl, HR, hb⟩ := hrel
    have hsz := hb.size
    by_cases hjn : j < n
    · have hjx : j < xs.length := by rw [← hx.out]; exact hjn
      obtain ⟨b, off, rfl, hlt, -, -, ta, tn, tc, e0, e1, e2, e3, hr⟩ := (h.below hb).get j hjx
      simp only [Last.val] at e3
      have C := ctxLit_any xs[j] ta tn tc wr hr (HW.out j hjx)
      obtain ⟨q, hq⟩ : ∃ q, (!xs[j].okT) = q := ⟨_, rfl⟩
      rw [hq] at C
      have HQ := hide hq
      replace C := hide C
      clear hq
      go_wp2_with (go_at_call 48; (with_reducible refine C.out.mono ?_); rintro e w1 ⟨rfl, b1⟩)
      · have hyes : q = true := ‹q = true›
        go_ret
        exact ⟨ret_int (fIdx_at hjx (by rw [HQ.out]; exact hyes) HR.out).symm, hb.trans (b1.mono hsz)⟩
      · have hno : q = false := ‹q = false›
        go_roundw
        case rel =>
          refine ⟨j + 1, by omega, by go_num, fun i hi hij => ?_, hb.trans (b1.mono hsz)⟩
          by_cases hij' : i < j
          · exact HR.out i hi hij'
          · obtain rfl : i = j := by omega
            rw [HQ.out]
            exact hno
        case measure => simp [intOf]; omega
    · go_wp2
      go_ret
      have hx1 := hx.out
      exact ⟨ret_int (fIdx_none fun i hi => HR.out i hi (by omega)).symm, hb⟩
theorem containsFuncT_any (xs : List (Rc Int)) (a : Option Addr) (n cap : Nat) (w : World) (h : Rcs w xs a n cap) (hw : Rcs.wt xs ≤ 1048576) :
    Calls Try.prog 47 #[.slice a n cap, .func (.func 48) #[] #[]] w
      fun e w' => e = .returned (.bool (xs.any fun r => !r.okT)) ∧ Below w.heap.size w w' := by
  have C := hide (indexFuncT_any xs a n cap w h hw)
  have hge := hide (fIdx_ge (fun r : Rc Int => !r.okT) xs)
  clear h hw
  go_enter Try.func47, Try.ntmps47
  go_wp2_with (go_at_call 71; (with_reducible refine C.out.mono ?_); rintro e w' ⟨rfl, hb'⟩)
  go_ret
  exact ⟨ret_bool hge.out, hb'⟩
set_option maxHeartbeats 800000 in
theorem implIsCtx_any (xs : List (Rc Int)) (a : Option Addr) (n cap : Nat) (w : World) (h : Rcs w xs a n cap) (hw : Rcs.wt xs ≤ 1048576) :
    Calls Try.prog 15 #[.slice a n cap] w fun e w' => e = .returned (.bool (isCtx xs)) ∧ Below w.heap.size w w' := by
  have hn : n ≤ 9223372036854775807 := by obtain ⟨_, h2, h3, _⟩ := h; unfold maxLen at h3; omega
  have C := hide (containsFuncT_any xs a n cap w h hw)
  have hx : n = xs.length := h.1
  have hv : isCtx xs = (decide (n ≤ 12) && !xs.any fun r => !r.okT) := by rw [isCtx, all_not_any, Bool.and_comm, hx]
  by_cases h12 : n ≤ 12
  · have hd : decide ((n : Int) ≤ 12) = true := by simp; omega
    have hv' := hide (show isCtx xs = !xs.any fun r => !r.okT by rw [hv]; simp [h12])
    clear hv hx h hw h12
    go_enter Try.func15, Try.ntmps15
    go_wp2_with (go_at_call 47; (with_reducible refine C.out.mono ?_); rintro e w1 ⟨rfl, b1⟩)
    go_ret
    exact ⟨ret_bool hv'.out.symm, b1⟩
  · have hd : decide ((n : Int) ≤ 12) = false := by simp; omega
    have hv' := hide (show isCtx xs = false by rw [hv]; simp [h12])
    clear hv hx h hw h12
    go_enter Try.func15, Try.ntmps15
    go_wp2_with fail
    go_ret
    exact ⟨ret_bool hv'.out.symm, Below.refl _ _⟩
end Go.Proofs.Ytnmpaibocmnabaa
