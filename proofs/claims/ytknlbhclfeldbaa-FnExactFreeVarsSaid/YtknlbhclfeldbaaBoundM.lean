/-
  The walks of l7Bound and bound: the names that a node binds, and in which part; FreeVars of a variable.
-/
import Derived.Test.YtknlbhclfeldbaaOwnI
import Derived.Test.YtknlbhclfeldbaaTmSz
namespace Go.Proofs.Ytknlbhclfeldbaa
open Go.RowKit
set_option linter.unusedVariables false
set_option linter.unusedSimpArgs false

theorem OwnS.new (w : World) (base : Nat) (hb : base ≤ w.heap.size) (xs : List ByteArray) (hl : xs.length ≤ 16) : OwnS base (w.alloc (.cells (xs.map Value.string).toArray 9)) (.slice (some ⟨w.heap.size, 0, none⟩) xs.length xs.length) xs :=
  ⟨by simp, .inr ⟨w.heap.size, xs.length, _, rfl, hb, heap_alloc_new w _, Nat.le_refl _, by unfold maxLen; omega, by simp, by rw [Nat.mul_one]; exact List.take_of_length_le (by simp)⟩⟩
theorem boundN_eq (t : Tm) : boundN t = if (t.kind == 6) && (t.args.length == 1) then ([t.name], 0) else if (t.kind == 8) && (t.args.length == 2) then ([t.name], 1) else if (t.kind == 9) && (t.args.length == 1) then ([t.name, t.other], 0) else ([], -1) := rfl

set_option maxHeartbeats 3200000 in
theorem l7Bound_any (t : Tm) (l : Lt) (w : World) (h : Md w t l) :
    Calls Try.prog 36 #[.agg #[.int .i64 t.kind, .string t.name, .string t.other, .int .i64 t.n, .int .i64 t.type.kind, .slice l.ta l.tn l.tc, .int .i64 t.res.kind, .slice l.ra l.rn l.rc, .slice l.aa l.an l.ac]] w fun e w' => ∃ v, e = .returned (.tuple #[v, .int .i64 (boundN t).2]) ∧ OwnS w.heap.size w' v (boundN t).1 ∧ Below w.heap.size w w' := by
  obtain ⟨-, -, -, hr⟩ := h.shape
  have hn : l.an = t.args.length := hr.1
  have k0 : Below w.heap.size w (w.alloc (.cells #[.int .i64 t.kind, .string t.name, .string t.other, .int .i64 t.n, .int .i64 t.type.kind, .slice l.ta l.tn l.tc, .int .i64 t.res.kind, .slice l.ra l.rn l.rc, .slice l.aa l.an l.ac] 42)) := below_new _ _
  have hE := boundN_eq t
  have e1 : ((l.an : Int) == 1) = (t.args.length == 1) := by rw [hn, Bool.eq_iff_iff]; simp; omega
  have e2 : ((l.an : Int) == 2) = (t.args.length == 2) := by rw [hn, Bool.eq_iff_iff]; simp; omega
  have O0 := fun xs hl => OwnS.new (w.alloc (.cells #[.int .i64 t.kind, .string t.name, .string t.other, .int .i64 t.n, .int .i64 t.type.kind, .slice l.ta l.tn l.tc, .int .i64 t.res.kind, .slice l.ra l.rn l.rc, .slice l.aa l.an l.ac] 42)) w.heap.size (by simp) xs hl
  rw [← e1, ← e2] at hE
  clear hr hn e1 e2 h
  by_cases k6 : t.kind = 6
  · have g6 := beq_iff_eq.2 k6
    have g8 : (t.kind == 8) = false := by rw [k6]; rfl
    have g9 : (t.kind == 9) = false := by rw [k6]; rfl
    clear k6
    cases c : ((l.an : Int) == 1) with
    | true =>
      simp only [g6, c, Bool.and_true, if_true] at hE
      rw [hE]
      replace hE := hide hE
      have O1 := hide (O0 [t.name] (by simp))
      clear O0
      go_enter Try.func36, Try.ntmps36
      go_wp2_with fail
      go_ret2
      first
        | exact ⟨_, rfl, by simpa using O1.out, k0.alloc (by simp) _⟩
        | exact ⟨_, rfl, World.ownsRow_nil _ _ _ _, k0⟩
    | false =>
      simp only [g6, g8, g9, c, Bool.and_false, Bool.false_and, Bool.false_eq_true, if_false] at hE
      rw [hE]
      replace hE := hide hE
      have O1 := hide (O0 [] (by simp))
      clear O0
      go_enter Try.func36, Try.ntmps36
      go_wp2_with fail
      go_ret2
      first
        | exact ⟨_, rfl, by simpa using O1.out, k0.alloc (by simp) _⟩
        | exact ⟨_, rfl, World.ownsRow_nil _ _ _ _, k0⟩
  have g6 := beq_eq_false_iff_ne.2 k6
  by_cases k8 : t.kind = 8
  · have g8 := beq_iff_eq.2 k8
    have g9 : (t.kind == 9) = false := by rw [k8]; rfl
    clear k8 k6
    cases c : ((l.an : Int) == 2) with
    | true =>
      simp only [g6, g8, c, Bool.and_true, Bool.false_and, Bool.false_eq_true, if_false, if_true] at hE
      rw [hE]
      replace hE := hide hE
      have O1 := hide (O0 [t.name] (by simp))
      clear O0
      go_enter Try.func36, Try.ntmps36
      go_wp2_with fail
      go_ret2
      first
        | exact ⟨_, rfl, by simpa using O1.out, k0.alloc (by simp) _⟩
        | exact ⟨_, rfl, World.ownsRow_nil _ _ _ _, k0⟩
    | false =>
      simp only [g6, g8, g9, c, Bool.and_false, Bool.false_and, Bool.false_eq_true, if_false] at hE
      rw [hE]
      replace hE := hide hE
      have O1 := hide (O0 [] (by simp))
      clear O0
      go_enter Try.func36, Try.ntmps36
      go_wp2_with fail
      go_ret2
      first
        | exact ⟨_, rfl, by simpa using O1.out, k0.alloc (by simp) _⟩
        | exact ⟨_, rfl, World.ownsRow_nil _ _ _ _, k0⟩
  have g8 := beq_eq_false_iff_ne.2 k8
  by_cases k9 : t.kind = 9
  · have g9 := beq_iff_eq.2 k9
    clear k9 k8 k6
    cases c : ((l.an : Int) == 1) with
    | true =>
      simp only [g6, g8, g9, c, Bool.and_true, Bool.false_and, Bool.false_eq_true, if_false, if_true] at hE
      rw [hE]
      replace hE := hide hE
      have O1 := hide (O0 [t.name, t.other] (by simp))
      clear O0
      go_enter Try.func36, Try.ntmps36
      go_wp2_with fail
      go_ret2
      first
        | exact ⟨_, rfl, by simpa using O1.out, k0.alloc (by simp) _⟩
        | exact ⟨_, rfl, World.ownsRow_nil _ _ _ _, k0⟩
    | false =>
      simp only [g6, g8, g9, c, Bool.and_false, Bool.false_and, Bool.false_eq_true, if_false] at hE
      rw [hE]
      replace hE := hide hE
      have O1 := hide (O0 [] (by simp))
      clear O0
      go_enter Try.func36, Try.ntmps36
      go_wp2_with fail
      go_ret2
      first
        | exact ⟨_, rfl, by simpa using O1.out, k0.alloc (by simp) _⟩
        | exact ⟨_, rfl, World.ownsRow_nil _ _ _ _, k0⟩
  have g9 := beq_eq_false_iff_ne.2 k9
  clear k9 k8 k6
  simp only [g6, g8, g9, Bool.false_and, Bool.false_eq_true, if_false] at hE
  rw [hE]
  replace hE := hide hE
  have O1 := hide (O0 [] (by simp))
  clear O0
  go_enter Try.func36, Try.ntmps36
  go_wp2_with fail
  go_ret2
  first
    | exact ⟨_, rfl, by simpa using O1.out, k0.alloc (by simp) _⟩
    | exact ⟨_, rfl, World.ownsRow_nil _ _ _ _, k0⟩
set_option maxHeartbeats 3200000 in
theorem bound_any (t : Tm) (l : Lt) (w : World) (h : Md w t l) :
    Calls Try.prog 39 #[.agg #[.int .i64 t.kind, .string t.name, .string t.other, .int .i64 t.n, .int .i64 t.type.kind, .slice l.ta l.tn l.tc, .int .i64 t.res.kind, .slice l.ra l.rn l.rc, .slice l.aa l.an l.ac]] w fun e w' => ∃ v, e = .returned (.tuple #[v, .int .i64 (boundN t).2]) ∧ OwnS w.heap.size w' v (boundN t).1 ∧ Below w.heap.size w w' := by
  obtain ⟨-, -, -, hr⟩ := h.shape
  have hn : l.an = t.args.length := hr.1
  have k0 : Below w.heap.size w (w.alloc (.cells #[.int .i64 t.kind, .string t.name, .string t.other, .int .i64 t.n, .int .i64 t.type.kind, .slice l.ta l.tn l.tc, .int .i64 t.res.kind, .slice l.ra l.rn l.rc, .slice l.aa l.an l.ac] 42)) := below_new _ _
  have hE := boundN_eq t
  have e1 : ((l.an : Int) == 1) = (t.args.length == 1) := by rw [hn, Bool.eq_iff_iff]; simp; omega
  have e2 : ((l.an : Int) == 2) = (t.args.length == 2) := by rw [hn, Bool.eq_iff_iff]; simp; omega
  have O0 := fun xs hl => OwnS.new (w.alloc (.cells #[.int .i64 t.kind, .string t.name, .string t.other, .int .i64 t.n, .int .i64 t.type.kind, .slice l.ta l.tn l.tc, .int .i64 t.res.kind, .slice l.ra l.rn l.rc, .slice l.aa l.an l.ac] 42)) w.heap.size (by simp) xs hl
  rw [← e1, ← e2] at hE
  clear hr hn e1 e2 h
  by_cases k6 : t.kind = 6
  · have g6 := beq_iff_eq.2 k6
    have g8 : (t.kind == 8) = false := by rw [k6]; rfl
    have g9 : (t.kind == 9) = false := by rw [k6]; rfl
    clear k6
    cases c : ((l.an : Int) == 1) with
    | true =>
      simp only [g6, c, Bool.and_true, if_true] at hE
      rw [hE]
      replace hE := hide hE
      have O1 := hide (O0 [t.name] (by simp))
      clear O0
      go_enter Try.func39, Try.ntmps39
      go_wp2_with fail
      go_ret2
      first
        | exact ⟨_, rfl, by simpa using O1.out, k0.alloc (by simp) _⟩
        | exact ⟨_, rfl, World.ownsRow_nil _ _ _ _, k0⟩
    | false =>
      simp only [g6, g8, g9, c, Bool.and_false, Bool.false_and, Bool.false_eq_true, if_false] at hE
      rw [hE]
      replace hE := hide hE
      have O1 := hide (O0 [] (by simp))
      clear O0
      go_enter Try.func39, Try.ntmps39
      go_wp2_with fail
      go_ret2
      first
        | exact ⟨_, rfl, by simpa using O1.out, k0.alloc (by simp) _⟩
        | exact ⟨_, rfl, World.ownsRow_nil _ _ _ _, k0⟩
  have g6 := beq_eq_false_iff_ne.2 k6
  by_cases k8 : t.kind = 8
  · have g8 := beq_iff_eq.2 k8
    have g9 : (t.kind == 9) = false := by rw [k8]; rfl
    clear k8 k6
    cases c : ((l.an : Int) == 2) with
    | true =>
      simp only [g6, g8, c, Bool.and_true, Bool.false_and, Bool.false_eq_true, if_false, if_true] at hE
      rw [hE]
      replace hE := hide hE
      have O1 := hide (O0 [t.name] (by simp))
      clear O0
      go_enter Try.func39, Try.ntmps39
      go_wp2_with fail
      go_ret2
      first
        | exact ⟨_, rfl, by simpa using O1.out, k0.alloc (by simp) _⟩
        | exact ⟨_, rfl, World.ownsRow_nil _ _ _ _, k0⟩
    | false =>
      simp only [g6, g8, g9, c, Bool.and_false, Bool.false_and, Bool.false_eq_true, if_false] at hE
      rw [hE]
      replace hE := hide hE
      have O1 := hide (O0 [] (by simp))
      clear O0
      go_enter Try.func39, Try.ntmps39
      go_wp2_with fail
      go_ret2
      first
        | exact ⟨_, rfl, by simpa using O1.out, k0.alloc (by simp) _⟩
        | exact ⟨_, rfl, World.ownsRow_nil _ _ _ _, k0⟩
  have g8 := beq_eq_false_iff_ne.2 k8
  by_cases k9 : t.kind = 9
  · have g9 := beq_iff_eq.2 k9
    clear k9 k8 k6
    cases c : ((l.an : Int) == 1) with
    | true =>
      simp only [g6, g8, g9, c, Bool.and_true, Bool.false_and, Bool.false_eq_true, if_false, if_true] at hE
      rw [hE]
      replace hE := hide hE
      have O1 := hide (O0 [t.name, t.other] (by simp))
      clear O0
      go_enter Try.func39, Try.ntmps39
      go_wp2_with fail
      go_ret2
      first
        | exact ⟨_, rfl, by simpa using O1.out, k0.alloc (by simp) _⟩
        | exact ⟨_, rfl, World.ownsRow_nil _ _ _ _, k0⟩
    | false =>
      simp only [g6, g8, g9, c, Bool.and_false, Bool.false_and, Bool.false_eq_true, if_false] at hE
      rw [hE]
      replace hE := hide hE
      have O1 := hide (O0 [] (by simp))
      clear O0
      go_enter Try.func39, Try.ntmps39
      go_wp2_with fail
      go_ret2
      first
        | exact ⟨_, rfl, by simpa using O1.out, k0.alloc (by simp) _⟩
        | exact ⟨_, rfl, World.ownsRow_nil _ _ _ _, k0⟩
  have g9 := beq_eq_false_iff_ne.2 k9
  clear k9 k8 k6
  simp only [g6, g8, g9, Bool.false_and, Bool.false_eq_true, if_false] at hE
  rw [hE]
  replace hE := hide hE
  have O1 := hide (O0 [] (by simp))
  clear O0
  go_enter Try.func39, Try.ntmps39
  go_wp2_with fail
  go_ret2
  first
    | exact ⟨_, rfl, by simpa using O1.out, k0.alloc (by simp) _⟩
    | exact ⟨_, rfl, World.ownsRow_nil _ _ _ _, k0⟩
end Go.Proofs.Ytknlbhclfeldbaa
