/-
  The walks of toTyping, toTypingS, toParam, toParamS: a copy of the records in new memory.
-/
import Derived.Test.YtnmpaibocmnabaaRecF
import Derived.Test.YtnmpaibocmnabaaLaid
namespace Go.Proofs.Ytnmpaibocmnabaa
open Go.RowKit
set_option maxRecDepth 100000
set_option linter.unusedVariables false
set_option linter.unusedSimpArgs false

theorem four_cells {g M k n T : Nat} {w : World} {cs : Array Value} {v0 v1 v2 v3 : Value} (hB : Blk w g T cs) (hk : k * 4 + 3 < cs.size) :
    ∃ cs', cs'.size = cs.size ∧ Blk ((((w.setCell ⟨g, k * 4, none⟩ v0).setCell ⟨g, k * 4 + 1, none⟩ v1).setCell ⟨g, k * 4 + 2, none⟩ v2).setCell ⟨g, k * 4 + 3, none⟩ v3) g T cs' ∧
      (∀ o, o < k * 4 → cs'[o]? = cs[o]?) ∧ cs'[k * 4]? = some v0 ∧ cs'[k * 4 + 1]? = some v1 ∧ cs'[k * 4 + 2]? = some v2 ∧ cs'[k * 4 + 3]? = some v3 := by
  refine ⟨_, ?_, (((hB.set_ (k * 4) v0).set_ (k * 4 + 1) v1).set_ (k * 4 + 2) v2).set_ (k * 4 + 3) v3, ?_, ?_, ?_, ?_, ?_⟩
  · simp
  · intro o ho
    simp only [Array.getElem?_setIfInBounds]
    rw [if_neg (by omega), if_neg (by omega), if_neg (by omega), if_neg (by omega)]
  all_goals
    simp only [Array.getElem?_setIfInBounds, Array.size_setIfInBounds]
  · rw [if_neg (by omega), if_neg (by omega), if_neg (by omega), if_pos trivial, if_pos (by omega)]
  · rw [if_neg (by omega), if_neg (by omega), if_pos trivial, if_pos (by omega)]
  · rw [if_neg (by omega), if_pos trivial, if_pos (by omega)]
  · rw [if_pos trivial, if_pos (by omega)]
theorem four_far {g b k : Nat} {w : World} {v0 v1 v2 v3 : Value} (hb : b ≠ g) :
    ((((w.setCell ⟨g, k * 4, none⟩ v0).setCell ⟨g, k * 4 + 1, none⟩ v1).setCell ⟨g, k * 4 + 2, none⟩ v2).setCell ⟨g, k * 4 + 3, none⟩ v3).heap[b]? = w.heap[b]? :=
  (Below.heap_setCell _ ⟨g, k * 4 + 3, none⟩ v3 b hb).trans ((Below.heap_setCell _ ⟨g, k * 4 + 2, none⟩ v2 b hb).trans ((Below.heap_setCell _ ⟨g, k * 4 + 1, none⟩ v1 b hb).trans (Below.heap_setCell _ ⟨g, k * 4, none⟩ v0 b hb)))

def CopiedTyping (w : World) (r : Rc Int) (e : Ending) (w' : World) : Prop :=
  ∃ ta tn tc fp, e = .returned (.agg #[.string r.name, .int .i64 r.type.kind, .slice ta tn tc, .int .i64 r.last]) ∧ RTa w' r.type.args ta tn tc fp ∧ fp.Nodup ∧ Own w.heap.size w' fp ∧ (∀ b ∈ fp, b < w'.heap.size) ∧ Below w.heap.size w w'
set_option maxHeartbeats 800000 in
theorem toTyping_any (r : Rc Int) (ta : Option Addr) (tn tc : Nat) (w : World) (h : Rd w r.type (.int .i64 r.type.kind) (.slice ta tn tc)) (hl : Ty.sizes r.type.args ≤ 1048576) :
    Calls Try.prog 46 #[.agg #[.string r.name, .int .i64 r.type.kind, .slice ta tn tc, .int .i64 r.last]] w (CopiedTyping w r) := by
  go_enter Try.func46, Try.ntmps46
  go_wp2_with fail
  refine (toType_any r.type _ _ _ (h.below (by repeat (first | exact Below.refl _ _ | assumption | refine Below.drew ?_ | refine below_drewN ?_ _ | refine Below.alloc ?_ (by first | omega | (simp; done) | (simp; omega)) _ | refine Below.setCell ?_ (by first | omega | (simp; done) | (simp; omega)) _))) hl).mono ?_
  rintro e w1 ⟨d0, d1, f, rfl, hR, hnd, hO, b1⟩
  obtain ⟨xa, xn, xc, rfl, rfl, -, -⟩ := hR.rd.shape
  have B0 := (((Blk.new w 66 #[.string r.name, .int .i64 r.type.kind, .slice ta tn tc, .int .i64 r.last]).alloc (.cells #[.string ⟨#[]⟩, .int .i64 0, .slice none 0 0, .int .i64 0] 68)).alloc (.cells #[.string r.name, .int .i64 0, .slice none 0 0, .int .i64 0] 68)).under b1
  have B1 := ((Blk.new2 w (.cells #[.string r.name, .int .i64 r.type.kind, .slice ta tn tc, .int .i64 r.last] 66) 68 #[.string ⟨#[]⟩, .int .i64 0, .slice none 0 0, .int .i64 0]).alloc (.cells #[.string r.name, .int .i64 0, .slice none 0 0, .int .i64 0] 68)).under b1
  have B2 := (Blk.new3 w (.cells #[.string r.name, .int .i64 r.type.kind, .slice ta tn tc, .int .i64 r.last] 66) (.cells #[.string ⟨#[]⟩, .int .i64 0, .slice none 0 0, .int .i64 0] 68) 68 #[.string r.name, .int .i64 0, .slice none 0 0, .int .i64 0]).under b1
  have u3 := B0.cell 3
  have c0 := B1.cell 0
  have c1 := B1.cell 1
  have c2 := B1.cell 2
  have c3 := B1.cell 3
  have z0 := B1.free 0
  have z1 := B1.free 1
  have z2 := B1.free 2
  have z3 := B1.free 3
  have d0 := B2.cell 0
  have d1 := B2.cell 1
  have d2 := B2.cell 2
  have d3 := B2.cell 3
  have y1 := B2.free 1
  have y2 := B2.free 2
  have y3 := B2.free 3
  simp at u3 c0 c1 c2 c3 d0 d1 d2 d3
  go_wp2_with fail
  have hge : ∀ b ∈ f, w.heap.size + 1 + 1 + 1 ≤ b := fun b hb => by have := hO.1 b hb; simp at this; omega
  have hlt := RT.lt _ _ _ _ hR
  generalize hW : World.setCell _ ⟨w.heap.size + 1, 3, none⟩ _ = W
  have far : ∀ b ∈ f, W.heap[b]? = w1.heap[b]? := fun b hb => by
    have hn : b ≠ w.heap.size + 1 := by have := hge b hb; omega
    have hm : b ≠ w.heap.size + 1 + 1 := by have := hge b hb; omega
    rw [← hW]
    simp only [Below.heap_setCell _ ⟨w.heap.size + 1, 0, none⟩ _ b hn, Below.heap_setCell _ ⟨w.heap.size + 1, 1, none⟩ _ b hn, Below.heap_setCell _ ⟨w.heap.size + 1, 2, none⟩ _ b hn, Below.heap_setCell _ ⟨w.heap.size + 1, 3, none⟩ _ b hn,
      Below.heap_setCell _ ⟨w.heap.size + 1 + 1, 1, none⟩ _ b hm, Below.heap_setCell _ ⟨w.heap.size + 1 + 1, 2, none⟩ _ b hm, Below.heap_setCell _ ⟨w.heap.size + 1 + 1, 3, none⟩ _ b hm]
  have hsz : W.heap.size = w1.heap.size := by rw [← hW]; simp [World.setCell]
  have k1 : Below w.heap.size w w1 := below_of_alloc (below_of_alloc (below_of_alloc b1))
  have hbe : Below w.heap.size w W := by
    rw [← hW]
    exact (((((((k1.setCell (p := ⟨w.heap.size + 1 + 1, 1, none⟩) (by simp <;> omega) _).setCell (p := ⟨w.heap.size + 1 + 1, 2, none⟩) (by simp <;> omega) _).setCell (p := ⟨w.heap.size + 1 + 1, 3, none⟩) (by simp <;> omega) _).setCell (p := ⟨w.heap.size + 1, 0, none⟩) (by simp <;> omega) _).setCell (p := ⟨w.heap.size + 1, 1, none⟩) (by simp <;> omega) _).setCell (p := ⟨w.heap.size + 1, 2, none⟩) (by simp <;> omega) _).setCell (p := ⟨w.heap.size + 1, 3, none⟩) (by simp <;> omega) _)
  have hv : W.cell? ⟨w.heap.size + 1, 0, none⟩ = some (.string r.name) ∧ W.cell? ⟨w.heap.size + 1, 1, none⟩ = some (.int .i64 r.type.kind) ∧ W.cell? ⟨w.heap.size + 1, 2, none⟩ = some (.slice xa xn xc) ∧ W.cell? ⟨w.heap.size + 1, 3, none⟩ = some (.int .i64 r.last) := by
    rw [← hW]
    simp [go_sem, c0, c1, c2, c3]
  obtain ⟨v0, v1, v2, v3⟩ := hv
  refine bodyPost_ret (v := .agg #[.string r.name, .int .i64 r.type.kind, .slice xa xn xc, .int .i64 r.last]) (by simp [results, Try.results46, go_sem, v0, v1, v2, v3]) rfl ⟨xa, xn, xc, f, rfl, hR.rta'.keep fun b hb => SameB.of_heap (far b hb), hnd, ⟨fun b hb => by have := hge b hb; omega, free_heap hO.2 far⟩, fun b hb => by have := hlt b hb; rw [hsz]; exact this, hbe⟩

theorem Try.infoTyping : (Try.prog.info? 68).map (fun i => (i.zero, i.size)) = some (some (.agg #[.string ⟨#[]⟩, .int .i64 0, .slice none 0 0, .int .i64 0]), 4) := by kernel_rfl
theorem Try.bytesTyping : (Try.prog.info? 68).map (fun i => decide (i.bytes ≤ 56)) = some true := by kernel_rfl

/-- What toTypingS gives. -/
def CopiedTypingS (w : World) (xs : List (Rc Int)) (e : Ending) (w' : World) : Prop :=
  ∃ g F, e = .returned (.slice (some ⟨g, 0, none⟩) xs.length xs.length) ∧ OwnR 68 w.heap.size w' xs g F ∧ Below w.heap.size w w'
set_option maxHeartbeats 800000 in
theorem toTypingS_any (xs : List (Rc Int)) (a : Option Addr) (n cap : Nat) (w : World) (h : Rcs w xs a n cap) (hl : Rcs.wt xs ≤ 1048576) :
    Calls Try.prog 14 #[.slice a n cap] w (CopiedTypingS w xs) := by
  have hx := hide h.1
  have hn : n ≤ 1048576 := by
    have := h.1
    unfold Rcs.wt at hl
    omega
  have hz : ∀ k (hk : k < xs.length), Ty.sizes xs[k].type.args ≤ 1048576 := fun k hk => by
    have h1 := Rcs.sum_take xs k hk
    have h2 := Rcs.sum_le xs (k + 1)
    unfold Rcs.wt at hl
    unfold Rc.wt at h1 h2 hl
    omega
  replace hz := hide hz
  clear hl
  obtain ⟨i0, hi, hib⟩ : ∃ i0, Try.prog.info? 68 = some i0 ∧ i0.bytes ≤ 56 := by
    have h1 := Try.bytesTyping
    cases e : Try.prog.info? 68 with
    | none => rw [e] at h1; cases h1
    | some i => rw [e] at h1; exact ⟨i, rfl, by simpa using h1⟩
  have hz0 : i0.zero = some (.agg #[.string ⟨#[]⟩, .int .i64 0, .slice none 0 0, .int .i64 0]) ∧ i0.size = 4 := by
    have h1 := Try.infoTyping
    rw [hi] at h1
    simpa using h1
  have hmk := fun W => run_make_rowN (P := Try.prog) 32 68 i0 _ Try.underlying32 hi hz0.1 .i64 .i64 n n (Nat.le_refl _) (by have : i0.bytes * n ≤ 56 * n := Nat.mul_le_mul_right _ hib; omega) (by omega) W
  rw [hz0.2] at hmk
  clear hi hz0 hib
  go_enter Try.func14, Try.ntmps14
  go_wp2_with fail
  clear hmk
  go_loopw [4] (fun i wr => ∃ k : Nat, k ≤ n ∧ i = .int .i64 k ∧ (∃ (cs : Array Value) (F : Nat → List Nat), Blk wr w.heap.size 68 cs ∧ cs.size = n * 4 ∧ RecsF (fun o => wr.cell? ⟨w.heap.size, o, none⟩) wr xs k (w.heap.size + 1) F) ∧ Below w.heap.size w wr) (fun i _ => n - (intOf i).toNat)
  case atStart =>
    refine ⟨0, by omega, rfl, ⟨_, fun _ => [], Blk.new w _ _, by simp [madeCells], RecsF.nil _ _ _ _ _⟩, (Below.refl _ _).alloc (Nat.le_refl _) _⟩
  case round =>
    obtain ⟨k, hk, rfl, ⟨cs, F, hM, hcs, hR⟩, hb⟩ := hrel
    by_cases hkn : k < n
    · have hkx : k < xs.length := by rw [← hx.out]; exact hkn
      obtain ⟨b, off, rfl, hlt', hsz, -, ta, tn, tc, e0, e1, e2, e3, hr⟩ := (h.below hb).get k hkx
      have C := hide (toTyping_any xs[k] ta tn tc wr hr (hz.out k hkx))
      simp only [Last.val] at e3
      have HR := hide hR
      clear hR
      go_wp2_with (go_at_call 46; refine C.out.mono ?_; rintro e w' ⟨xa, xn, xc, f, rfl, hA, hnd, hO, hfl, hb'⟩; have hM' := hM.under hb'; have g0 := hM'.at_ (i := k * 4) (by omega); have g1 := hM'.at_ (i := k * 4 + 1) (by omega); have g2 := hM'.at_ (i := k * 4 + 2) (by omega); have g3 := hM'.at_ (i := k * 4 + 3) (by omega); have z0 := hM'.free (k * 4); have z1 := hM'.free (k * 4 + 1); have z2 := hM'.free (k * 4 + 2); have z3 := hM'.free (k * 4 + 3))
      go_roundw
      case rel =>
        obtain ⟨cs', hs', hB', hlo, q0, q1, q2, q3⟩ := four_cells (M := 0) (n := 0) (k := k) (v0 := .string xs[k].name) (v1 := .int .i64 xs[k].type.kind) (v2 := .slice xa xn xc) (v3 := .int .i64 xs[k].last) hM' (by omega)
        have hlM := hM.lt
        have s1 := hb'.size
        have far : ∀ b, b ≠ w.heap.size → _ := fun b hb => four_far (g := w.heap.size) (k := k) (w := w') (v0 := .string xs[k].name) (v1 := .int .i64 xs[k].type.kind) (v2 := .slice xa xn xc) (v3 := .int .i64 xs[k].last) (b := b) hb
        have hfb : ∀ b ∈ f, b ≠ w.heap.size := fun b hb => by have := hO.1 b hb; omega
        refine ⟨k + 1, by omega, by go_num, ⟨cs', _, hB', by omega, HR.out.step (f := f) (ta := xa) (tn := xn) (tc := xc) hkx ?_ ?_ ?_ ?_ ?_ ?_ hnd ?_ ?_ ?_ ?_ ?_⟩, ?_⟩
        · intro o ho
          rw [hB'.cell, hM.cell, hlo o ho]
        · rw [hB'.cell, q0]
        · rw [hB'.cell, q1]
        · rw [hB'.cell, q2]
        · rw [hB'.cell, q3]
          rfl
        · exact hA.keep fun b hb => SameB.of_heap (far b (hfb b hb))
        · exact free_heap hO.2 fun b hb => far b (hfb b hb)
        · intro b hb
          exact ⟨hO.1 b hb, by have := hfl b hb; simpa [World.setCell] using this⟩
        · omega
        · intro i hi b hb
          have h1 := (HR.out.own i hi).2.2 b hb
          rw [far b (by omega)]
          exact hb'.block b h1.2
        · simpa [World.setCell] using s1
        · exact ((((hb.trans (hb'.mono hb.size)).setCell (Nat.le_refl _) _).setCell (Nat.le_refl _) _).setCell (Nat.le_refl _) _).setCell (Nat.le_refl _) _
      case measure => simp [intOf]; omega
    · go_wp2
      go_ret
      have h4 := hx.out
      obtain rfl : k = xs.length := by omega
      refine ⟨w.heap.size, F, by rw [← h4]; rfl, ⟨Nat.le_refl _, ⟨cs, hM, by omega⟩, ?_, fun i hi hin => ?_⟩, hb⟩
      · exact ⟨hR.at_, fun i hi => ⟨(hR.own i hi).1, (hR.own i hi).2.1, fun b hb => ⟨by have := ((hR.own i hi).2.2 b hb).1; omega, ((hR.own i hi).2.2 b hb).2⟩⟩, hR.dis⟩
      · have := ((hR.own i hi).2.2 _ hin).1
        omega
def CopiedParam (w : World) (r : Rc Bool) (e : Ending) (w' : World) : Prop :=
  ∃ ta tn tc fp, e = .returned (.agg #[.string r.name, .int .i64 r.type.kind, .slice ta tn tc, .bool r.last]) ∧ RTa w' r.type.args ta tn tc fp ∧ fp.Nodup ∧ Own w.heap.size w' fp ∧ (∀ b ∈ fp, b < w'.heap.size) ∧ Below w.heap.size w w'
set_option maxHeartbeats 800000 in
theorem toParam_any (r : Rc Bool) (ta : Option Addr) (tn tc : Nat) (w : World) (h : Rd w r.type (.int .i64 r.type.kind) (.slice ta tn tc)) (hl : Ty.sizes r.type.args ≤ 1048576) :
    Calls Try.prog 39 #[.agg #[.string r.name, .int .i64 r.type.kind, .slice ta tn tc, .bool r.last]] w (CopiedParam w r) := by
  go_enter Try.func39, Try.ntmps39
  go_wp2_with fail
  refine (toType_any r.type _ _ _ (h.below (by repeat (first | exact Below.refl _ _ | assumption | refine Below.drew ?_ | refine below_drewN ?_ _ | refine Below.alloc ?_ (by first | omega | (simp; done) | (simp; omega)) _ | refine Below.setCell ?_ (by first | omega | (simp; done) | (simp; omega)) _))) hl).mono ?_
  rintro e w1 ⟨d0, d1, f, rfl, hR, hnd, hO, b1⟩
  obtain ⟨xa, xn, xc, rfl, rfl, -, -⟩ := hR.rd.shape
  have B0 := (((Blk.new w 55 #[.string r.name, .int .i64 r.type.kind, .slice ta tn tc, .bool r.last]).alloc (.cells #[.string ⟨#[]⟩, .int .i64 0, .slice none 0 0, .bool false] 59)).alloc (.cells #[.string r.name, .int .i64 0, .slice none 0 0, .bool false] 59)).under b1
  have B1 := ((Blk.new2 w (.cells #[.string r.name, .int .i64 r.type.kind, .slice ta tn tc, .bool r.last] 55) 59 #[.string ⟨#[]⟩, .int .i64 0, .slice none 0 0, .bool false]).alloc (.cells #[.string r.name, .int .i64 0, .slice none 0 0, .bool false] 59)).under b1
  have B2 := (Blk.new3 w (.cells #[.string r.name, .int .i64 r.type.kind, .slice ta tn tc, .bool r.last] 55) (.cells #[.string ⟨#[]⟩, .int .i64 0, .slice none 0 0, .bool false] 59) 59 #[.string r.name, .int .i64 0, .slice none 0 0, .bool false]).under b1
  have u3 := B0.cell 3
  have c0 := B1.cell 0
  have c1 := B1.cell 1
  have c2 := B1.cell 2
  have c3 := B1.cell 3
  have z0 := B1.free 0
  have z1 := B1.free 1
  have z2 := B1.free 2
  have z3 := B1.free 3
  have d0 := B2.cell 0
  have d1 := B2.cell 1
  have d2 := B2.cell 2
  have d3 := B2.cell 3
  have y1 := B2.free 1
  have y2 := B2.free 2
  have y3 := B2.free 3
  simp at u3 c0 c1 c2 c3 d0 d1 d2 d3
  go_wp2_with fail
  have hge : ∀ b ∈ f, w.heap.size + 1 + 1 + 1 ≤ b := fun b hb => by have := hO.1 b hb; simp at this; omega
  have hlt := RT.lt _ _ _ _ hR
  generalize hW : World.setCell _ ⟨w.heap.size + 1, 3, none⟩ _ = W
  have far : ∀ b ∈ f, W.heap[b]? = w1.heap[b]? := fun b hb => by
    have hn : b ≠ w.heap.size + 1 := by have := hge b hb; omega
    have hm : b ≠ w.heap.size + 1 + 1 := by have := hge b hb; omega
    rw [← hW]
    simp only [Below.heap_setCell _ ⟨w.heap.size + 1, 0, none⟩ _ b hn, Below.heap_setCell _ ⟨w.heap.size + 1, 1, none⟩ _ b hn, Below.heap_setCell _ ⟨w.heap.size + 1, 2, none⟩ _ b hn, Below.heap_setCell _ ⟨w.heap.size + 1, 3, none⟩ _ b hn,
      Below.heap_setCell _ ⟨w.heap.size + 1 + 1, 1, none⟩ _ b hm, Below.heap_setCell _ ⟨w.heap.size + 1 + 1, 2, none⟩ _ b hm, Below.heap_setCell _ ⟨w.heap.size + 1 + 1, 3, none⟩ _ b hm]
  have hsz : W.heap.size = w1.heap.size := by rw [← hW]; simp [World.setCell]
  have k1 : Below w.heap.size w w1 := below_of_alloc (below_of_alloc (below_of_alloc b1))
  have hbe : Below w.heap.size w W := by
    rw [← hW]
    exact (((((((k1.setCell (p := ⟨w.heap.size + 1 + 1, 1, none⟩) (by simp <;> omega) _).setCell (p := ⟨w.heap.size + 1 + 1, 2, none⟩) (by simp <;> omega) _).setCell (p := ⟨w.heap.size + 1 + 1, 3, none⟩) (by simp <;> omega) _).setCell (p := ⟨w.heap.size + 1, 0, none⟩) (by simp <;> omega) _).setCell (p := ⟨w.heap.size + 1, 1, none⟩) (by simp <;> omega) _).setCell (p := ⟨w.heap.size + 1, 2, none⟩) (by simp <;> omega) _).setCell (p := ⟨w.heap.size + 1, 3, none⟩) (by simp <;> omega) _)
  have hv : W.cell? ⟨w.heap.size + 1, 0, none⟩ = some (.string r.name) ∧ W.cell? ⟨w.heap.size + 1, 1, none⟩ = some (.int .i64 r.type.kind) ∧ W.cell? ⟨w.heap.size + 1, 2, none⟩ = some (.slice xa xn xc) ∧ W.cell? ⟨w.heap.size + 1, 3, none⟩ = some (.bool r.last) := by
    rw [← hW]
    simp [go_sem, c0, c1, c2, c3]
  obtain ⟨v0, v1, v2, v3⟩ := hv
  refine bodyPost_ret (v := .agg #[.string r.name, .int .i64 r.type.kind, .slice xa xn xc, .bool r.last]) (by simp [results, Try.results39, go_sem, v0, v1, v2, v3]) rfl ⟨xa, xn, xc, f, rfl, hR.rta'.keep fun b hb => SameB.of_heap (far b hb), hnd, ⟨fun b hb => by have := hge b hb; omega, free_heap hO.2 far⟩, fun b hb => by have := hlt b hb; rw [hsz]; exact this, hbe⟩

theorem Try.infoParam : (Try.prog.info? 59).map (fun i => (i.zero, i.size)) = some (some (.agg #[.string ⟨#[]⟩, .int .i64 0, .slice none 0 0, .bool false]), 4) := by kernel_rfl
theorem Try.bytesParam : (Try.prog.info? 59).map (fun i => decide (i.bytes ≤ 56)) = some true := by kernel_rfl

/-- What toParamS gives. -/
def CopiedParamS (w : World) (xs : List (Rc Bool)) (e : Ending) (w' : World) : Prop :=
  ∃ g F, e = .returned (.slice (some ⟨g, 0, none⟩) xs.length xs.length) ∧ OwnR 59 w.heap.size w' xs g F ∧ Below w.heap.size w w'
set_option maxHeartbeats 800000 in
theorem toParamS_any (xs : List (Rc Bool)) (a : Option Addr) (n cap : Nat) (w : World) (h : Rcs w xs a n cap) (hl : Rcs.wt xs ≤ 1048576) :
    Calls Try.prog 9 #[.slice a n cap] w (CopiedParamS w xs) := by
  have hx := hide h.1
  have hn : n ≤ 1048576 := by
    have := h.1
    unfold Rcs.wt at hl
    omega
  have hz : ∀ k (hk : k < xs.length), Ty.sizes xs[k].type.args ≤ 1048576 := fun k hk => by
    have h1 := Rcs.sum_take xs k hk
    have h2 := Rcs.sum_le xs (k + 1)
    unfold Rcs.wt at hl
    unfold Rc.wt at h1 h2 hl
    omega
  replace hz := hide hz
  clear hl
  obtain ⟨i0, hi, hib⟩ : ∃ i0, Try.prog.info? 59 = some i0 ∧ i0.bytes ≤ 56 := by
    have h1 := Try.bytesParam
    cases e : Try.prog.info? 59 with
    | none => rw [e] at h1; cases h1
    | some i => rw [e] at h1; exact ⟨i, rfl, by simpa using h1⟩
  have hz0 : i0.zero = some (.agg #[.string ⟨#[]⟩, .int .i64 0, .slice none 0 0, .bool false]) ∧ i0.size = 4 := by
    have h1 := Try.infoParam
    rw [hi] at h1
    simpa using h1
  have hmk := fun W => run_make_rowN (P := Try.prog) 25 59 i0 _ Try.underlying25 hi hz0.1 .i64 .i64 n n (Nat.le_refl _) (by have : i0.bytes * n ≤ 56 * n := Nat.mul_le_mul_right _ hib; omega) (by omega) W
  rw [hz0.2] at hmk
  clear hi hz0 hib
  go_enter Try.func9, Try.ntmps9
  go_wp2_with fail
  clear hmk
  go_loopw [4] (fun i wr => ∃ k : Nat, k ≤ n ∧ i = .int .i64 k ∧ (∃ (cs : Array Value) (F : Nat → List Nat), Blk wr w.heap.size 59 cs ∧ cs.size = n * 4 ∧ RecsF (fun o => wr.cell? ⟨w.heap.size, o, none⟩) wr xs k (w.heap.size + 1) F) ∧ Below w.heap.size w wr) (fun i _ => n - (intOf i).toNat)
  case atStart =>
    refine ⟨0, by omega, rfl, ⟨_, fun _ => [], Blk.new w _ _, by simp [madeCells], RecsF.nil _ _ _ _ _⟩, (Below.refl _ _).alloc (Nat.le_refl _) _⟩
  case round =>
    obtain ⟨k, hk, rfl, ⟨cs, F, hM, hcs, hR⟩, hb⟩ := hrel
    by_cases hkn : k < n
    · have hkx : k < xs.length := by rw [← hx.out]; exact hkn
      obtain ⟨b, off, rfl, hlt', hsz, -, ta, tn, tc, e0, e1, e2, e3, hr⟩ := (h.below hb).get k hkx
      have C := hide (toParam_any xs[k] ta tn tc wr hr (hz.out k hkx))
      simp only [Last.val] at e3
      have HR := hide hR
      clear hR
      go_wp2_with (go_at_call 39; refine C.out.mono ?_; rintro e w' ⟨xa, xn, xc, f, rfl, hA, hnd, hO, hfl, hb'⟩; have hM' := hM.under hb'; have g0 := hM'.at_ (i := k * 4) (by omega); have g1 := hM'.at_ (i := k * 4 + 1) (by omega); have g2 := hM'.at_ (i := k * 4 + 2) (by omega); have g3 := hM'.at_ (i := k * 4 + 3) (by omega); have z0 := hM'.free (k * 4); have z1 := hM'.free (k * 4 + 1); have z2 := hM'.free (k * 4 + 2); have z3 := hM'.free (k * 4 + 3))
      go_roundw
      case rel =>
        obtain ⟨cs', hs', hB', hlo, q0, q1, q2, q3⟩ := four_cells (M := 0) (n := 0) (k := k) (v0 := .string xs[k].name) (v1 := .int .i64 xs[k].type.kind) (v2 := .slice xa xn xc) (v3 := .bool xs[k].last) hM' (by omega)
        have hlM := hM.lt
        have s1 := hb'.size
        have far : ∀ b, b ≠ w.heap.size → _ := fun b hb => four_far (g := w.heap.size) (k := k) (w := w') (v0 := .string xs[k].name) (v1 := .int .i64 xs[k].type.kind) (v2 := .slice xa xn xc) (v3 := .bool xs[k].last) (b := b) hb
        have hfb : ∀ b ∈ f, b ≠ w.heap.size := fun b hb => by have := hO.1 b hb; omega
        refine ⟨k + 1, by omega, by go_num, ⟨cs', _, hB', by omega, HR.out.step (f := f) (ta := xa) (tn := xn) (tc := xc) hkx ?_ ?_ ?_ ?_ ?_ ?_ hnd ?_ ?_ ?_ ?_ ?_⟩, ?_⟩
        · intro o ho
          rw [hB'.cell, hM.cell, hlo o ho]
        · rw [hB'.cell, q0]
        · rw [hB'.cell, q1]
        · rw [hB'.cell, q2]
        · rw [hB'.cell, q3]
          rfl
        · exact hA.keep fun b hb => SameB.of_heap (far b (hfb b hb))
        · exact free_heap hO.2 fun b hb => far b (hfb b hb)
        · intro b hb
          exact ⟨hO.1 b hb, by have := hfl b hb; simpa [World.setCell] using this⟩
        · omega
        · intro i hi b hb
          have h1 := (HR.out.own i hi).2.2 b hb
          rw [far b (by omega)]
          exact hb'.block b h1.2
        · simpa [World.setCell] using s1
        · exact ((((hb.trans (hb'.mono hb.size)).setCell (Nat.le_refl _) _).setCell (Nat.le_refl _) _).setCell (Nat.le_refl _) _).setCell (Nat.le_refl _) _
      case measure => simp [intOf]; omega
    · go_wp2
      go_ret
      have h4 := hx.out
      obtain rfl : k = xs.length := by omega
      refine ⟨w.heap.size, F, by rw [← h4]; rfl, ⟨Nat.le_refl _, ⟨cs, hM, by omega⟩, ?_, fun i hi hin => ?_⟩, hb⟩
      · exact ⟨hR.at_, fun i hi => ⟨(hR.own i hi).1, (hR.own i hi).2.1, fun b hb => ⟨by have := ((hR.own i hi).2.2 b hb).1; omega, ((hR.own i hi).2.2 b hb).2⟩⟩, hR.dis⟩
      · have := ((hR.own i hi).2.2 _ hin).1
        omega
end Go.Proofs.Ytnmpaibocmnabaa
