/-
  The walks of l3Bool, l9Most, l9Pick; contexts: their reading in blocks of one's own, l9Last.
-/
import Derived.Test.YtklifieahcoljaaGreatSmallM
namespace Go.Proofs.YtklifieahcoljaaGreat
open Go.RowKit
set_option maxRecDepth 100000
set_option linter.unusedVariables false
set_option linter.unusedSimpArgs false

theorem l3Bool_eq (w : World) : Calls Tryz.prog 46 #[] w fun e w' => e = .returned (.agg #[.int .i64 2, .slice none 0 0]) ∧ Below w.heap.size w w' := by
  go_enter Tryz.func46, Tryz.ntmps46
  go_wp2_with fail
  exact bodyPost_ret (v := .agg #[.int .i64 2, .slice none 0 0]) (by simp [results, Tryz.results46, go_sem]) rfl ⟨rfl, below_new _ _⟩
theorem l3Bool_any (w : World) : Calls Tryz.prog 46 #[] w (GivesTy w ⟨2, []⟩) := by
  go_enter Tryz.func46, Tryz.ntmps46
  go_wp2_with fail
  exact bodyPost_ret (v := .agg #[.int .i64 2, .slice none 0 0]) (by simp [results, Tryz.results46, go_sem]) rfl ⟨_, rfl, OwnTy.nil _ _ _ ⟨by omega, by omega⟩, below_new _ _⟩
set_option maxHeartbeats 800000 in
theorem l9Most_any (t : Ty) : ∀ (a : Option Addr) (n c : Nat) (w : World), Rd w t (.int .i64 t.kind) (.slice a n c) → t.all Ty.formed = true → t.size ≤ 1000 →
    Calls Tryz.prog 98 #[.agg #[.int .i64 t.kind, .slice a n c]] w fun e w' => ∃ r : Nat, e = .returned (.int .i64 (r : Int)) ∧ r ≤ t.size ∧ Below w.heap.size w w' := by
  induction t using Ty.ind with | h k xs ih => ?_
  intro a n c w h hf hz
  have IH := hide ih
  clear ih
  rw [Ty.all_eq, Bool.and_eq_true] at hf
  obtain ⟨hf1, hf2⟩ := hf
  by_cases k4 : k = 4
  · subst k4
    have hx2 : xs.length = 1 := by simpa [Ty.formed] using hf1
    match xs, hx2 with
    | [x], _ =>
      have hzx : x.size + 1 = Ty.size ⟨4, [x]⟩ := by rw [Ty.size_one]; omega
      obtain ⟨_, _, _, -, e2, -, hr⟩ := h.shape
      injection e2 with q1 q2 q3
      subst q1 q2 q3
      obtain rfl : n = 1 := hr.1
      simp only [List.all_cons, List.all_nil, Bool.and_true] at hf2
      obtain ⟨b, off, e0, e1, rfl, hlt, q0, q1, hd⟩ := hr.get 0 (by simp)
      simp only [Nat.zero_mul, Nat.add_zero, List.getElem_cons_zero] at q0 q1 hd
      obtain ⟨xa, xn, xc, rfl, rfl, -, -⟩ := hd.shape
      have C := hide (IH.out x (by simp) xa xn xc _ (hd.below (below_new w (.cells #[.int .i64 4, .slice (some ⟨b, off, none⟩) 1 c] 26))) hf2 (by omega))
      go_enter Tryz.func98, Tryz.ntmps98
      go_wp2_with fail
      refine C.out.mono ?_
      rintro e w1 ⟨r, rfl, hr1, b1⟩
      go_wp2_with fail
      go_ret
      exact ⟨r + 1, by go_num, by omega, below_of_alloc b1⟩
  · have g4 : (k == 4) = false := beq_eq_false_iff_ne.2 k4
    go_enter Tryz.func98, Tryz.ntmps98
    go_wp2_with fail
    go_ret
    exact ⟨0, rfl, Nat.zero_le _, below_new _ _⟩
/-- A drawn type of the four kinds, of at most N nodes. -/
def DrawsTyF (p N : Nat) (w : World) (e : Ending) (w' : World) : Prop := ∃ (t : Ty) (v : Value), e = .returned (.agg #[.int .i64 t.kind, v]) ∧ OwnTy w.heap.size w' t v ∧ t.size ≤ N ∧ t.all Ty.formed = true ∧ Drew p w w'
theorem DrawsTyF.mk {p N R : Nat} {w w1 : World} {t : Ty} {v : Value} {base : Nat} (hR : w.heap.size = R) (hC : Cur w p) (ho : OwnTy base w1 t v) (hb : R < base) (hs : t.size ≤ N) (hf : t.all Ty.formed = true) (hd : Drew p w w1) (hl : R < w1.heap.size) :
    DrawsTyF p N w (.returned (.agg #[.int .i64 t.kind, v])) ((w1.setCell ⟨R, 0, none⟩ (.int .i64 t.kind)).setCell ⟨R, 1, none⟩ v) := by
  obtain ⟨t', v', he, ho', hs', hd'⟩ := DrawsTy.mk (N := N) hR hC ho hb hs hd hl
  injection he with he
  injection he with he
  have e1 : t.kind = t'.kind ∧ v = v' := by simpa using he
  subst hR
  exact ⟨t, v, rfl, (ho.keep ((Fresh.set_ (p := ⟨w.heap.size, 0, none⟩) hb _).trans (Fresh.set_ (p := ⟨w.heap.size, 1, none⟩) hb _))).base (by omega), hs, hf, hd'⟩
set_option maxHeartbeats 1600000 in
theorem l9Pick_any (p : Nat) (m : Int) (w : World) (hC : Cur w p) : Calls Tryz.prog 96 #[.pointer (some ⟨p, 0, none⟩), .int .i64 m] w (DrawsTyF p 3 w) := by
  have hlt := hC.lt
  have d0 := Drew.alloc hC (.cells #[.int .i64 0, .slice none 0 0] 26)
  have B0 := Blk.new w 26 #[.int .i64 0, .slice none 0 0]
  have CI := l3Int_eq (w.alloc (.cells #[.int .i64 0, .slice none 0 0] 26))
  go_enter Tryz.func96, Tryz.ntmps96
  go_wp2_with fail
  refine CI.mono ?_
  rintro e w1 ⟨rfl, b1⟩
  have D1 := d0.next b1
  have B1 := B0.under b1
  have lB1 := B1.lt
  have D2 := D1.trans (Drew.alloc D1.cur (.cells #[.int .i64 1, .slice none 0 0] 26))
  have B2 := B1.alloc (.cells #[.int .i64 1, .slice none 0 0] 26)
  have X2 := Blk.new w1 26 #[.int .i64 1, .slice none 0 0]
  have hl1 : w1.heap.size < (w1.alloc (.cells #[.int .i64 1, .slice none 0 0] 26)).heap.size := by simp
  go_upto_region 2 with fail
  generalize w1.alloc (.cells #[.int .i64 1, .slice none 0 0] 26) = w2 at D2 B2 X2 hl1 ⊢
  go_cut [12] (fun s wx => ∃ b : Bool, s = .bool b ∧ Blk wx w.heap.size 26 #[.int .i64 0, .slice none 0 0] ∧ Blk wx w1.heap.size 26 #[.int .i64 1, .slice none 0 0] ∧ Drew p w wx)
  case first =>
    by_cases hm : m < 2
    · have hd : decide (m < 2) = true := by simpa using hm
      go_wp2_with fail
      refine (l1Once_any p 2 _ D2.cur (by omega)).mono ?_
      rintro e w3 ⟨b, rfl, d3⟩
      go_wp2_with fail
      go_meet
      exact ⟨b, rfl, (d3.block (by omega) (by omega)).trans B2, (d3.block hl1 (by omega)).trans X2, D2.trans d3⟩
    · have hd : decide (m < 2) = false := by simpa using hm
      go_wp2_with fail
      go_meet
      exact ⟨false, rfl, B2, X2, D2⟩
  case rest =>
  clear B2 X2 D2
  obtain ⟨b, rfl, B3, X3, D3⟩ := hcut
  have lB3 := B3.lt
  have lX3 := X3.lt
  obtain ⟨x0, x1⟩ := X3.two
  have hr3 : Rd wc ⟨1, []⟩ (.int .i64 1) (.slice none 0 0) := Rd.mk ⟨by omega, by omega⟩ ⟨rfl, Nat.le_refl _, by simp, .inl rfl⟩
  cases b with
  | true =>
    go_wp2_with fail
    refine (l3Code_any ⟨1, []⟩ _ _ _ hr3 (by simp [Ty.sizes])).mono ?_
    rintro e w4 ⟨v4, rfl, ho4, b4⟩
    obtain ⟨ga, gn, gc, rfl, -⟩ := ho4.rd
    have B4 := B3.under b4
    obtain ⟨u0, u1⟩ := B4.two
    have z0 := B4.free 0
    have z1 := B4.free 1
    go_wp2_with fail
    exact bodyPost_ret (v := .agg #[.int .i64 4, .slice ga gn gc]) (by simp [results, Tryz.results96, go_sem, u0, u1]) rfl (DrawsTyF.mk (t := ⟨4, [⟨1, []⟩]⟩) rfl hC ho4 (by omega) (by decide) (by decide) (D3.next b4) B4.lt)
  | false =>
    go_wp2_with fail
    refine (l1Once_any p 3 _ D3.cur (by omega)).mono ?_
    rintro e w4 ⟨b, rfl, d4⟩
    have D4 := D3.trans d4
    have B4 : Blk w4 w.heap.size _ _ := (d4.block lB3 (by omega)).trans B3
    have X4 : Blk w4 w1.heap.size _ _ := (d4.block lX3 (by omega)).trans X3
    have lB4 := B4.lt
    clear x0 x1
    obtain ⟨x0, x1⟩ := X4.two
    have hr4 : Rd w4 ⟨1, []⟩ (.int .i64 1) (.slice none 0 0) := Rd.mk ⟨by omega, by omega⟩ ⟨rfl, Nat.le_refl _, by simp, .inl rfl⟩
    cases b with
    | true =>
      go_wp2_with fail
      refine (l3Fun_any ⟨1, []⟩ ⟨1, []⟩ _ _ _ _ _ hr4 hr4 (by simp [Ty.sizes]) (by simp [Ty.sizes])).mono ?_
      rintro e w5 ⟨v5, rfl, ho5, b5⟩
      obtain ⟨ga, gn, gc, rfl, -⟩ := ho5.rd
      have B5 := B4.under b5
      obtain ⟨u0, u1⟩ := B5.two
      have z0 := B5.free 0
      have z1 := B5.free 1
      go_wp2_with fail
      exact bodyPost_ret (v := .agg #[.int .i64 3, .slice ga gn gc]) (by simp [results, Tryz.results96, go_sem, u0, u1]) rfl (DrawsTyF.mk (t := ⟨3, [⟨1, []⟩, ⟨1, []⟩]⟩) rfl hC ho5 (by omega) (by decide) (by decide) (D4.next b5) B5.lt)
    | false =>
      obtain ⟨u0, u1⟩ := B4.two
      have z0 := B4.free 0
      have z1 := B4.free 1
      go_wp2_with fail
      exact bodyPost_ret (v := .agg #[.int .i64 1, .slice none 0 0]) (by simp [results, Tryz.results96, go_sem, u0, u1]) rfl (DrawsTyF.mk (t := ⟨1, []⟩) rfl hC (OwnTy.nil (w.heap.size + 1) _ _ ⟨by omega, by omega⟩) (by omega) (by decide) (by decide) D4 B4.lt)
end Go.Proofs.YtklifieahcoljaaGreat
