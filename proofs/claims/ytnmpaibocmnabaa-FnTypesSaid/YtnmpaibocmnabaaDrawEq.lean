/-
  The draw of two types: DrawEqualType; and 'big'.
-/
import Derived.Test.YtnmpaibocmnabaaBentTy
namespace Go.Proofs.Ytnmpaibocmnabaa
open Go.RowKit
set_option maxRecDepth 100000
set_option linter.unusedVariables false
set_option linter.unusedSimpArgs false

/-- What a draw of two types gives. -/
def DrawnTy2 (w : World) (e : Ending) (w' : World) : Prop := ∃ (t u : Ty) (a a' : Option Addr) (n c n' c' : Nat), e = .returned (.tuple #[.agg #[.int .i64 t.kind, .slice a n c], .agg #[.int .i64 u.kind, .slice a' n' c']]) ∧
  Rd w' t (.int .i64 t.kind) (.slice a n c) ∧ Rd w' u (.int .i64 u.kind) (.slice a' n' c') ∧ t.size ≤ 200 ∧ u.size ≤ 200 ∧ Below w.heap.size w w'
theorem four_stores {R S : Nat} {w : World} {a b c d : Value} (base : Nat) (hR : R < base) (hS : S < base) : Fresh base w ((((w.setCell ⟨R, 0, none⟩ a).setCell ⟨R, 1, none⟩ b).setCell ⟨S, 0, none⟩ c).setCell ⟨S, 1, none⟩ d) :=
  (((Fresh.set_ (p := ⟨R, 0, none⟩) hR _).trans (Fresh.set_ (p := ⟨R, 1, none⟩) hR _)).trans (Fresh.set_ (p := ⟨S, 0, none⟩) hS _)).trans (Fresh.set_ (p := ⟨S, 1, none⟩) hS _)
theorem RT.fresh {base : Nat} {w w' : World} {t : Ty} {c0 c1 : Value} {fp : List Nat} (h : RT w t c0 c1 fp) (hge : ∀ b ∈ fp, base ≤ b) (hF : Fresh base w w') : Rd w' t c0 c1 :=
  ⟨fp, RT.keep _ _ _ _ h fun b hb => SameB.of_heap (hF.2 b (hge b hb) (RT.lt _ _ _ _ h b hb))⟩
theorem below_four {B R S : Nat} {w w1 : World} {a b c d : Value} (h : Below B w w1) (hR : B ≤ R) (hS : B ≤ S) : Below B w ((((w1.setCell ⟨R, 0, none⟩ a).setCell ⟨R, 1, none⟩ b).setCell ⟨S, 0, none⟩ c).setCell ⟨S, 1, none⟩ d) :=
  (((h.setCell (p := ⟨R, 0, none⟩) hR _).setCell (p := ⟨R, 1, none⟩) hR _).setCell (p := ⟨S, 0, none⟩) hS _).setCell (p := ⟨S, 1, none⟩) hS _

theorem big_any (a : Option Addr) (n cap : Nat) (w : World) (hn : n ≤ 9223372036854775807) : Calls Try.prog 21 #[.slice a n cap] w fun e w' => e = .returned (.bool (decide ((n : Int) > 1048576))) ∧ w = w' := by
  go_enter Try.func21, Try.ntmps21
  go_wp2_with fail
  go_ret
  exact ⟨rfl, rfl⟩
set_option maxHeartbeats 3200000 in
theorem drawEqualType_any (a : Option Addr) (n cap : Nat) (w : World) (h : Rbs w a n cap) : Calls Try.prog 25 #[.slice a n cap] w (DrawnTy2 w) := by
  have A0 := (Blk.new w 42 #[.int .i64 0, .slice none 0 0]).alloc (.cells #[.int .i64 0, .slice none 0 0] 42)
  have B0 := Blk.new2 w (.cells #[.int .i64 0, .slice none 0 0] 42) 42 #[.int .i64 0, .slice none 0 0]
  go_enter Try.func25, Try.ntmps25
  go_wp2_with fail
  refine (l1New_any a n cap _ (h.below (by repeat (first | exact Below.refl _ _ | assumption | refine Below.drew ?_ | refine below_drewN ?_ _ | refine Below.alloc ?_ (by first | omega | (simp; done) | (simp; omega)) _ | refine Below.setCell ?_ (by first | omega | (simp; done) | (simp; omega)) _)))).mono ?_
  rintro e w1 ⟨p, rfl, hp, hC, b1⟩
  have A1 := A0.under b1
  have B1 := B0.under b1
  simp at hp
  go_wp2_with fail
  refine (l3Bent_any p w1 hC).mono ?_
  rintro e w2 ⟨t, v, rfl, ho, hs, d2⟩
  obtain ⟨va, vn, vc, rfl, hr⟩ := ho.rd
  have lC := hC.lt
  have A2 : Blk w2 w.heap.size _ _ := (d2.block A1.lt (by omega)).trans A1
  have B2 : Blk w2 (w.heap.size + 1) _ _ := (d2.block B1.lt (by omega)).trans B1
  have k2 : Below w.heap.size w w2 := (below_of_alloc (below_of_alloc b1)).trans (d2.2.below (by have := b1.size; simp at this; omega) (by simp; omega))
  have l2 := B2.lt
  have s2 := d2.size
  have DX := d2.trans (Drew.alloc d2.cur (.cells #[.int .i64 t.kind, .slice va vn vc] 42))
  have BX := Blk.new w2 42 #[.int .i64 t.kind, .slice va vn vc]
  have A3 := A2.alloc (.cells #[.int .i64 t.kind, .slice va vn vc] 42)
  have B3 := B2.alloc (.cells #[.int .i64 t.kind, .slice va vn vc] 42)
  have ho3 := ho.keep (Fresh.of_below (below_new w2 (.cells #[.int .i64 t.kind, .slice va vn vc] 42)))
  have k3 := k2.trans ((below_new w2 (.cells #[.int .i64 t.kind, .slice va vn vc] 42)).mono (by omega))
  go_wp2_with fail
  refine (l1Once_any p 2 _ DX.cur (by omega)).mono ?_
  rintro e w3 ⟨b, rfl, d3⟩
  have sX := d3.size
  simp at sX
  have A4 : Blk w3 w.heap.size _ _ := (d3.block A3.lt (by omega)).trans A3
  have B4 : Blk w3 (w.heap.size + 1) _ _ := (d3.block B3.lt (by omega)).trans B3
  have X4 : Blk w3 w2.heap.size _ _ := (d3.block BX.lt (by omega)).trans BX
  have ho4 := ho3.keep (d3.fresh (by omega))
  have k4 : Below w.heap.size w w3 := k3.trans (d3.2.below (by simp; omega) (by simp; omega))
  have hC4 := d3.cur
  have hr4 := ho4.rd'
  have lA := A4.lt
  have lB := B4.lt
  obtain ⟨x0, x1⟩ := X4.two
  have HA := hide A4
  have HB := hide B4
  have HX := hide X4
  have hsz := Ty.sizes_of_size hs
  clear A0 A1 A2 A3 B0 B1 B2 B3 BX A4 B4 X4 ho3 hr
  cases b with
  | true =>
    go_wp2_with fail
    go_region_law (first
      | (go_simp; go_at_call 57; (with_reducible refine (l3Copy_any t _ _ _ (hr4.below (below_drew _)) (by omega)).mono ?_); rintro e w4 ⟨d0, d1, f, rfl, hR, hnd, hO, b4⟩; replace b4 : Below w3.heap.size w3 w4 := below_next (below_drew _) b4; obtain ⟨ya, yn, yc, rfl, rfl, -, -⟩ := hR.rd.shape; have s4 := b4.size; obtain ⟨x2, x3⟩ := (HX.out.under b4).two; obtain ⟨p0, p1⟩ := (HA.out.under b4).two; obtain ⟨q0, q1⟩ := (HB.out.under b4).two; have f0 := (HA.out.under b4).free 0; have f1 := (HA.out.under b4).free 1; have g0 := (HB.out.under b4).free 0; have g1 := (HB.out.under b4).free 1))
    all_goals
      have ho6 := ho4.keep (Fresh.of_below b4)
      have hge : ∀ b ∈ f, w1.heap.size ≤ b := fun b hb => by have := hO.1 b hb; simp at this; omega
      have k6 : Below w.heap.size w w4 := k4.trans (b4.mono (by omega))
      go_wp2_with fail
      refine bodyPost_ret (v := .tuple #[.agg #[.int .i64 t.kind, .slice va vn vc], .agg #[.int .i64 t.kind, .slice ya yn yc]]) ?_ rfl
        ⟨t, t, _, _, _, _, _, _, rfl, (ho6.keep (four_stores w1.heap.size (by omega) (by omega))).rd', hR.fresh hge (four_stores w1.heap.size (by omega) (by omega)), hs, hs, below_four k6 (by omega) (by omega)⟩
      simp [results, Try.results25, go_sem, p0, p1, q0, q1]
  | false =>
    go_wp2_with fail
    go_region_law (first
      | (go_simp; go_at_call 54; (with_reducible refine (l3Bent_any p _ (hC4.below (below_drew _))).mono ?_); rintro e w4 ⟨u, v4, rfl, ho5, hs5, d4⟩; replace ho5 : OwnTy w3.heap.size w4 u v4 := ho5; replace d4 : Drew p w3 w4 := Drew.after hC4 (below_drew _) d4; obtain ⟨ya, yn, yc, rfl, -⟩ := ho5.rd; have s4 := d4.size; have X5 : Blk w4 w2.heap.size _ _ := (d4.block HX.out.lt (by omega)).trans HX.out; obtain ⟨x2, x3⟩ := X5.two; have A5 : Blk w4 w.heap.size _ _ := (d4.block lA (by omega)).trans HA.out; have B5 : Blk w4 (w.heap.size + 1) _ _ := (d4.block lB (by omega)).trans HB.out; obtain ⟨p0, p1⟩ := A5.two; obtain ⟨q0, q1⟩ := B5.two; have f0 := A5.free 0; have f1 := A5.free 1; have g0 := B5.free 0; have g1 := B5.free 1))
    all_goals
      have ho6 := ho4.keep (d4.fresh (by omega))
      have hl5 := ho5.base (base' := w1.heap.size) (by omega)
      have k6 : Below w.heap.size w w4 := k4.trans (d4.2.below (by omega) (by simp; omega))
      go_wp2_with fail
      refine bodyPost_ret (v := .tuple #[.agg #[.int .i64 t.kind, .slice va vn vc], .agg #[.int .i64 u.kind, .slice ya yn yc]]) ?_ rfl
        ⟨t, u, _, _, _, _, _, _, rfl, (ho6.keep (four_stores w1.heap.size (by omega) (by omega))).rd', (hl5.keep (four_stores w1.heap.size (by omega) (by omega))).rd', hs, hs5, below_four k6 (by omega) (by omega)⟩
      simp [results, Try.results25, go_sem, p0, p1, q0, q1]
end Go.Proofs.Ytnmpaibocmnabaa
