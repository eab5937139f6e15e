/-
  Drawn types: l3Draw, l3Bent, DrawIsValidType, DrawEqualType.
-/
import Derived.Test.YtklifieahcoljaaGreatDraw
import Derived.Test.YtklifieahcoljaaGreatCopyTy
namespace Go.Proofs.YtklifieahcoljaaGreat
open Go.RowKit
set_option maxRecDepth 100000
set_option linter.unusedVariables false
set_option linter.unusedSimpArgs false

theorem Drew.fresh {p base : Nat} {w w' : World} (h : Drew p w w') (hb : p < base) : Fresh base w w' := ⟨h.size, fun b hb' hl => h.block hl (by omega)⟩
/-- A drawn type of at most N nodes. -/
def DrawsTy (p N : Nat) (w : World) (e : Ending) (w' : World) : Prop := ∃ (t : Ty) (v : Value), e = .returned (.agg #[.int .i64 t.kind, v]) ∧ OwnTy w.heap.size w' t v ∧ t.size ≤ N ∧ Drew p w w'
theorem Ty.size_two (k : Int) (t u : Ty) : Ty.size ⟨k, [t, u]⟩ = 1 + t.size + u.size := by simp [Ty.size, Ty.sizes]; omega
theorem Ty.size_one (k : Int) (t : Ty) : Ty.size ⟨k, [t]⟩ = 1 + t.size := by simp [Ty.size, Ty.sizes]
theorem Ty.sizes_of_size {t : Ty} {N : Nat} (h : t.size ≤ N) : Ty.sizes t.args ≤ N := by have := t.size_eq; omega
theorem Drew.alloc {p : Nat} {w : World} (h : Cur w p) (o : Obj) : Drew p w (w.alloc o) := Drew.of_below h (below_new w o)
theorem ints3 : ∀ j (hj : j < (#[Value.int .i64 1, .int .i64 1, .int .i64 2] : Array Value).size), ∃ z : Int, (#[Value.int .i64 1, .int .i64 1, .int .i64 2] : Array Value)[j] = .int .i64 z ∧ i64 z := by
  intro j hj
  match j, hj with
  | 0, _ => exact ⟨1, rfl, by simp [i64]⟩
  | 1, _ => exact ⟨1, rfl, by simp [i64]⟩
  | 2, _ => exact ⟨2, rfl, by simp [i64]⟩
  | n + 3, h => simp at h; omega
/-- A block of one's own is stored to. -/
theorem Drew.set_ {p : Nat} {w : World} (h : Cur w p) {q : Addr} (hq : p < q.block) (base : Nat) (u : Value) : Cur (w.setCell q u) p := h.keep fun b hb => Below.heap_setCell w q u b (by omega)

/-- Behind a store into one's own result block. -/
theorem DrawsTy.mk {p N R : Nat} {w w1 : World} {t : Ty} {v : Value} {base : Nat} (hR : w.heap.size = R) (hC : Cur w p) (ho : OwnTy base w1 t v) (hb : R < base) (hs : t.size ≤ N) (hd : Drew p w w1) (hl : R < w1.heap.size) :
    DrawsTy p N w (.returned (.agg #[.int .i64 t.kind, v])) ((w1.setCell ⟨R, 0, none⟩ (.int .i64 t.kind)).setCell ⟨R, 1, none⟩ v) := by
  have hp := hC.lt
  have hF : Fresh base w1 ((w1.setCell ⟨R, 0, none⟩ (.int .i64 t.kind)).setCell ⟨R, 1, none⟩ v) := (Fresh.set_ (p := ⟨R, 0, none⟩) hb _).trans (Fresh.set_ (p := ⟨R, 1, none⟩) hb _)
  have hB : Below R w1 ((w1.setCell ⟨R, 0, none⟩ (.int .i64 t.kind)).setCell ⟨R, 1, none⟩ v) := ((Below.refl _ _).setCell (p := ⟨R, 0, none⟩) (Nat.le_refl _) _).setCell (p := ⟨R, 1, none⟩) (Nat.le_refl _) _
  refine ⟨t, v, rfl, (ho.keep hF).base (by omega), hs, hd.1.keep fun b hb => hB.block b (by omega), hd.2.os, hd.2.tape, hd.2.output, Nat.le_trans hd.size hB.size, fun b hb hn => ?_, fun b o hb => ?_⟩
  · exact (hB.block b (by omega)).trans (hd.2.block b hb hn)
  · exact (hB.frozen (p := ⟨b, o, none⟩) (by simp; omega)).trans (hd.2.frozen b o hb)

theorem pow_bounds (d : Nat) (h : 2 ≤ d) (h8 : d ≤ 8) : ∃ M N : Nat, M = 2 ^ (d - 1) - 1 + (1 - (d - 1)) ∧ N = 2 ^ d - 1 + (1 - d) ∧ 1 + 2 * M ≤ N ∧ 1 ≤ M ∧ M ≤ 128 := by
  refine ⟨_, _, rfl, rfl, ?_⟩
  have : d = 2 ∨ d = 3 ∨ d = 4 ∨ d = 5 ∨ d = 6 ∨ d = 7 ∨ d = 8 := by omega
  rcases this with rfl | rfl | rfl | rfl | rfl | rfl | rfl <;> decide
set_option maxHeartbeats 3200000 in
theorem l3Draw_any (p : Nat) (d : Nat) : d ≤ 8 → ∀ w, Cur w p → Calls Tryz.prog 66 #[.pointer (some ⟨p, 0, none⟩), .int .i64 (d : Int)] w (DrawsTy p (2 ^ d - 1 + (1 - d)) w) := by
  induction d using Nat.strongRecOn with
  | _ d ih =>
    intro hd8 w hC
    have hlt := hC.lt
    have d0 := Drew.alloc hC (.cells #[.int .i64 0, .slice none 0 0] 26)
    have B0 := Blk.new w 26 #[.int .i64 0, .slice none 0 0]
    have leaf : ∀ (N : Nat), 1 ≤ N → ∀ (W1 : World) (S : Nat), S = W1.heap.size → Drew p w W1 → Blk W1 w.heap.size 26 #[.int .i64 0, .slice none 0 0] →
        Calls Tryz.prog 40 #[.pointer (some ⟨p, 0, none⟩), .slice (some ⟨S, 0, none⟩) 3 3] (W1.alloc (.cells #[.int .i64 1, .int .i64 1, .int .i64 2] 3)) fun e w2 => ∃ z : Int, e = .returned (.int .i64 z) ∧ i64 z ∧ Blk w2 w.heap.size 26 #[.int .i64 0, .slice none 0 0] ∧ Drew p w w2 := by
      intro N hN W1 S hS d1 B1
      subst hS
      have d2 := d1.trans (Drew.alloc d1.cur (.cells #[.int .i64 1, .int .i64 1, .int .i64 2] 3))
      refine (l1PickInt_any p W1.heap.size 3 3 _ _ d2.cur (Blk.new W1 _ _) d1.cur.lt rfl (by omega) (by omega) ints3).mono ?_
      rintro e w2 ⟨z, rfl, hz, -, d3⟩
      exact ⟨z, rfl, hz, (d3.block (by have := B1.lt; simp; omega) (by omega)).trans (B1.alloc _), d2.trans d3⟩
    by_cases h2 : d < 2
    · have hd : decide ((d : Int) < 2) = true := by simp; omega
      have hN : 1 ≤ 2 ^ d - 1 + (1 - d) := by
        have : d = 0 ∨ d = 1 := by omega
        rcases this with rfl | rfl <;> decide
      generalize 2 ^ d - 1 + (1 - d) = N at hN ⊢
      clear ih
      have L := leaf N hN _ (w.heap.size + 1) (by simp) d0 B0
      clear leaf
      go_enter Tryz.func66, Tryz.ntmps66
      go_wp2_with fail
      refine L.mono ?_
      rintro e w2 ⟨z, rfl, hz, B2, d2⟩
      obtain ⟨u0, u1⟩ := B2.two
      have z0 := B2.free 0
      have z1 := B2.free 1
      go_wp2_with fail
      refine bodyPost_ret (v := .agg #[.int .i64 z, .slice none 0 0]) (by simp [results, Tryz.results66, go_sem, u0, u1]) rfl (DrawsTy.mk (t := ⟨z, []⟩) rfl hC (OwnTy.nil (w.heap.size + 1) _ _ hz) (by omega) (by simp [Ty.size, Ty.sizes]; omega) d2 B2.lt)
    · obtain ⟨M, N, hM, hN, h1, h3, h4⟩ := pow_bounds d (by omega) hd8
      have IH := ih (d - 1) (by omega) (by omega)
      have hd : decide ((d : Int) < 2) = false := by simp; omega
      have hcast : ((d - 1 : Nat) : Int) = (d : Int) - 1 := by omega
      rw [← hM, hcast] at IH
      rw [← hN]
      have HI := hide IH
      clear ih IH hM hN hcast
      go_enter Tryz.func66, Tryz.ntmps66
      go_wp2_with fail
      refine (l1Once_any p 2 _ d0.cur (by omega)).mono ?_
      rintro e w1 ⟨b, rfl, d1⟩
      have D1 := d0.trans d1
      have B1 : Blk w1 w.heap.size _ _ := (d1.block B0.lt (by omega)).trans B0
      have L := leaf N (by omega) _ _ rfl D1 B1
      clear leaf
      cases b with
      | true =>
        go_wp2_with fail
        refine L.mono ?_
        rintro e w2 ⟨z, rfl, hz, B2, d2⟩
        obtain ⟨u0, u1⟩ := B2.two
        have z0 := B2.free 0
        have z1 := B2.free 1
        go_wp2_with fail
        refine bodyPost_ret (v := .agg #[.int .i64 z, .slice none 0 0]) (by simp [results, Tryz.results66, go_sem, u0, u1]) rfl (DrawsTy.mk (t := ⟨z, []⟩) rfl hC (OwnTy.nil (w.heap.size + 1) _ _ hz) (by omega) (by simp [Ty.size, Ty.sizes]; omega) d2 B2.lt)
      | false =>
        clear L
        go_wp2_with fail
        refine (l1Once_any p 2 _ D1.cur (by omega)).mono ?_
        rintro e w2 ⟨b, rfl, d2⟩
        have D2 := D1.trans d2
        have s1 := D1.size
        have B2 : Blk w2 w.heap.size _ _ := (d2.block B1.lt (by omega)).trans B1
        have lB2 := B2.lt
        cases b with
        | true =>
          go_wp2_with fail
          refine (HI.out _ D2.cur).mono ?_
          rintro e w3 ⟨t, v, rfl, ho, hs, d3⟩
          have D3 := D2.trans d3
          have B3 : Blk w3 w.heap.size _ _ := (d3.block B2.lt (by omega)).trans B2
          obtain ⟨va, vn, vc, rfl, hr⟩ := ho.rd
          go_wp2_with fail
          refine (l3Code_any t _ _ _ hr (by have := Ty.sizes_of_size hs; omega)).mono ?_
          rintro e w4 ⟨v4, rfl, ho4, b4⟩
          obtain ⟨ga, gn, gc, rfl, -⟩ := ho4.rd
          have D4 := D3.next b4
          have B4 := B3.under b4
          obtain ⟨u0, u1⟩ := B4.two
          have z0 := B4.free 0
          have z1 := B4.free 1
          have lB3 := B3.lt
          go_wp2_with fail
          refine bodyPost_ret (v := .agg #[.int .i64 4, .slice ga gn gc]) (by simp [results, Tryz.results66, go_sem, u0, u1]) rfl (DrawsTy.mk (t := ⟨4, [t]⟩) rfl hC ho4 (by omega) (by rw [Ty.size_one]; omega) D4 B4.lt)
        | false =>
          go_wp2_with fail
          refine (HI.out _ D2.cur).mono ?_
          rintro e w3 ⟨t, v, rfl, ho, hs, d3⟩
          have D3 := D2.trans d3
          have B3 : Blk w3 w.heap.size _ _ := (d3.block B2.lt (by omega)).trans B2
          obtain ⟨va, vn, vc, rfl, hr⟩ := ho.rd
          have DX := D3.trans (Drew.alloc D3.cur (.cells #[.int .i64 t.kind, .slice va vn vc] 26))
          have BX := Blk.new w3 26 #[.int .i64 t.kind, .slice va vn vc]
          have BR := B3.alloc (.cells #[.int .i64 t.kind, .slice va vn vc] 26)
          have hoX := ho.keep (Fresh.of_below (below_new w3 (.cells #[.int .i64 t.kind, .slice va vn vc] 26)))
          have lB3 := B3.lt
          have hX3 : (w3.alloc (.cells #[.int .i64 t.kind, .slice va vn vc] 26)).heap.size = w3.heap.size + 1 := by simp
          have h23 := d3.size
          go_wp2_with fail
          generalize w3.alloc (.cells #[.int .i64 t.kind, .slice va vn vc] 26) = W4 at DX BX BR hoX hX3 ⊢
          have hC5 : Cur W4.drew p := DX.cur.below (below_drew _)
          have HBX := hide BX
          obtain ⟨x0, x1⟩ := BX.two
          have hwr : IntKind.i64.wrap ((d : Int) - 1) = (d : Int) - 1 := IntWalk.i64_in _ (by omega)
          go_region_law (first
            | (go_simp; go_at_call 66; (with_reducible refine (HI.out _ hC5).mono ?_); rintro e w5 ⟨u, v5, rfl, ho5, hs5, d5⟩; replace ho5 : OwnTy W4.heap.size w5 u v5 := ho5; replace d5 : Drew p W4 w5 := Drew.after DX.cur (below_drew _) d5; obtain ⟨ua, un, uc, rfl, hr5⟩ := ho5.rd; have BX5 : Blk w5 w3.heap.size _ _ := (d5.block HBX.out.lt (by omega)).trans HBX.out; obtain ⟨x2, x3⟩ := BX5.two; have hoX5 := hoX.keep (d5.fresh (by omega)); obtain ⟨ta, tn, tc, hv5, hrX⟩ := hoX5.rd; obtain ⟨rfl, rfl, rfl⟩ : ta = va ∧ tn = vn ∧ tc = vc := (by injection hv5 with q1 q2 q3; exact ⟨q1.symm, q2.symm, q3.symm⟩))
            | (go_simp; go_at_call 48; (with_reducible refine (l3Fun_any t u _ _ _ _ _ hrX hr5 (by have := Ty.sizes_of_size hs; omega) (by have := Ty.sizes_of_size hs5; omega)).mono ?_); rintro e w6 ⟨v6, rfl, ho6, b6⟩; obtain ⟨ga, gn, gc, rfl, -⟩ := ho6.rd; have B6 : Blk w6 w.heap.size 26 #[.int .i64 0, .slice none 0 0] := Blk.under ((d5.block BR.lt (by omega)).trans BR) b6; obtain ⟨u0, u1⟩ := B6.two; have z0 := B6.free 0; have z1 := B6.free 1))
          all_goals
            have s5 := d5.size
            go_wp2_with fail
            refine bodyPost_ret (v := .agg #[.int .i64 3, .slice ga gn gc]) (by simp [results, Tryz.results66, go_sem, u0, u1]) rfl (DrawsTy.mk (t := ⟨3, [t, u]⟩) rfl hC ho6 (by omega) (by rw [Ty.size_two]; omega) ((DX.trans d5).next b6) B6.lt)
end Go.Proofs.YtklifieahcoljaaGreat
