/-
  Drawn types, bent: l3Bent, DrawIsValidType, DrawEqualType.
-/
import Derived.Test.YtklifieahcoljaaGreatDrawTy
namespace Go.Proofs.YtklifieahcoljaaGreat
open Go.RowKit
set_option maxRecDepth 100000
set_option linter.unusedVariables false
set_option linter.unusedSimpArgs false

/-- One part more, appended to a row of one's own; its box X is stored to. -/
theorem OwnTy.snoc {base g X n : Nat} {t : Ty} {k : Int} {wr w1 w2 : World} {v v' : Value} {cs : List Value} {fp : List Nat} {o : Obj} (hi : i64 t.kind) (hk : i64 k) (hn : n = t.args.length)
    (hown : wr.ownsRow base 26 2 v n cs) (hRC : RC wr t.args cs fp) (hge : ∀ b ∈ fp, base ≤ b) (hap : ∀ g, v.ownBlock = some g → g ∉ fp) (hX : ∀ b ∈ fp, b < X) (hXg : ∀ g, v.ownBlock = some g → g < X) (hXl : X < wr.heap.size) (hbs : base ≤ wr.heap.size)
    (b1 : Below wr.heap.size wr w1) (hown2 : w2.ownsRow base 26 2 v' (n + 1) (cs ++ [.int .i64 k, .slice none 0 0])) (hgrow : (w1.alloc o).grownBy w2 v.ownBlock) (hv' : v'.ownBlock = some g) (hat : v.ownBlock = some g ∨ g = (w1.alloc o).heap.size) :
    OwnTy base (w2.setCell ⟨X, 1, none⟩ v') ⟨t.kind, t.args ++ [⟨k, []⟩]⟩ v' := by
  have lt1 : ∀ x ∈ fp, x < wr.heap.size := RC_lt hRC
  have s1 := b1.size
  have blk1 : ∀ x ∈ fp, w2.heap[x]? = wr.heap[x]? := fun x hx => by
    have := lt1 x hx
    rw [hgrow.block x (by simp; omega) (fun e => hap x e.symm hx), Below.heap_alloc _ _ _ (by omega), b1.block x this]
  have far : ∀ x, x ≠ X → (w2.setCell ⟨X, 1, none⟩ v').heap[x]? = w2.heap[x]? := fun x hx => Below.heap_setCell w2 ⟨X, 1, none⟩ v' x hx
  have hgX : g ≠ X := by
    rcases hat with h | h
    · have := hXg g h
      omega
    · simp at h
      omega
  refine ⟨hi, cs ++ [.int .i64 k, .slice none 0 0], fp, ⟨by have := hown2.1; simpa [hn] using this, ?_⟩, ?_, hge, fun g' hg' hin => ?_⟩
  · rcases hown2.2 with ⟨rfl, hz⟩ | ⟨g2, cap, cur, rfl, hg, hh, hle, r⟩
    · simp [Value.ownBlock] at hv'
    · have : g2 = g := by simpa [Value.ownBlock] using hv'
      subst this
      subst hn
      exact .inr ⟨g2, cap, cur, by simp, hg, (far g2 hgX).trans hh, by simpa using hle, by simpa using r⟩
  · have h1 : RC (w2.setCell ⟨X, 1, none⟩ v') t.args cs fp := RC_keep hRC fun x hx => SameB.of_heap ((far x (by have := hX x hx; omega)).trans (blk1 x hx))
    have h2 := RC_snoc h1 (t := ⟨k, []⟩) (c0 := .int .i64 k) (c1 := .slice none 0 0) (f := []) (by rw [RT]; exact ⟨rfl, hk, none, 0, rfl, Nat.le_refl _, by simp, .inl ⟨rfl, rfl⟩⟩)
    simpa using h2
  · rw [hv'] at hg'
    obtain rfl := Option.some.inj hg'
    rcases hat with h | h
    · exact hap g h hin
    · have := lt1 g hin
      simp at h
      omega

theorem Drew.over {p : Nat} {w w1 w2 : World} (hC : Cur w p) (hd : Drew p w w1) (hB : Below w.heap.size w1 w2) : Drew p w w2 := by
  have hp := hC.lt
  exact ⟨hd.1.keep fun b hb => hB.block b (by omega), hB.os.trans hd.2.os, hB.tape.trans hd.2.tape, hB.output.trans hd.2.output, Nat.le_trans hd.size hB.size, fun b hb hn => (hB.block b hb).trans (hd.2.block b hb hn), fun b o hb => (hB.frozen (p := ⟨b, o, none⟩) hb).trans (hd.2.frozen b o hb)⟩
theorem Drew.store {p : Nat} {w w1 : World} (hC : Cur w p) (hd : Drew p w w1) {q : Addr} (hq : w.heap.size ≤ q.block) (u : Value) : Drew p w (w1.setCell q u) :=
  Drew.over hC hd ((Below.refl _ _).setCell hq _)
theorem OwnTy.keep2 {base : Nat} {w w' : World} {t : Ty} {v : Value} (h : OwnTy base w t v) (hk : ∀ b, base ≤ b → b < w.heap.size → w'.heap[b]? = w.heap[b]?) : OwnTy base w' t v := by
  obtain ⟨hi, cs, fp, hown, hRC, hge, hap⟩ := h
  refine ⟨hi, cs, fp, ⟨hown.1, ?_⟩, RC_keep hRC fun b hb => SameB.of_heap (hk b (hge b hb) (RC_lt hRC b hb)), hge, hap⟩
  rcases hown.2 with hn | ⟨g, cap, cur, rfl, hg, hh, r⟩
  · exact .inl hn
  · exact .inr ⟨g, cap, cur, rfl, hg, (hk g hg (Array.getElem?_eq_some_iff.1 hh).1).trans hh, r⟩

theorem OwnTy.rd' {base : Nat} {w : World} {t : Ty} {a : Option Addr} {n c : Nat} (h : OwnTy base w t (.slice a n c)) : Rd w t (.int .i64 t.kind) (.slice a n c) := by
  obtain ⟨a', n', c', e, hr⟩ := h.rd
  rw [e]
  exact hr

set_option maxHeartbeats 3200000 in
theorem l3Bent_any (p : Nat) (w : World) (hC : Cur w p) : Calls Tryz.prog 43 #[.pointer (some ⟨p, 0, none⟩)] w (DrawsTy p 200 w) := by
  have hlt := hC.lt
  have d0 := Drew.alloc hC (.cells #[.int .i64 0, .slice none 0 0] 26)
  have B0 := Blk.new w 26 #[.int .i64 0, .slice none 0 0]
  have L := l3Draw_any p 4 (by omega) _ d0.cur
  rw [show (2 ^ 4 - 1 + (1 - 4) : Nat) = 15 by decide] at L
  obtain ⟨i0, hi, hz0, hz1, hz2⟩ := info_parts Tryz.infoType
  go_enter Tryz.func43, Tryz.ntmps43
  go_wp2_with fail
  refine L.mono ?_
  rintro e w1 ⟨t, v, rfl, ho, hs, d1⟩
  have D1 := d0.trans d1
  have R1 : Blk w1 w.heap.size _ _ := (d1.block B0.lt (by omega)).trans B0
  obtain ⟨va, vn, vc, rfl, hr⟩ := ho.rd
  have s1 := d1.size
  simp at s1
  have lR1 := R1.lt
  have DX := D1.trans (Drew.alloc D1.cur (.cells #[.int .i64 t.kind, .slice va vn vc] 26))
  have BX := Blk.new w1 26 #[.int .i64 t.kind, .slice va vn vc]
  have R2 := R1.alloc (.cells #[.int .i64 t.kind, .slice va vn vc] 26)
  go_wp2_with fail
  refine (l1Below_any p 10 _ DX.cur (by omega)).mono ?_
  rintro e w2 ⟨x, rfl, x0, -, d2⟩
  have D2 := DX.trans d2
  have s2 := d2.size
  simp at s2
  have BX2 : Blk w2 w1.heap.size _ _ := (d2.block BX.lt (by omega)).trans BX
  have R3 : Blk w2 w.heap.size _ _ := (d2.block R2.lt (by omega)).trans R2
  have ho2 := (ho.keep (Fresh.of_below (below_new w1 (.cells #[.int .i64 t.kind, .slice va vn vc] 26)))).keep (d2.fresh (by simp; omega))
  have lX := BX2.lt
  replace x0 := x0 (by omega)
  have x1 : (0 : Int) ≤ (x : Int) := by omega
  generalize (x : Int) = z at x0 x1 ⊢
  clear R1 R2 BX
  by_cases z0 : z = 0
  · subst z0
    obtain ⟨u0, u1⟩ := BX2.two
    have f0 := BX2.free 0
    go_wp2_with fail
    refine (l1Below_any p 6 _ D2.cur (by omega)).mono ?_
    rintro e w3 ⟨y, rfl, y0, -, d3⟩
    have D3 := D2.trans d3
    have BX3 : Blk w3 w1.heap.size _ _ := (d3.block BX2.lt (by omega)).trans BX2
    have R4 : Blk w3 w.heap.size _ _ := (d3.block R3.lt (by omega)).trans R3
    clear u0 u1 f0
    obtain ⟨u0, u1⟩ := BX3.two
    have f0 := BX3.free 0
    obtain ⟨q0, q1⟩ := R4.two
    have r0 := R4.free 0
    have r1 := R4.free 1
    have s3 := d3.size
    go_wp2_with fail
    have ho3 : OwnTy (w.heap.size + 1) (w3.setCell ⟨w1.heap.size, 0, none⟩ (.int .i64 (y : Int))) ⟨(y : Int), t.args⟩ (.slice va vn vc) :=
      OwnTy.kind (t := t) ((ho.base (by simp)).keep2 fun b hb hl => (Below.heap_setCell w3 ⟨w1.heap.size, 0, none⟩ _ b (by simp; omega)).trans ((d3.block (by omega) (by omega)).trans ((d2.block (by simp; omega) (by omega)).trans (Below.heap_alloc w1 _ b hl)))) ⟨by omega, by have := y0 (by omega); omega⟩
    refine bodyPost_ret (v := .agg #[.int .i64 (y : Int), .slice va vn vc]) (by simp [results, Tryz.results43, go_sem, q0, q1]) rfl
      (DrawsTy.mk (t := ⟨(y : Int), t.args⟩) rfl hC ho3 (by omega) (by have := t.size_eq; rw [Ty.size]; omega) (Drew.store hC D3 (q := ⟨w1.heap.size, 0, none⟩) (by simp; omega) _) (by simp [World.setCell]; omega))
  · by_cases z1 : z = 1
    · subst z1
      have g0 : ((1 : Int) == 0) = false := by decide
      obtain ⟨u0, u1⟩ := BX2.two
      obtain ⟨hki, cs, fp, hown, hRC, hge, hap⟩ := ho
      have hvl := hown.lt
      have hXf := RC_lt hRC
      have hown2 : w2.ownsRow (w.heap.size + 1) 26 2 (.slice va vn vc) t.args.length cs := own_fresh (own_fresh (by simpa using hown) (Fresh.of_below (below_new w1 (.cells #[.int .i64 t.kind, .slice va vn vc] 26)))) (d2.fresh (by omega))
      have hRC2 : RC w2 t.args cs fp := RC_keep hRC fun b hb => SameB.of_heap ((d2.block (by have := hXf b hb; simp; omega) (by have := hge b hb; simp at this; omega)).trans (Below.heap_alloc w1 _ b (hXf b hb)))
      obtain ⟨n, hnl⟩ : ∃ n, n = t.args.length := ⟨_, rfl⟩
      rw [← hnl] at hown2
      have hnb : n ≤ 100 := by have := Ty.length_le_sizes t.args; have := Ty.sizes_of_size hs; omega
      have HN := hide hnl
      have HRC := hide hRC2
      have HVL := hide hvl
      have HXF := hide hXf
      have HAP := hide hap
      have HGE := hide hge
      clear hnl hown hRC hRC2 hvl hXf hap hge ho2 hr g0
      go_wp2_with fail
      go_region_law (first
        | (go_simp; go_at_call 45; (with_reducible refine (l3Int_eq _).mono ?_); rintro e w3 ⟨rfl, b3⟩; replace b3 : Below w2.heap.size w2 w3 := below_next (below_drew _) b3; have s3 := b3.size; obtain ⟨y0, y1⟩ := (BX2.under b3).two; obtain ⟨y2, y3⟩ := (BX2.under b3).two_new)
        | (refine step_append_lies _ (by rfl) _ _ _ (by rfl) (w.heap.size + 1) 26 i0 _ 2 32 Tryz.underlying24 hi hz0 hz1 hz2 rfl (by omega) (.slice va vn vc) n cs (by rfl) ((own_below hown2 b3).alloc _) ⟨w3.heap.size, 0, none⟩ 1 1 [.int .i64 1, .slice none 0 0] (by rfl) (by rfl) (World.news_of_block (cs := #[.int .i64 1, .slice none 0 0]) (t := 26) (fr := (0, 0)) (heap_alloc_new w3 _)) (by simp [Value.oneCell']) (by omega) (by unfold maxLen; omega) (by omega) (by simp; omega) (w3.heap.size + 1) (by simp) ?_; intro gg cap' w4 hown4 hgrow hat hlt2
           have BX4 := (BX2.under b3).alloc (.cells #[.int .i64 1, .slice none 0 0] 26)
           have BX5 : Blk w4 w1.heap.size _ _ := BX4.grown hgrow (fun e => by have := (HVL.out _ e.symm).2; omega)
           obtain ⟨y4, y5⟩ := BX5.two
           have x0 := BX5.free 1
           have R5 : Blk w4 w.heap.size _ _ := ((R3.under b3).alloc (.cells #[.int .i64 1, .slice none 0 0] 26)).grown hgrow (fun e => by have := (HVL.out _ e.symm).1; simp at this; omega)
           obtain ⟨q0, q1⟩ := R5.two
           have r0 := R5.free 0
           have r1 := R5.free 1))
      all_goals
        have s4 := hgrow.size
        simp at s4
        have lR5 := R5.lt
        have lX5 := BX5.lt
        have ho4 := OwnTy.snoc (X := w1.heap.size) (k := 1) hki ⟨by omega, by omega⟩ HN.out hown2 HRC.out (fun b hb => by have := HGE.out b hb; simpa using this) HAP.out HXF.out (fun g hg => (HVL.out g hg).2) (by omega) (by omega) b3 hown4 hgrow rfl (by simpa using hat)
        have k4 : Drew p w w4 := Drew.over hC D2 (((b3.mono (by omega)).alloc (by omega) _).grown hgrow (by simp; omega) fun k hk => by have := (HVL.out k hk).1; simp at this; omega)
        go_wp2_with fail
        refine bodyPost_ret (v := .agg #[.int .i64 t.kind, .slice (some ⟨gg, 0, none⟩) (n + 1) cap']) (by simp [results, Tryz.results43, go_sem, q0, q1]) rfl
          (DrawsTy.mk (t := ⟨t.kind, t.args ++ [⟨1, []⟩]⟩) rfl hC (ho4.base (by simp)) (Nat.lt_succ_self _) (by have := t.size_eq; rw [Ty.size, Ty.sizes_append]; simp [Ty.sizes, Ty.size]; omega) (Drew.store hC k4 (q := ⟨w1.heap.size, 1, none⟩) (by simp; omega) _) (by simp [World.setCell]; omega))
    · by_cases z2 : z = 2
      · subst z2
        have g0 : ((2 : Int) == 0) = false := by decide
        have g1 : ((2 : Int) == 1) = false := by decide
        have hrX := (ho.keep2 (w' := w2) fun b hb hl => (d2.block (by simp; omega) (by simp at hb; omega)).trans (Below.heap_alloc w1 _ b hl))
        go_wp2_with fail
        refine (l1Below_any p 6 _ D2.cur (by omega)).mono ?_
        rintro e w3 ⟨y, rfl, y0, -, d3⟩
        have D3 := D2.trans d3
        have y0' : y < 6 := by have := y0 (by omega); omega
        have BX3 : Blk w3 w1.heap.size _ _ := (d3.block BX2.lt (by omega)).trans BX2
        have R4 : Blk w3 w.heap.size _ _ := (d3.block R3.lt (by omega)).trans R3
        have ho3 := (hrX.base (base' := w.heap.size + 1) (by simp)).keep (d3.fresh (by omega))
        have s3 := d3.size
        clear y0 g0 g1 hrX ho2 hr
        go_wp2_with fail
        go_loopw [5] (fun i wr => ∃ k : Nat, k ≤ y + 1 ∧ i = .int .i64 k ∧ (∃ (u : Ty) (a : Option Addr) (n c : Nat), Blk wr w1.heap.size 26 #[.int .i64 u.kind, .slice a n c] ∧ OwnTy (w.heap.size + 1) wr u (.slice a n c) ∧ u.size ≤ 15 + k) ∧ Blk wr w.heap.size 26 #[.int .i64 0, .slice none 0 0] ∧ Drew p w wr) (fun i _ => y + 1 - (intOf i).toNat)
        case atStart => exact ⟨0, by omega, rfl, ⟨t, va, vn, vc, BX3, ho3, by omega⟩, R4, D3⟩
        case round =>
          obtain ⟨k, hk, rfl, ⟨u, ua, un, uc, hX, hou, hsu⟩, hR, hD⟩ := hrel
          obtain ⟨x0, x1⟩ := hX.two
          have hru := hou.rd'
          have lX6 := hX.lt
          have lR6 := hR.lt
          by_cases hkn : k < y + 1
          · have hd : decide ((k : Int) < 1 + (y : Int)) = true := by simp; omega
            go_wp2_with fail
            refine (l3Code_any u _ _ _ hru (by have := Ty.sizes_of_size hsu; omega)).mono ?_
            rintro e w4 ⟨v4, rfl, ho4, b4⟩
            obtain ⟨ga, gn, gc, rfl, -⟩ := ho4.rd
            have hX4 := hX.under b4
            have hR4 := hR.under b4
            have D4 := hD.next b4
            clear x0 x1
            obtain ⟨x0, x1⟩ := hX4.two
            have f0 := hX4.free 0
            have f1 := hX4.free 1
            have s6 := b4.size
            go_wp2_with fail
            go_roundw
            case rel =>
              have hX5 := (hX4.set_ 0 (.int .i64 4)).set_ 1 (.slice ga gn gc)
              refine ⟨k + 1, by omega, by go_num, ⟨⟨4, [u]⟩, ga, gn, gc, by simpa using hX5, (ho4.keep ((Fresh.set_ (p := ⟨w1.heap.size, 0, none⟩) lX6 _).trans (Fresh.set_ (p := ⟨w1.heap.size, 1, none⟩) lX6 _))).base (by omega), ?_⟩,
                (hR4.far (p := ⟨w1.heap.size, 0, none⟩) (by simp; omega) _).far (p := ⟨w1.heap.size, 1, none⟩) (by simp; omega) _, Drew.store hC (Drew.store hC D4 (q := ⟨w1.heap.size, 0, none⟩) (by simp; omega) _) (q := ⟨w1.heap.size, 1, none⟩) (by simp; omega) _⟩
              rw [Ty.size_one]; omega
            case measure => simp [intOf]; omega
          · have hd : decide ((k : Int) < 1 + (y : Int)) = false := by simp; omega
            obtain ⟨q0, q1⟩ := hR.two
            have r0 := hR.free 0
            have r1 := hR.free 1
            go_wp2_with fail
            exact bodyPost_ret (v := .agg #[.int .i64 u.kind, .slice ua un uc]) (by simp [results, Tryz.results43, go_sem, q0, q1]) rfl (DrawsTy.mk (t := u) rfl hC hou (Nat.lt_succ_self _) (by omega) hD hR.lt)
      · have g0 : (z == 0) = false := by simpa using z0
        have g1 : (z == 1) = false := by simpa using z1
        have g2 : (z == 2) = false := by simpa using z2
        have hrX := (ho.keep2 (w' := w2) fun b hb hl => (d2.block (by simp; omega) (by simp at hb; omega)).trans (Below.heap_alloc w1 _ b hl))
        have ho3 := hrX.base (base' := w.heap.size + 1) (by simp)
        clear hrX ho2 hr
        by_cases z3 : z = 3
        · subst z3
          go_wp2_with fail
          clear g0 g1 g2
          go_loopw [6] (fun i wr => ∃ k : Nat, k ≤ 3 ∧ i = .int .i64 k ∧ (∃ (u : Ty) (a : Option Addr) (n c : Nat), Blk wr w1.heap.size 26 #[.int .i64 u.kind, .slice a n c] ∧ OwnTy (w.heap.size + 1) wr u (.slice a n c) ∧ u.size + 1 ≤ 16 * 2 ^ k) ∧ Blk wr w.heap.size 26 #[.int .i64 0, .slice none 0 0] ∧ Drew p w wr) (fun i _ => 3 - (intOf i).toNat)
          case atStart => exact ⟨0, by omega, rfl, ⟨t, va, vn, vc, BX2, ho3, by omega⟩, R3, D2⟩
          case round =>
            obtain ⟨k, hk, rfl, ⟨u, ua, un, uc, hX, hou, hsu⟩, hR, hD⟩ := hrel
            obtain ⟨x0, x1⟩ := hX.two
            have hru := hou.rd'
            have lX6 := hX.lt
            have lR6 := hR.lt
            by_cases hkn : k < 3
            · have hd : decide ((k : Int) < 3) = true := by simp; omega
              go_wp2_with fail
              refine (l3Fun_any u u _ _ _ _ _ hru hru (by have := u.size_eq; rcases (show k = 0 ∨ k = 1 ∨ k = 2 by omega) with rfl | rfl | rfl <;> omega) (by have := u.size_eq; rcases (show k = 0 ∨ k = 1 ∨ k = 2 by omega) with rfl | rfl | rfl <;> omega)).mono ?_
              rintro e w4 ⟨v4, rfl, ho4, b4⟩
              obtain ⟨ga, gn, gc, rfl, -⟩ := ho4.rd
              have hX4 := hX.under b4
              have hR4 := hR.under b4
              have D4 := hD.next b4
              clear x0 x1
              obtain ⟨x0, x1⟩ := hX4.two
              have f0 := hX4.free 0
              have f1 := hX4.free 1
              have s6 := b4.size
              go_wp2_with fail
              go_roundw
              case rel =>
                have hX5 := (hX4.set_ 0 (.int .i64 3)).set_ 1 (.slice ga gn gc)
                refine ⟨k + 1, by omega, by go_num, ⟨⟨3, [u, u]⟩, ga, gn, gc, by simpa using hX5, (ho4.keep ((Fresh.set_ (p := ⟨w1.heap.size, 0, none⟩) lX6 _).trans (Fresh.set_ (p := ⟨w1.heap.size, 1, none⟩) lX6 _))).base (by omega), ?_⟩,
                  (hR4.far (p := ⟨w1.heap.size, 0, none⟩) (by simp; omega) _).far (p := ⟨w1.heap.size, 1, none⟩) (by simp; omega) _, Drew.store hC (Drew.store hC D4 (q := ⟨w1.heap.size, 0, none⟩) (by simp; omega) _) (q := ⟨w1.heap.size, 1, none⟩) (by simp; omega) _⟩
                rw [Ty.size_two]; rcases (show k = 0 ∨ k = 1 ∨ k = 2 by omega) with rfl | rfl | rfl <;> omega
              case measure => simp [intOf]; omega
            · have hd : decide ((k : Int) < 3) = false := by simp; omega
              obtain ⟨q0, q1⟩ := hR.two
              have r0 := hR.free 0
              have r1 := hR.free 1
              go_wp2_with fail
              exact bodyPost_ret (v := .agg #[.int .i64 u.kind, .slice ua un uc]) (by simp [results, Tryz.results43, go_sem, q0, q1]) rfl (DrawsTy.mk (t := u) rfl hC hou (Nat.lt_succ_self _) (by rcases (show k = 3 by omega) with rfl; omega) hD hR.lt)
        · have g3 : (z == 3) = false := by simpa using z3
          obtain ⟨x0', x1'⟩ := BX2.two
          obtain ⟨q0, q1⟩ := R3.two
          have r0 := R3.free 0
          have r1 := R3.free 1
          go_wp2_with fail
          exact bodyPost_ret (v := .agg #[.int .i64 t.kind, .slice va vn vc]) (by simp [results, Tryz.results43, go_sem, q0, q1]) rfl (DrawsTy.mk (t := t) rfl hC ho3 (Nat.lt_succ_self _) (by omega) D2 R3.lt)
end Go.Proofs.YtklifieahcoljaaGreat
