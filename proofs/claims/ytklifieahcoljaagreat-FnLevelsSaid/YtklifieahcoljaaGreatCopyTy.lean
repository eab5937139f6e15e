/-
  Types of a draw: l3Copy, l3Int, l3Code, l3Fun: types in memory of the call's own.
-/
import Derived.Test.YtklifieahcoljaaGreatLaid
import Derived.Test.YtklifieahcoljaaGreatWrote
import Derived.Deep.RegionWith
import Derived.Deep.RegionHeld3
namespace Go.Proofs.YtklifieahcoljaaGreat
open Go.RowKit
set_option maxRecDepth 100000
set_option linter.unusedVariables false
set_option linter.unusedSimpArgs false

set_option maxHeartbeats 1600000 in
theorem l3Copy_of (k : Int) (xs : List Ty) (ih : ∀ t ∈ xs, ∀ (c0 c1 : Value) (w : World), Rd w t c0 c1 → Ty.sizes t.args ≤ 1048576 → Calls Tryz.prog 68 #[.agg #[c0, c1]] w (Copied w t))
    (a : Option Addr) (n cap : Nat) (w : World) (h : Rd w ⟨k, xs⟩ (.int .i64 k) (.slice a n cap)) (hl' : Ty.sizes xs ≤ 1048576)
    (hk : i64 k) (hr : Rds w xs a n cap) :
    Calls Tryz.prog 68 #[.agg #[.int .i64 k, .slice a n cap]] w (Copied w ⟨k, xs⟩) := by
  have IH := hide ih
  clear ih
  have hn : n ≤ 1048576 := by
    have := Ty.length_le_sizes xs
    have h1 : n = xs.length := hr.1
    omega
  obtain ⟨i0, hi, hz0, hz1, hz2⟩ := info_parts Tryz.infoType
  focus
    go_enter Tryz.func68, Tryz.ntmps68
    go_wp2_with fail
    go_loopw [4] (fun i wr => ∃ j : Nat, j ≤ n ∧ i = .int .i64 j ∧ Laid (w.heap.size + 1 + 1) (w.heap.size + 1 + 1 + 1) 26 k (xs.take j) wr ∧ w.heap.size + 1 + 1 + 1 ≤ wr.heap.size ∧ Blk wr w.heap.size 26 #[.int .i64 k, .slice a n cap] ∧ Blk wr (w.heap.size + 1) 26 #[.int .i64 0, .slice none 0 0] ∧ Below w.heap.size w wr) (fun i _ => n - (intOf i).toNat)
    case atStart => exact ⟨0, by omega, rfl, ⟨.slice none 0 0, [], [], Blk.new3 _ _ _ _ _, ⟨by simp, .inl ⟨rfl, by simp⟩⟩, by simp [RC], List.nodup_nil, ⟨by simp, Free.nil _⟩, by simp [Value.ownBlock]⟩, by simp, ((Blk.new w _ _).alloc _).alloc _, (Blk.new2 w _ _ _).alloc _, (by repeat (first | exact Below.refl _ _ | assumption | refine Below.drew ?_ | refine below_drewN ?_ _ | refine Below.alloc ?_ (by first | omega | (simp; done) | (simp; omega)) _ | refine Below.setCell ?_ (by first | omega | (simp; done) | (simp; omega)) _))⟩
    case round =>
      obtain ⟨j, hj, rfl, hL, hsb, hB, hB1, hb⟩ := hrel
      have hsz := hb.size
      by_cases hjn : j < n
      · have hjx : j < xs.length := by rw [← hr.1]; exact hjn
        obtain ⟨b, off, e0, e1, rfl, hlt, q0, q1, hd⟩ := (hr.below hb).get j hjx
        obtain ⟨v, cs, fp, hB3, hown, hRC, hnd, hOwn, hap⟩ := hL
        have hlen : (xs.take j).length = j := by rw [List.length_take]; omega
        rw [hlen] at hown
        have hlen := hide hlen
        have hsz1 : Ty.sizes xs[j].args ≤ 1048576 := by
          have h1 := Ty.sizes_take xs j hjx
          have h2 := Ty.sizes_take_le xs (j + 1)
          omega
        obtain ⟨u0, u1⟩ := hB.two
        obtain ⟨s0, s1⟩ := hB3.two
        go_wp2_with fail
        go_region_law (first
          | (go_simp; go_at_call 68; (with_reducible refine (IH.out _ (List.getElem_mem hjx) _ _ _ (hd.below (below_drew _)) hsz1).mono ?_); rintro e w1 ⟨d0, d1, f, rfl, hR1, hnd1, hO1, b1⟩; replace b1 : Below wr.heap.size wr w1 := below_next (below_drew _) b1; have s1 := b1.size; have y1 := (hB3.under b1).two.2; have y2 := (hB3.under b1).two_new.2; obtain ⟨xa, xn, xc, rfl, rfl, -, -⟩ := hR1.rd.shape)
          | (refine step_append_lies _ (by rfl) _ _ _ (by rfl) (w.heap.size + 1 + 1 + 1) 26 i0 _ 2 32 Tryz.underlying24 hi hz0 hz1 hz2 rfl (by omega) v j cs (by rfl) ((own_below hown b1).alloc _) ⟨w1.heap.size, 0, none⟩ 1 1 [.int .i64 xs[j].kind, .slice xa xn xc] (by rfl) (by rfl) (World.news_of_block (cs := #[.int .i64 xs[j].kind, .slice xa xn xc]) (t := 26) (fr := (0, 0)) (heap_alloc_new w1 _)) (by simp [Value.oneCell']) (by omega) (by unfold maxLen; omega) (by omega) (by simp; omega) (w1.heap.size + 1) (by simp) ?_; intro gg cap' w2 hown2 hgrow hat hlt2
             have hB4 := laid_box hB3 hown (by omega) b1 hgrow
             have z0 := hB4.two.2
             have z1 := hB4.free 1))
        all_goals
          go_wp2_with fail
          go_roundw
          case rel =>
            have hB5 := hB.under b1
            refine ⟨j + 1, by omega, by go_num, ?_, ?_, ?_, ?_, ?_⟩
            · rw [take_snoc xs j hjx]
              exact laid_step hlen.out.symm hB3 hown hRC hnd hOwn hap (by omega) hsb b1 hR1 hnd1 hO1 hown2 hgrow rfl (by simpa using hat)
            · have := hgrow.size
              simp at this ⊢
              omega
            · exact laid_keep hB hown (by omega) (by omega) b1 hgrow
            · exact laid_keep hB1 hown (by omega) (by omega) b1 hgrow
            · exact laid_below hb hown (by omega) (by omega) hsz b1 hgrow
          case measure => simp [intOf]; omega
      · have hx1 : n = xs.length := hr.1
        rw [List.take_of_length_le (by omega)] at hL
        obtain ⟨ra, rn, rc, fp, hB3, hT, hnd, hOwn⟩ := laid_RT hL hk
        clear hL
        obtain ⟨u0, u1⟩ := hB.two
        obtain ⟨s0, s1⟩ := hB3.two
        obtain ⟨y0, y1⟩ := hB1.two
        have z0 := hB1.free 0
        have z1 := hB1.free 1
        go_wp2_with fail
        have far : ∀ x ∈ fp, SameB wr ((wr.setCell ⟨w.heap.size + 1, 0, none⟩ (.int .i64 k)).setCell ⟨w.heap.size + 1, 1, none⟩ (.slice ra rn rc)) x := fun x hx => by
          have := hOwn.1 x hx
          exact (same_set (p := ⟨w.heap.size + 1, 0, none⟩) (by simp; omega) _).trans (same_set (p := ⟨w.heap.size + 1, 1, none⟩) (by simp; omega) _)
        refine bodyPost_ret (v := .agg #[.int .i64 k, .slice ra rn rc]) (by simp [results, Tryz.results68, go_sem, y0, y1]) rfl ⟨_, _, fp, rfl, RT.keep _ _ _ _ hT far, hnd, ⟨fun x hx => by have := hOwn.1 x hx; omega, (hOwn.2.set_ _ _).set_ _ _⟩, ?_⟩
        exact (hb.setCell (p := ⟨w.heap.size + 1, 0, none⟩) (by simp) _).setCell (p := ⟨w.heap.size + 1, 1, none⟩) (by simp) _

set_option maxHeartbeats 400000 in
theorem l3Copy_any (t : Ty) : ∀ (c0 c1 : Value) (w : World), Rd w t c0 c1 → Ty.sizes t.args ≤ 1048576 → Calls Tryz.prog 68 #[.agg #[c0, c1]] w (Copied w t) := by
  induction t using Ty.ind with | h k xs ih => ?_
  intro c0 c1 w h hl
  obtain ⟨a, n, cap, rfl, rfl, hk, hr⟩ := h.shape
  exact l3Copy_of k xs ih a n cap w h hl hk hr

/-- From block 'base' on nothing old has turned. -/
def Fresh (base : Nat) (w w' : World) : Prop := w.heap.size ≤ w'.heap.size ∧ ∀ b, base ≤ b → b < w.heap.size → w'.heap[b]? = w.heap[b]?
theorem Fresh.of_below {base : Nat} {w w' : World} (h : Below w.heap.size w w') : Fresh base w w' := ⟨h.size, fun b _ hb => h.block b hb⟩
theorem Fresh.trans {base : Nat} {a b c : World} (h : Fresh base a b) (k : Fresh base b c) : Fresh base a c := ⟨Nat.le_trans h.1 k.1, fun x hx hl => (k.2 x hx (Nat.lt_of_lt_of_le hl h.1)).trans (h.2 x hx hl)⟩
theorem Fresh.mono {base base' : Nat} {a b : World} (h : Fresh base a b) (hb : base ≤ base') : Fresh base' a b := ⟨h.1, fun x hx hl => h.2 x (Nat.le_trans hb hx) hl⟩
theorem Fresh.set_ {base : Nat} {w : World} {p : Addr} (hp : p.block < base) (u : Value) : Fresh base w (w.setCell p u) :=
  ⟨by simp [World.setCell], fun b hb _ => Below.heap_setCell w p u b (by omega)⟩
/-- The second cell of a type of one's own: its parts in a row of one's own, whatever they hold from 'base' on. -/
def OwnTy (base : Nat) (w : World) (t : Ty) (v : Value) : Prop := i64 t.kind ∧ ∃ cs fp, w.ownsRow base 26 2 v t.args.length cs ∧ RC w t.args cs fp ∧ (∀ b ∈ fp, base ≤ b) ∧ ∀ g, v.ownBlock = some g → g ∉ fp
theorem own_fresh {base T size n : Nat} {w w' : World} {v : Value} {cs : List Value} (h : w.ownsRow base T size v n cs) (hk : Fresh base w w') : w'.ownsRow base T size v n cs := by
  refine ⟨h.1, ?_⟩
  rcases h.2 with hn | ⟨g, cap, cur, rfl, hg, hh, r⟩
  · exact .inl hn
  · exact .inr ⟨g, cap, cur, rfl, hg, (hk.2 g hg (Array.getElem?_eq_some_iff.1 hh).1).trans hh, r⟩
theorem OwnTy.keep {base : Nat} {w w' : World} {t : Ty} {v : Value} (h : OwnTy base w t v) (hk : Fresh base w w') : OwnTy base w' t v := by
  obtain ⟨hi, cs, fp, hown, hRC, hge, hap⟩ := h
  exact ⟨hi, cs, fp, own_fresh hown hk, RC_keep hRC fun b hb => SameB.of_heap (hk.2 b (hge b hb) (RC_lt hRC b hb)), hge, hap⟩
theorem OwnTy.base {base base' : Nat} {w : World} {t : Ty} {v : Value} (h : OwnTy base w t v) (hb : base' ≤ base) : OwnTy base' w t v := by
  obtain ⟨hi, cs, fp, hown, hRC, hge, hap⟩ := h
  refine ⟨hi, cs, fp, ⟨hown.1, ?_⟩, hRC, fun b hb' => Nat.le_trans hb (hge b hb'), hap⟩
  rcases hown.2 with hn | ⟨g, cap, cur, rfl, hg, hh, r⟩
  · exact .inl hn
  · exact .inr ⟨g, cap, cur, rfl, Nat.le_trans hb hg, hh, r⟩
theorem OwnTy.rd {base : Nat} {w : World} {t : Ty} {v : Value} (h : OwnTy base w t v) : ∃ a n c, v = .slice a n c ∧ Rd w t (.int .i64 t.kind) (.slice a n c) := by
  obtain ⟨k, ts⟩ := t
  obtain ⟨hi, cs, fp, hown, hRC, hge, hap⟩ := h
  rcases hown.2 with ⟨rfl, hn⟩ | ⟨g, cap, cur, rfl, hg, hh, hle, hm, hsz, htk⟩
  · have : ts = [] := List.length_eq_zero_iff.1 hn
    subst this
    exact ⟨none, 0, 0, rfl, Rd.mk hi ⟨rfl, Nat.le_refl _, by simp, .inl rfl⟩⟩
  · have hR : RTs w ts g 0 fp := RC_rts hRC fun j u hu => by
      have := hown.cells (g := g) rfl j u hu
      simpa [Addr.add_lit] using this
    refine ⟨_, _, _, rfl, Rd.mk hi ⟨rfl, hle, hm, ?_⟩⟩
    by_cases hx : ts = []
    · exact .inl hx
    · exact .inr ⟨hx, g, 0, fp, rfl, hR⟩
/-- No parts. -/
theorem OwnTy.nil (base : Nat) (w : World) (k : Int) (hk : i64 k) : OwnTy base w ⟨k, []⟩ (.slice none 0 0) :=
  ⟨hk, [], [], ⟨rfl, .inl ⟨rfl, rfl⟩⟩, ⟨rfl, rfl⟩, by simp, by simp [Value.ownBlock]⟩
/-- Another kind. -/
theorem OwnTy.kind {base : Nat} {w : World} {t : Ty} {v : Value} (h : OwnTy base w t v) {k : Int} (hk : i64 k) : OwnTy base w ⟨k, t.args⟩ v := ⟨hk, h.2⟩
/-- A slice written out, behind stores that leave the rest alone. -/
theorem OwnTy.lit {base n : Nat} {w1 W' : World} {k : Int} {ts : List Ty} {cs : List Value} {fp : List Nat} (hk : i64 k) (hF : Fresh base w1 W') (hsz : W'.heap.size = w1.heap.size) (hbs : base ≤ w1.heap.size) (hRC : RC w1 ts cs fp) (hge : ∀ b ∈ fp, base ≤ b)
    (hn : n = ts.length) (hm : n ≤ maxLen) : OwnTy base (W'.alloc (.cells cs.toArray 26)) ⟨k, ts⟩ (.slice (some ⟨w1.heap.size, 0, none⟩) n n) := by
  have hlt := RC_lt hRC
  have hcl := RC_len hRC
  subst hn
  refine ⟨hk, cs, fp, ⟨hcl, .inr ⟨w1.heap.size, ts.length, cs.toArray, rfl, hbs, ?_, Nat.le_refl _, hm, by simp [hcl], List.take_of_length_le (by simp [hcl])⟩⟩, RC_keep hRC fun b hb => SameB.of_heap ?_, hge, fun g hg hin => ?_⟩
  · have := heap_alloc_new W' (.cells cs.toArray 26)
    rw [hsz] at this
    exact this
  · rw [Below.heap_alloc _ _ _ (by rw [hsz]; exact hlt b hb)]
    exact hF.2 b (hge b hb) (hlt b hb)
  · have h1 : w1.heap.size = g := by simpa [Value.ownBlock] using hg
    have := hlt g hin
    omega
/-- What a call gives that makes a type. -/
def GivesTy (w : World) (t : Ty) (e : Ending) (w' : World) : Prop := ∃ v, e = .returned (.agg #[.int .i64 t.kind, v]) ∧ OwnTy w.heap.size w' t v ∧ Below w.heap.size w w'

theorem l3Int_eq (w : World) : Calls Tryz.prog 45 #[] w fun e w' => e = .returned (.agg #[.int .i64 1, .slice none 0 0]) ∧ Below w.heap.size w w' := by
  go_enter Tryz.func45, Tryz.ntmps45
  go_wp2_with fail
  exact bodyPost_ret (v := .agg #[.int .i64 1, .slice none 0 0]) (by simp [results, Tryz.results45, go_sem]) rfl ⟨rfl, below_new _ _⟩
theorem l3Int_any (w : World) : Calls Tryz.prog 45 #[] w (GivesTy w ⟨1, []⟩) := (l3Int_eq w).mono fun e w' ⟨he, hb⟩ => ⟨_, he, OwnTy.nil _ _ _ ⟨by omega, by omega⟩, hb⟩
set_option maxHeartbeats 800000 in
theorem l3Code_any (t : Ty) (c0 c1 : Value) (w : World) (h : Rd w t c0 c1) (hl : Ty.sizes t.args ≤ 1048576) : Calls Tryz.prog 47 #[.agg #[c0, c1]] w (GivesTy w ⟨4, [t]⟩) := by
  go_enter Tryz.func47, Tryz.ntmps47
  go_wp2_with fail
  refine (l3Copy_any t _ _ _ (h.below (by repeat (first | exact Below.refl _ _ | assumption | refine Below.drew ?_ | refine below_drewN ?_ _ | refine Below.alloc ?_ (by first | omega | (simp; done) | (simp; omega)) _ | refine Below.setCell ?_ (by first | omega | (simp; done) | (simp; omega)) _))) hl).mono ?_
  rintro e w1 ⟨d0, d1, f, rfl, hR, hnd, hO, b1⟩
  obtain ⟨xa, xn, xc, rfl, rfl, -, -⟩ := hR.rd.shape
  have B1 := (Blk.new2 w (.cells #[c0, c1] 26) 26 #[.int .i64 0, .slice none 0 0]).under b1
  obtain ⟨q0, q1⟩ := B1.two
  obtain ⟨y0, y1⟩ := B1.two_new
  have x0 := B1.free 0
  have x1 := B1.free 1
  have k1 : Below w.heap.size w w1 := below_of_alloc (below_of_alloc b1)
  have hge : ∀ b ∈ f, w.heap.size + 1 + 1 ≤ b := fun b hb => by have := hO.1 b hb; simp at this; omega
  have hlt := RT.lt _ _ _ _ hR
  have hs1 := B1.lt
  go_wp2_with fail
  have hF : Fresh (w.heap.size + 1 + 1) w1 ((w1.setCell ⟨w.heap.size + 1, 0, none⟩ (.int .i64 4)).setCell ⟨w.heap.size + 1, 1, none⟩ (.slice (some ⟨w1.heap.size, 0, none⟩) 1 1)) :=
    (Fresh.set_ (p := ⟨w.heap.size + 1, 0, none⟩) (by simp) _).trans (Fresh.set_ (p := ⟨w.heap.size + 1, 1, none⟩) (by simp) _)
  have hown : OwnTy (w.heap.size + 1 + 1) _ ⟨4, [t]⟩ (.slice (some ⟨w1.heap.size, 0, none⟩) 1 1) := OwnTy.lit (k := 4) (ts := [t]) (cs := [.int .i64 t.kind, .slice xa xn xc]) (fp := f) ⟨by simp, by simp⟩ hF (by simp [World.setCell]) (by omega) ⟨_, _, [], f, [], rfl, by simp, hR, rfl, rfl⟩ hge rfl (by unfold maxLen; omega)
  have kf := ((k1.setCell (p := ⟨w.heap.size + 1, 0, none⟩) (by simp) (.int .i64 4)).setCell (p := ⟨w.heap.size + 1, 1, none⟩) (by simp) (.slice (some ⟨w1.heap.size, 0, none⟩) 1 1)).alloc (by simp [World.setCell]; omega) (.cells #[.int .i64 t.kind, .slice xa xn xc] 26)
  refine bodyPost_ret (v := .agg #[.int .i64 4, .slice (some ⟨w1.heap.size, 0, none⟩) 1 1]) ?_ rfl ⟨_, rfl, hown.base (by omega), kf⟩
  simp [results, Tryz.results47, go_sem, q0, q1, hs1]
set_option maxHeartbeats 1600000 in
theorem l3Fun_any (t u : Ty) (c0 c1 e0 e1 : Value) (w : World) (h : Rd w t c0 c1) (h' : Rd w u e0 e1) (hl : Ty.sizes t.args ≤ 1048576) (hl' : Ty.sizes u.args ≤ 1048576) :
    Calls Tryz.prog 48 #[.agg #[c0, c1], .agg #[e0, e1]] w (GivesTy w ⟨3, [t, u]⟩) := by
  have B0 := ((Blk.new w 26 #[c0, c1]).alloc (.cells #[e0, e1] 26)).alloc (.cells #[.int .i64 0, .slice none 0 0] 26)
  have B1 := (Blk.new2 w (.cells #[c0, c1] 26) 26 #[e0, e1]).alloc (.cells #[.int .i64 0, .slice none 0 0] 26)
  have B2 := Blk.new3 w (.cells #[c0, c1] 26) (.cells #[e0, e1] 26) 26 #[.int .i64 0, .slice none 0 0]
  have k0 : Below w.heap.size w (((w.alloc (.cells #[c0, c1] 26)).alloc (.cells #[e0, e1] 26)).alloc (.cells #[.int .i64 0, .slice none 0 0] 26)) := (by repeat (first | exact Below.refl _ _ | assumption | refine Below.drew ?_ | refine below_drewN ?_ _ | refine Below.alloc ?_ (by first | omega | (simp; done) | (simp; omega)) _ | refine Below.setCell ?_ (by first | omega | (simp; done) | (simp; omega)) _))
  generalize hW : ((w.alloc (.cells #[c0, c1] 26)).alloc (.cells #[e0, e1] 26)).alloc (.cells #[.int .i64 0, .slice none 0 0] 26) = W at B0 B1 B2 k0
  have hT : Rd W t c0 c1 := h.below k0
  have hU : Rd W u e0 e1 := h'.below k0
  have HW := hide hW
  have hsW : W.heap.size = w.heap.size + 1 + 1 + 1 := by rw [← hW]; simp
  clear hW
  have HB0 := hide B0
  have HB1 := hide B1
  have HB2 := hide B2
  go_enter Tryz.func48, Tryz.ntmps48
  go_wp2_with fail
  rw [HW.out]
  obtain ⟨u0, u1⟩ := B0.two
  obtain ⟨v0, v1⟩ := B1.two
  go_region_law (first
    | (go_simp; go_at_call 68; (with_reducible refine (l3Copy_any t c0 c1 _ (hT.below (below_drew _)) hl).mono ?_); rintro e w1 ⟨d0, d1, f, rfl, hR, hnd, hO, b1⟩; replace hO : Own W.heap.size w1 f := hO; replace b1 : Below W.heap.size W w1 := below_next (below_drew _) b1; obtain ⟨xa, xn, xc, rfl, rfl, -, -⟩ := hR.rd.shape; obtain ⟨v2, v3⟩ := (HB1.out.under b1).two; have hU1 := hU.below b1)
    | (go_simp; go_at_call 68; (with_reducible refine (l3Copy_any u e0 e1 _ hU1 hl').mono ?_); rintro e w2 ⟨p0, p1, f2, rfl, hR2, hnd2, hO2, b2⟩; obtain ⟨ya, yn, yc, rfl, rfl, -, -⟩ := hR2.rd.shape; have B3 := (HB2.out.under b1).under b2; obtain ⟨q0, q1⟩ := B3.two; obtain ⟨y0, y1⟩ := B3.two_new; have x0 := B3.free 0; have x1 := B3.free 1; have hs3 := B3.lt))
  all_goals
    have s1 := b1.size
    have s2 := b2.size
    have k2 : Below w.heap.size w w2 := k0.trans ((below_next b1 b2).mono k0.size)
    have hlt := RT.lt _ _ _ _ hR
    have hlt2 := RT.lt _ _ _ _ hR2
    have hR3 := RT.below hR b2
    go_wp2_with fail
    have hF : Fresh W.heap.size w2 ((w2.setCell ⟨w.heap.size + 1 + 1, 0, none⟩ (.int .i64 3)).setCell ⟨w.heap.size + 1 + 1, 1, none⟩ (.slice (some ⟨w2.heap.size, 0, none⟩) 2 2)) :=
      (Fresh.set_ (p := ⟨w.heap.size + 1 + 1, 0, none⟩) (by simp; omega) _).trans (Fresh.set_ (p := ⟨w.heap.size + 1 + 1, 1, none⟩) (by simp; omega) _)
    have hown : OwnTy W.heap.size _ ⟨3, [t, u]⟩ (.slice (some ⟨w2.heap.size, 0, none⟩) 2 2) := OwnTy.lit (k := 3) (ts := [t, u]) (cs := [.int .i64 t.kind, .slice xa xn xc, .int .i64 u.kind, .slice ya yn yc]) (fp := f ++ f2) ⟨by simp, by simp⟩ hF (by simp [World.setCell]) (by omega)
      ⟨_, _, _, f, f2, rfl, rfl, hR3, _, _, [], f2, [], rfl, by simp, hR2, rfl, rfl⟩ (fun b hb => (List.mem_append.1 hb).elim (hO.1 b) fun h => Nat.le_trans s1 (hO2.1 b h)) rfl (by unfold maxLen; omega)
    have kf := ((k2.setCell (p := ⟨w.heap.size + 1 + 1, 0, none⟩) (by simp; omega) (.int .i64 3)).setCell (p := ⟨w.heap.size + 1 + 1, 1, none⟩) (by simp; omega) (.slice (some ⟨w2.heap.size, 0, none⟩) 2 2)).alloc (by simp [World.setCell]; omega) (.cells #[.int .i64 t.kind, .slice xa xn xc, .int .i64 u.kind, .slice ya yn yc] 26)
    refine bodyPost_ret (v := .agg #[.int .i64 3, .slice (some ⟨w2.heap.size, 0, none⟩) 2 2]) ?_ rfl ⟨_, rfl, hown.base (by omega), kf⟩
    simp [results, Tryz.results48, go_sem, q0, q1, hs3]
end Go.Proofs.YtklifieahcoljaaGreat
