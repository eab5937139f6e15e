/-
  The walks of l9Small, l9Most, l9Pick: small terms of a type.
-/
import Derived.Test.YtklifieahcoljaaGreatNodeM
import Derived.Test.YtklifieahcoljaaGreatDrawV
import Derived.Test.YtklifieahcoljaaGreatValTy0
import Derived.Deep.RegionLaw
namespace Go.Proofs.YtklifieahcoljaaGreat
open Go.RowKit
set_option maxRecDepth 100000
set_option linter.unusedVariables false
set_option linter.unusedSimpArgs false

/-- A type that lies in blocks from 'base' on, whichever. -/
def TyA (base : Nat) (w : World) (t : Ty) (a : Option Addr) (n c : Nat) : Prop := ∃ fp, TyAt base w t a n c fp
theorem TyA.rd {base : Nat} {w : World} {t : Ty} {a : Option Addr} {n c : Nat} (h : TyA base w t a n c) : Rd w t (.int .i64 t.kind) (.slice a n c) := by
  obtain ⟨fp, h⟩ := h
  exact ⟨fp, h.1⟩
theorem TyA.keep {base : Nat} {w w' : World} {t : Ty} {a : Option Addr} {n c : Nat} (h : TyA base w t a n c) (hk : Fresh base w w') : TyA base w' t a n c := by
  obtain ⟨fp, h⟩ := h
  exact ⟨fp, h.fresh hk⟩
theorem TyA.of_own {base : Nat} {w : World} {t : Ty} {a : Option Addr} {n c : Nat} (h : OwnTy base w t (.slice a n c)) : TyA base w t a n c := h.tyAt
theorem TyA.base {base base' : Nat} {w : World} {t : Ty} {a : Option Addr} {n c : Nat} (h : TyA base w t a n c) (hb : base' ≤ base) : TyA base' w t a n c := by
  obtain ⟨fp, h⟩ := h
  exact ⟨fp, h.1, fun b hb' => Nat.le_trans hb (h.2 b hb')⟩
theorem TyA.len {base : Nat} {w : World} {t : Ty} {a : Option Addr} {n c : Nat} (h : TyA base w t a n c) : n = t.args.length := by
  obtain ⟨fp, h, -⟩ := h
  obtain ⟨k, xs⟩ := t
  rw [RT] at h
  obtain ⟨-, -, a2, cap, h1, -⟩ := h
  injection h1 with q1 q2 q3
/-- The parts of a type that lies from 'base' on lie there too. -/
theorem TyA.get {base : Nat} {w : World} {t : Ty} {a : Option Addr} {n c : Nat} (h : TyA base w t a n c) (i : Nat) (hi : i < t.args.length) :
    ∃ b off a' n' c', a = some ⟨b, off, none⟩ ∧ base ≤ b ∧ b < w.heap.size ∧ w.cell? ⟨b, off + i * 2, none⟩ = some (.int .i64 t.args[i].kind) ∧ w.cell? ⟨b, off + i * 2 + 1, none⟩ = some (.slice a' n' c') ∧ TyA base w t.args[i] a' n' c' := by
  obtain ⟨fp, h, hge⟩ := h
  obtain ⟨k, xs⟩ := t
  rw [RT] at h
  obtain ⟨-, hk, a2, cap, h1, hl, hm, h⟩ := h
  injection h1 with q1 q2 q3
  subst q1 q2 q3
  rcases h with ⟨rfl, _⟩ | ⟨hne, b, off, fps, rfl, rfl, hs⟩
  · simp at hi
  · obtain ⟨e0, e1, f, q0, q1, hT, hsub⟩ := RTs_get hs i hi
    obtain ⟨a', n', c', rfl, rfl, -, -⟩ := hT.rd.shape
    exact ⟨b, off, a', n', c', rfl, hge b (by simp), lt_of_cell q0, q0, q1, f, hT, fun x hx => hge x (by simp [hsub x hx])⟩
theorem OwnM.wrap {base : Nat} {w : World} {t : Tm} {l : Lt} (h : OwnM base w t l) (hb : base ≤ w.heap.size) (k : Int) (hk : i64 k) :
    OwnM base (w.alloc (.cells #[.int .i64 t.kind, .string t.name, .string t.other, .int .i64 t.n, .int .i64 t.type.kind, .slice l.ta l.tn l.tc, .int .i64 t.res.kind, .slice l.ra l.rn l.rc, .slice l.aa l.an l.ac] 29)) (wrapM k t) (wrapL w.heap.size) := by
  obtain ⟨fp, hR, hfp⟩ := h.rm
  have hl := RM.lt _ _ _ hR
  refine ⟨⟨hk, by simp [wrapM, i64], Nat.zero_le _, Nat.zero_le _⟩, tcells t l, [], [], fp, TyAt.nil _ _ _ ⟨by omega, by omega⟩, TyAt.nil _ _ _ ⟨by omega, by omega⟩, ?_, ?_, hfp, fun g hg => ?_⟩
  · exact ⟨rfl, .inr ⟨w.heap.size, 1, #[.int .i64 t.kind, .string t.name, .string t.other, .int .i64 t.n, .int .i64 t.type.kind, .slice l.ta l.tn l.tc, .int .i64 t.res.kind, .slice l.ra l.rn l.rc, .slice l.aa l.an l.ac], rfl, hb, heap_alloc_new w _, by simp [wrapM], by unfold maxLen; omega, rfl, rfl⟩⟩
  · exact ⟨l, [], fp, [], by simp, by simp, RM.keep _ _ _ hR fun b hb => SameB.of_heap (Below.heap_alloc _ _ _ (hl b hb)), rfl, rfl⟩
  · have e : w.heap.size = g := Option.some.inj hg
    subst e
    exact ⟨by simp, by simp, fun hin => by have := hl _ hin; omega⟩
theorem OwnM.keep2' {base : Nat} {w w' : World} {t : Tm} {l : Lt} (h : OwnM base w t l) (hk : ∀ b, base ≤ b → b < w.heap.size → w'.heap[b]? = w.heap[b]?) : OwnM base w' t l := by
  obtain ⟨hi, cs, f1, f2, f3, h1, h2, hown, h3, hge, hap⟩ := h
  refine ⟨hi, cs, f1, f2, f3, ⟨RT.keep _ _ _ _ h1.1 fun b hb => SameB.of_heap (hk b (h1.2 b hb) (RT.lt _ _ _ _ h1.1 b hb)), h1.2⟩, ⟨RT.keep _ _ _ _ h2.1 fun b hb => SameB.of_heap (hk b (h2.2 b hb) (RT.lt _ _ _ _ h2.1 b hb)), h2.2⟩, ⟨hown.1, ?_⟩,
    RCM_keep h3 fun b hb => SameB.of_heap (hk b (hge b hb) (RCM_lt h3 b hb)), hge, hap⟩
  rcases hown.2 with hn | ⟨g, cap, cur, hv, hg, hh, r⟩
  · exact .inl hn
  · exact .inr ⟨g, cap, cur, hv, hg, (hk g hg (Array.getElem?_eq_some_iff.1 hh).1).trans hh, r⟩
theorem lamM_wt (nm : ByteArray) (u : Ty) (t : Tm) : Tm.wt { nodeM 6 [t] with name := nm, type := u } = nm.size + Ty.sizes u.args + (1 + t.wt) := by
  rw [Tm.wt_eq]
  show nm.size + (ByteArray.mk #[]).size + Ty.sizes u.args + Ty.sizes ty0.args + Tm.wts [t] = _
  rw [Tm.wts, Tm.wts, ty0, Ty.sizes]
  have : (ByteArray.mk #[]).size = 0 := rfl
  omega

/-- What a call gives that makes a term, its weight at most N. -/
def GivesW (w : World) (N : Nat) (e : Ending) (w' : World) : Prop := ∃ (t : Tm) (l : Lt), e = .returned (.agg #[.int .i64 t.kind, .string t.name, .string t.other, .int .i64 t.n, .int .i64 t.type.kind, .slice l.ta l.tn l.tc, .int .i64 t.res.kind, .slice l.ra l.rn l.rc, .slice l.aa l.an l.ac]) ∧ OwnM w.heap.size w' t l ∧ t.wt ≤ N ∧ Below w.heap.size w w'
theorem GivesM.w {w w' : World} {t : Tm} {e : Ending} {N : Nat} (h : GivesM w t e w') (hN : t.wt ≤ N) : GivesW w N e w' := by
  obtain ⟨l, he, ho, hb⟩ := h
  exact ⟨t, l, he, ho, hN, hb⟩
set_option maxHeartbeats 6400000 in
theorem l9Small_any (p : Nat) (t : Ty) : ∀ (base : Nat) (a : Option Addr) (n c : Nat) (m : Int) (w : World), Cur w p → p < base → base ≤ w.heap.size → TyA base w t a n c → t.all Ty.formed = true → t.size ≤ 1000 → -1000000 ≤ m → m + t.size ≤ 1000000 →
    Calls Tryz.prog 70 #[.pointer (some ⟨p, 0, none⟩), .agg #[.int .i64 t.kind, .slice a n c], .int .i64 m] w (DrawsM p (4 * t.size) w) := by
  induction t using Ty.ind with | h k xs ih => ?_
  intro base a n c m w hC hpb hbw hT hf hz hm0 hm1
  have IH := hide ih
  clear ih
  have hlt := hC.lt
  rw [Ty.all_eq, Bool.and_eq_true] at hf
  obtain ⟨hf1, hf2⟩ := hf
  have T0 := (Blk.new w 26 #[.int .i64 k, .slice a n c]).alloc (.cells #[.int .i64 0, .string ⟨#[]⟩, .string ⟨#[]⟩, .int .i64 0, .int .i64 0, .slice none 0 0, .int .i64 0, .slice none 0 0, .slice none 0 0] 29)
  have B0 := Blk.new2 w (.cells #[.int .i64 k, .slice a n c] 26) 29 #[.int .i64 0, .string ⟨#[]⟩, .string ⟨#[]⟩, .int .i64 0, .int .i64 0, .slice none 0 0, .int .i64 0, .slice none 0 0, .slice none 0 0]
  have d0 := (Drew.alloc hC (.cells #[.int .i64 k, .slice a n c] 26)).trans (Drew.alloc (Drew.alloc hC (.cells #[.int .i64 k, .slice a n c] 26)).cur (.cells #[.int .i64 0, .string ⟨#[]⟩, .string ⟨#[]⟩, .int .i64 0, .int .i64 0, .slice none 0 0, .int .i64 0, .slice none 0 0, .slice none 0 0] 29))
  have s0 : ((w.alloc (.cells #[.int .i64 k, .slice a n c] 26)).alloc (.cells #[.int .i64 0, .string ⟨#[]⟩, .string ⟨#[]⟩, .int .i64 0, .int .i64 0, .slice none 0 0, .int .i64 0, .slice none 0 0, .slice none 0 0] 29)).heap.size = w.heap.size + 1 + 1 := by simp
  have hT0 := hT.keep (d0.fresh hpb)
  have hkk : i64 k := by
    obtain ⟨fp, h, -⟩ := hT
    rw [RT] at h
    exact h.2.1
  by_cases k1 : k = 1
  · subst k1
    clear hf1 hf2 IH
    go_enter Tryz.func70, Tryz.ntmps70
    go_wp2_with fail
    refine (l1Below_any p 4 _ d0.cur (by omega)).mono ?_
    rintro e w1 ⟨z, rfl, hz0, hz1, d1⟩
    have D1 := d0.trans d1
    have B1 : Blk w1 (w.heap.size + 1) _ _ := (d1.block B0.lt (by omega)).trans B0
    go_wp2_with fail
    refine (l5Int_eq (z : Int) w1).mono ?_
    rintro e w3 ⟨rfl, b3⟩
    have B4 := B1.under b3
    have D4 := D1.next b3
    obtain ⟨q0, q1, q2, q3, q4, q5, q6, q7, q8⟩ : _ ∧ _ ∧ _ ∧ _ ∧ _ ∧ _ ∧ _ ∧ _ ∧ _ := ⟨B4.cell 0, B4.cell 1, B4.cell 2, B4.cell 3, B4.cell 4, B4.cell 5, B4.cell 6, B4.cell 7, B4.cell 8⟩
    simp at q0 q1 q2 q3 q4 q5 q6 q7 q8
    obtain ⟨z0, z1, z2, z3, z4, z5, z6, z7, z8⟩ : _ ∧ _ ∧ _ ∧ _ ∧ _ ∧ _ ∧ _ ∧ _ ∧ _ := ⟨B4.free 0, B4.free 1, B4.free 2, B4.free 3, B4.free 4, B4.free 5, B4.free 6, B4.free 7, B4.free 8⟩
    go_wp2_with fail
    obtain ⟨W, hW⟩ : ∃ W, W = putAt w3 (w.heap.size + 1) 0 (tcells (leafM 2 (z : Int) ⟨#[]⟩) lt0) := ⟨_, rfl⟩
    have HB := (put_box B4 rfl (leafM 2 (z : Int) ⟨#[]⟩) lt0).nine
    have HD : DrawsM p (4 * Ty.size ⟨1, xs⟩) w (.returned (.agg #[.int .i64 (leafM 2 (z : Int) ⟨#[]⟩).kind, .string (leafM 2 (z : Int) ⟨#[]⟩).name, .string (leafM 2 (z : Int) ⟨#[]⟩).other, .int .i64 (leafM 2 (z : Int) ⟨#[]⟩).n, .int .i64 (leafM 2 (z : Int) ⟨#[]⟩).type.kind, .slice lt0.ta lt0.tn lt0.tc, .int .i64 (leafM 2 (z : Int) ⟨#[]⟩).res.kind, .slice lt0.ra lt0.rn lt0.rc, .slice lt0.aa lt0.an lt0.ac])) (putAt w3 (w.heap.size + 1) 0 (tcells (leafM 2 (z : Int) ⟨#[]⟩) lt0)) :=
      ⟨_, lt0, rfl, leafM_own _ _ (by simp [i64]) ⟨by omega, by omega⟩ (by decide), by rw [leafM_wt]; exact Nat.zero_le _, Drew.put hC D4 (by omega) _ _⟩
    rw [← hW] at HB HD
    rw [putAt_zero] at hW
    dsimp only [leafM, lt0, ty0] at hW HB
    rw [← hW]
    obtain ⟨r0, r1, r2, r3, r4, r5, r6, r7, r8⟩ := HB
    refine bodyPost_ret (v := .agg #[.int .i64 (leafM 2 (z : Int) ⟨#[]⟩).kind, .string (leafM 2 (z : Int) ⟨#[]⟩).name, .string (leafM 2 (z : Int) ⟨#[]⟩).other, .int .i64 (leafM 2 (z : Int) ⟨#[]⟩).n, .int .i64 (leafM 2 (z : Int) ⟨#[]⟩).type.kind, .slice lt0.ta lt0.tn lt0.tc, .int .i64 (leafM 2 (z : Int) ⟨#[]⟩).res.kind, .slice lt0.ra lt0.rn lt0.rc, .slice lt0.aa lt0.an lt0.ac]) ?_ rfl HD
    simp [results, Tryz.results70, go_sem, r0, r1, r2, r3, r4, r5, r6, r7, r8, leafM, lt0, ty0]
  have g1 : (k == 1) = false := beq_eq_false_iff_ne.2 k1
  by_cases k2 : k = 2
  · subst k2
    clear hf1 hf2 IH
    go_enter Tryz.func70, Tryz.ntmps70
    go_wp2_with fail
    refine (l1Below_any p 2 _ d0.cur (by omega)).mono ?_
    rintro e w1 ⟨z, rfl, hz0, hz1, d1⟩
    have D1 := d0.trans d1
    have B1 : Blk w1 (w.heap.size + 1) _ _ := (d1.block B0.lt (by omega)).trans B0
    go_wp2_with fail
    refine (l5Bool_eq (z : Int) w1).mono ?_
    rintro e w3 ⟨rfl, b3⟩
    have B4 := B1.under b3
    have D4 := D1.next b3
    obtain ⟨q0, q1, q2, q3, q4, q5, q6, q7, q8⟩ : _ ∧ _ ∧ _ ∧ _ ∧ _ ∧ _ ∧ _ ∧ _ ∧ _ := ⟨B4.cell 0, B4.cell 1, B4.cell 2, B4.cell 3, B4.cell 4, B4.cell 5, B4.cell 6, B4.cell 7, B4.cell 8⟩
    simp at q0 q1 q2 q3 q4 q5 q6 q7 q8
    obtain ⟨z0, z1, z2, z3, z4, z5, z6, z7, z8⟩ : _ ∧ _ ∧ _ ∧ _ ∧ _ ∧ _ ∧ _ ∧ _ ∧ _ := ⟨B4.free 0, B4.free 1, B4.free 2, B4.free 3, B4.free 4, B4.free 5, B4.free 6, B4.free 7, B4.free 8⟩
    go_wp2_with fail
    obtain ⟨W, hW⟩ : ∃ W, W = putAt w3 (w.heap.size + 1) 0 (tcells (leafM 3 (z : Int) ⟨#[]⟩) lt0) := ⟨_, rfl⟩
    have HB := (put_box B4 rfl (leafM 3 (z : Int) ⟨#[]⟩) lt0).nine
    have HD : DrawsM p (4 * Ty.size ⟨2, xs⟩) w (.returned (.agg #[.int .i64 (leafM 3 (z : Int) ⟨#[]⟩).kind, .string (leafM 3 (z : Int) ⟨#[]⟩).name, .string (leafM 3 (z : Int) ⟨#[]⟩).other, .int .i64 (leafM 3 (z : Int) ⟨#[]⟩).n, .int .i64 (leafM 3 (z : Int) ⟨#[]⟩).type.kind, .slice lt0.ta lt0.tn lt0.tc, .int .i64 (leafM 3 (z : Int) ⟨#[]⟩).res.kind, .slice lt0.ra lt0.rn lt0.rc, .slice lt0.aa lt0.an lt0.ac])) (putAt w3 (w.heap.size + 1) 0 (tcells (leafM 3 (z : Int) ⟨#[]⟩) lt0)) :=
      ⟨_, lt0, rfl, leafM_own _ _ (by simp [i64]) ⟨by omega, by omega⟩ (by decide), by rw [leafM_wt]; exact Nat.zero_le _, Drew.put hC D4 (by omega) _ _⟩
    rw [← hW] at HB HD
    rw [putAt_zero] at hW
    dsimp only [leafM, lt0, ty0] at hW HB
    rw [← hW]
    obtain ⟨r0, r1, r2, r3, r4, r5, r6, r7, r8⟩ := HB
    refine bodyPost_ret (v := .agg #[.int .i64 (leafM 3 (z : Int) ⟨#[]⟩).kind, .string (leafM 3 (z : Int) ⟨#[]⟩).name, .string (leafM 3 (z : Int) ⟨#[]⟩).other, .int .i64 (leafM 3 (z : Int) ⟨#[]⟩).n, .int .i64 (leafM 3 (z : Int) ⟨#[]⟩).type.kind, .slice lt0.ta lt0.tn lt0.tc, .int .i64 (leafM 3 (z : Int) ⟨#[]⟩).res.kind, .slice lt0.ra lt0.rn lt0.rc, .slice lt0.aa lt0.an lt0.ac]) ?_ rfl HD
    simp [results, Tryz.results70, go_sem, r0, r1, r2, r3, r4, r5, r6, r7, r8, leafM, lt0, ty0]
  have g2 : (k == 2) = false := beq_eq_false_iff_ne.2 k2
  by_cases k3 : k = 3
  · subst k3
    have hx2 : xs.length = 2 := by simpa [Ty.formed] using hf1
    match xs, hx2 with
    | [x, y], _ =>
      simp only [List.all_cons, List.all_nil, Bool.and_true, Bool.and_eq_true] at hf2
      have hzx : x.size + y.size + 1 = Ty.size ⟨3, [x, y]⟩ := by rw [Ty.size_two]; omega
      obtain rfl : n = 2 := TyA.len hT
      obtain ⟨b, off, xa, xn, xc, rfl, hgb, hlb, e0, e1, hTx⟩ := hT0.get 0 (by simp)
      obtain ⟨b', off', ya, yn, yc, hbb, -, -, f0, f1, hTy⟩ := hT0.get 1 (by simp)
      injection hbb with hbb
      injection hbb with r1 r2
      subst r1 r2
      simp only [Nat.zero_mul, Nat.add_zero, Nat.one_mul, List.getElem_cons_zero, List.getElem_cons_succ] at e0 e1 f0 f1 hTx hTy
      go_enter Tryz.func70, Tryz.ntmps70
      go_upto_region 7 with fail
      have lT0 := T0.lt
      have lB0 := B0.lt
      generalize (w.alloc (.cells #[.int .i64 3, .slice (some ⟨b, off, none⟩) 2 c] 26)).alloc (.cells #[.int .i64 0, .string ⟨#[]⟩, .string ⟨#[]⟩, .int .i64 0, .int .i64 0, .slice none 0 0, .int .i64 0, .slice none 0 0, .slice none 0 0] 29) = W0 at T0 B0 d0 s0 hT0 hTx hTy e0 e1 f0 f1 hlb lT0 lB0 ⊢
      obtain ⟨u0, u1⟩ := T0.two
      have hC5 : Cur W0.drew p := d0.cur.below (below_drew _)
      have CS := hide (IH.out y (by simp) base ya yn yc m W0.drew hC5 hpb (by simp; omega) (hTy.keep (Fresh.of_below (below_drew _))) hf2.2 (by omega) hm0 (by omega))
      have HK := hide (fun (W : World) (hd : Drew p W0 W) => show (W.cell? ⟨w.heap.size, 0, none⟩ = some (.int .i64 3) ∧ W.cell? ⟨w.heap.size, 1, none⟩ = some (.slice (some ⟨b, off, none⟩) 2 c)) ∧ (W.cell? ⟨b, off, none⟩ = some (.int .i64 x.kind) ∧ W.cell? ⟨b, off + 1, none⟩ = some (.slice xa xn xc)) ∧ Blk W (w.heap.size + 1) 29 #[.int .i64 0, .string ⟨#[]⟩, .string ⟨#[]⟩, .int .i64 0, .int .i64 0, .slice none 0 0, .int .i64 0, .slice none 0 0, .slice none 0 0] ∧ TyA base W x xa xn xc from
        ⟨Blk.two ((hd.block lT0 (by omega)).trans T0), ⟨(SameB.of_heap (hd.block hlb (by omega)) _).trans e0, (SameB.of_heap (hd.block hlb (by omega)) _).trans e1⟩, (hd.block lB0 (by omega)).trans B0, hTx.keep (hd.fresh hpb)⟩)
      have HCur := hide d0.cur
      have hw119 : (⟨#[119]⟩ : ByteArray).size ≤ 1048576 := by decide
      have hxz : Ty.sizes x.args ≤ 1048576 := by have := x.size_eq; omega
      have HL := hide (fun (t1 : Tm) (l1 : Lt) (W : World) (hd : Drew p W0 W) (h1 : OwnM W0.heap.size W t1 l1) (hs1 : t1.wt ≤ 4 * y.size) => (l5Lam_any ⟨#[119]⟩ x xa xn xc t1 l1 W hw119 (HK.out W hd).2.2.2.rd hxz h1.md (by omega)).mono fun e w' h => h.w (N := 4 * Ty.size ⟨3, [x, y]⟩) (by
        rw [lamM_wt, ← hzx]
        have : (⟨#[119]⟩ : ByteArray).size = 1 := rfl
        have := x.size_eq
        omega))
      go_region_law (first
        | (go_simp; go_at_call 70; (with_reducible refine CS.out.mono ?_); rintro e w1 ⟨t1, l1, rfl, hO1, hs1, d1⟩; replace hO1 : OwnM W0.heap.size w1 t1 l1 := hO1; replace d1 : Drew p W0 w1 := Drew.after HCur.out (below_drew _) d1; obtain ⟨⟨x0, x1⟩, ⟨x2, x3⟩, x4, x5⟩ := HK.out _ d1)
        | (go_simp; go_at_call 73; (with_reducible refine (HL.out t1 l1 _ d1 hO1 hs1).mono ?_); rintro e w2 ⟨t, l2, rfl, hO2, hwt, b2⟩; have B4 := x4.under b2; obtain ⟨q0, q1, q2, q3, q4, q5, q6, q7, q8⟩ : _ ∧ _ ∧ _ ∧ _ ∧ _ ∧ _ ∧ _ ∧ _ ∧ _ := ⟨B4.cell 0, B4.cell 1, B4.cell 2, B4.cell 3, B4.cell 4, B4.cell 5, B4.cell 6, B4.cell 7, B4.cell 8⟩; simp at q0 q1 q2 q3 q4 q5 q6 q7 q8; obtain ⟨z0, z1, z2, z3, z4, z5, z6, z7, z8⟩ : _ ∧ _ ∧ _ ∧ _ ∧ _ ∧ _ ∧ _ ∧ _ ∧ _ := ⟨B4.free 0, B4.free 1, B4.free 2, B4.free 3, B4.free 4, B4.free 5, B4.free 6, B4.free 7, B4.free 8⟩))
      all_goals
        have D4 := d0.trans (d1.next b2)
        have s1 := d1.size
        go_wp2_with fail
        have HB := (put_box B4 rfl t l2).nine
        have HD : DrawsM p (4 * Ty.size ⟨3, [x, y]⟩) w (.returned (.agg #[.int .i64 t.kind, .string t.name, .string t.other, .int .i64 t.n, .int .i64 t.type.kind, .slice l2.ta l2.tn l2.tc, .int .i64 t.res.kind, .slice l2.ra l2.rn l2.rc, .slice l2.aa l2.an l2.ac])) (putAt w2 (w.heap.size + 1) 0 (tcells t l2)) :=
          ⟨t, l2, rfl, (hO2.keep (putAt_fresh (by omega) _ _ _)).base (by omega), hwt, Drew.put hC D4 (by omega) _ _⟩
        have E := putAt_zero w2 (w.heap.size + 1) t l2
        rw [← E]
        obtain ⟨r0, r1, r2, r3, r4, r5, r6, r7, r8⟩ := HB
        refine bodyPost_ret (v := .agg #[.int .i64 t.kind, .string t.name, .string t.other, .int .i64 t.n, .int .i64 t.type.kind, .slice l2.ta l2.tn l2.tc, .int .i64 t.res.kind, .slice l2.ra l2.rn l2.rc, .slice l2.aa l2.an l2.ac]) ?_ rfl HD
        simp [results, Tryz.results70, go_sem, r0, r1, r2, r3, r4, r5, r6, r7, r8]
  have g3 : (k == 3) = false := beq_eq_false_iff_ne.2 k3
  have h4 : k = 4 ∧ xs.length = 1 := by simpa [Ty.formed, k1, k2, k3] using hf1
  obtain ⟨rfl, hx2⟩ := h4
  match xs, hx2 with
  | [x], _ =>
    simp only [List.all_cons, List.all_nil, Bool.and_true] at hf2
    have hzx : x.size + 1 = Ty.size ⟨4, [x]⟩ := by rw [Ty.size_one]; omega
    obtain rfl : n = 1 := TyA.len hT
    obtain ⟨b, off, xa, xn, xc, rfl, hgb, hlb, e0, e1, hTx⟩ := hT0.get 0 (by simp)
    simp only [Nat.zero_mul, Nat.add_zero, List.getElem_cons_zero] at e0 e1 hTx
    have hwr : IntKind.i64.wrap (m + 1) = m + 1 := IntWalk.i64_in _ (by omega)
    go_enter Tryz.func70, Tryz.ntmps70
    go_upto_region 8 with fail
    have lT0 := T0.lt
    have lB0 := B0.lt
    generalize (w.alloc (.cells #[.int .i64 4, .slice (some ⟨b, off, none⟩) 1 c] 26)).alloc (.cells #[.int .i64 0, .string ⟨#[]⟩, .string ⟨#[]⟩, .int .i64 0, .int .i64 0, .slice none 0 0, .int .i64 0, .slice none 0 0, .slice none 0 0] 29) = W0 at T0 B0 d0 s0 hT0 hTx e0 e1 hlb lT0 lB0 ⊢
    obtain ⟨u0, u1⟩ := T0.two
    have CS := hide (IH.out x (by simp) base xa xn xc (m + 1) W0 d0.cur hpb (by omega) hTx hf2 (by omega) (by omega) (by omega))
    go_wp2_with fail
    refine CS.out.mono ?_
    rintro e w1 ⟨t1, l1, rfl, hO1, hs1, d1⟩
    have B1 : Blk w1 (w.heap.size + 1) _ _ := (d1.block lB0 (by omega)).trans B0
    have s1 := d1.size
    have D1 := d0.trans d1
    have lB1 := B1.lt
    obtain ⟨q0, q1, q2, q3, q4, q5, q6, q7, q8⟩ : _ ∧ _ ∧ _ ∧ _ ∧ _ ∧ _ ∧ _ ∧ _ ∧ _ := ⟨B1.cell 0, B1.cell 1, B1.cell 2, B1.cell 3, B1.cell 4, B1.cell 5, B1.cell 6, B1.cell 7, B1.cell 8⟩
    simp at q0 q1 q2 q3 q4 q5 q6 q7 q8
    obtain ⟨z0, z1, z2, z3, z4, z5, z6, z7, z8⟩ : _ ∧ _ ∧ _ ∧ _ ∧ _ ∧ _ ∧ _ ∧ _ ∧ _ := ⟨B1.free 0, B1.free 1, B1.free 2, B1.free 3, B1.free 4, B1.free 5, B1.free 6, B1.free 7, B1.free 8⟩
    go_wp2_with fail
    have hO2 := (hO1.wrap s1 10 (by simp [i64]))
    have HBX := (put_box B1 rfl (wrapM 10 t1) (wrapL w1.heap.size)).alloc (.cells #[.int .i64 t1.kind, .string t1.name, .string t1.other, .int .i64 t1.n, .int .i64 t1.type.kind, .slice l1.ta l1.tn l1.tc, .int .i64 t1.res.kind, .slice l1.ra l1.rn l1.rc, .slice l1.aa l1.an l1.ac] 29)
    have HD : DrawsM p (4 * Ty.size ⟨4, [x]⟩) w (.returned (.agg #[.int .i64 (wrapM 10 t1).kind, .string (wrapM 10 t1).name, .string (wrapM 10 t1).other, .int .i64 (wrapM 10 t1).n, .int .i64 (wrapM 10 t1).type.kind, .slice (wrapL w1.heap.size).ta (wrapL w1.heap.size).tn (wrapL w1.heap.size).tc, .int .i64 (wrapM 10 t1).res.kind, .slice (wrapL w1.heap.size).ra (wrapL w1.heap.size).rn (wrapL w1.heap.size).rc, .slice (wrapL w1.heap.size).aa (wrapL w1.heap.size).an (wrapL w1.heap.size).ac])) ((putAt w1 (w.heap.size + 1) 0 (tcells (wrapM 10 t1) (wrapL w1.heap.size))).alloc (.cells #[.int .i64 t1.kind, .string t1.name, .string t1.other, .int .i64 t1.n, .int .i64 t1.type.kind, .slice l1.ta l1.tn l1.tc, .int .i64 t1.res.kind, .slice l1.ra l1.rn l1.rc, .slice l1.aa l1.an l1.ac] 29)) := by
      have hsz := putAt_size (M := w.heap.size + 1) (tcells (wrapM 10 t1) (wrapL w1.heap.size)) w1 0
      refine ⟨_, _, rfl, (hO2.keep2' fun b hb hl => ?_).base (by omega), by rw [wrapM_wt]; omega, (Drew.put hC D1 (by omega) _ _).trans (Drew.alloc (Drew.put hC D1 (by omega) _ _).cur _)⟩
      simp at hl
      rcases Nat.lt_or_ge b w1.heap.size with h | h
      · rw [Below.heap_alloc _ _ _ (by rw [hsz]; exact h), Below.heap_alloc _ _ _ h, putAt_heap (by omega)]
      · have e : b = w1.heap.size := by omega
        subst e
        have h1 := heap_alloc_new (putAt w1 (w.heap.size + 1) 0 (tcells (wrapM 10 t1) (wrapL w1.heap.size))) (.cells #[.int .i64 t1.kind, .string t1.name, .string t1.other, .int .i64 t1.n, .int .i64 t1.type.kind, .slice l1.ta l1.tn l1.tc, .int .i64 t1.res.kind, .slice l1.ra l1.rn l1.rc, .slice l1.aa l1.an l1.ac] 29)
        rw [hsz] at h1
        rw [h1]
        exact (heap_alloc_new w1 _).symm
    obtain ⟨W, hW⟩ : ∃ W, W = putAt w1 (w.heap.size + 1) 0 (tcells (wrapM 10 t1) (wrapL w1.heap.size)) := ⟨_, rfl⟩
    rw [← hW] at HBX HD
    rw [putAt_zero] at hW
    dsimp only [wrapM, wrapL, ty0] at hW
    rw [← hW]
    obtain ⟨r0, r1, r2, r3, r4, r5, r6, r7, r8⟩ := HBX.nine
    dsimp only [wrapM, wrapL, ty0] at r0 r1 r2 r3 r4 r5 r6 r7 r8
    refine bodyPost_ret (v := .agg #[.int .i64 (wrapM 10 t1).kind, .string (wrapM 10 t1).name, .string (wrapM 10 t1).other, .int .i64 (wrapM 10 t1).n, .int .i64 (wrapM 10 t1).type.kind, .slice (wrapL w1.heap.size).ta (wrapL w1.heap.size).tn (wrapL w1.heap.size).tc, .int .i64 (wrapM 10 t1).res.kind, .slice (wrapL w1.heap.size).ra (wrapL w1.heap.size).rn (wrapL w1.heap.size).rc, .slice (wrapL w1.heap.size).aa (wrapL w1.heap.size).an (wrapL w1.heap.size).ac]) ?_ rfl HD
    simp [results, Tryz.results70, go_sem, r0, r1, r2, r3, r4, r5, r6, r7, r8, wrapM, wrapL, ty0]
end Go.Proofs.YtklifieahcoljaaGreat
