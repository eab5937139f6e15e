/-
  The walks of l5Node, l5Op, l5Lam, l5Let: forms of copied parts.
-/
import Derived.Test.YtklifieahcoljaaGreatCopyM
import Derived.Deep.DeepCutAuto
namespace Go.Proofs.YtklifieahcoljaaGreat
open Go.RowKit
set_option maxRecDepth 100000
set_option linter.unusedVariables false
set_option linter.unusedSimpArgs false

/-- A form of these parts. -/
def nodeM (k : Int) (xs : List Tm) : Tm := ⟨k, ⟨#[]⟩, ⟨#[]⟩, 0, ty0, ty0, xs⟩
theorem nodeM_wt (k : Int) (xs : List Tm) : (nodeM k xs).wt = Tm.wts xs := by
  rw [nodeM, Tm.wt, ty0]
  show (ByteArray.mk #[]).size + (ByteArray.mk #[]).size + Ty.sizes [] + Ty.sizes [] + Tm.wts xs = Tm.wts xs
  rw [Ty.sizes]
  have : (ByteArray.mk #[]).size = 0 := rfl
  omega

set_option maxHeartbeats 3200000 in
theorem l5Node_any (k : Int) (xs : List Tm) (a : Option Addr) (n cap : Nat) (w : World) (hk : i64 k) (hr : Mds w xs a n cap) (hw : Tm.wts xs ≤ 1048576) :
    Calls Tryz.prog 76 #[.int .i64 k, .slice a n cap] w (GivesM w (nodeM k xs)) := by
  have hn : n ≤ 1048576 := by
    have := Tm.length_le_wts xs
    have := hr.1
    omega
  have hR0 := (Blk.new w 29 #[.int .i64 0, .string ⟨#[]⟩, .string ⟨#[]⟩, .int .i64 0, .int .i64 0, .slice none 0 0, .int .i64 0, .slice none 0 0, .slice none 0 0]).alloc (.cells #[.int .i64 k, .string ⟨#[]⟩, .string ⟨#[]⟩, .int .i64 0, .int .i64 0, .slice none 0 0, .int .i64 0, .slice none 0 0, .slice none 0 0] 29)
  have hL0 : LaidM (w.heap.size + 1) (w.heap.size + 1) ((w.alloc (.cells #[.int .i64 0, .string ⟨#[]⟩, .string ⟨#[]⟩, .int .i64 0, .int .i64 0, .slice none 0 0, .int .i64 0, .slice none 0 0, .slice none 0 0] 29)).alloc (.cells #[.int .i64 k, .string ⟨#[]⟩, .string ⟨#[]⟩, .int .i64 0, .int .i64 0, .slice none 0 0, .int .i64 0, .slice none 0 0, .slice none 0 0] 29)) (nodeM k []) lt0 :=
    LaidM.new (Nat.le_refl _) (Blk.new2 w _ _ _) ⟨hk, by simp [nodeM, i64], Nat.zero_le _, Nat.zero_le _⟩ rfl rfl rfl
  have hb0 := below_next (below_new w (.cells #[.int .i64 0, .string ⟨#[]⟩, .string ⟨#[]⟩, .int .i64 0, .int .i64 0, .slice none 0 0, .int .i64 0, .slice none 0 0, .slice none 0 0] 29)) (below_new (w.alloc (.cells #[.int .i64 0, .string ⟨#[]⟩, .string ⟨#[]⟩, .int .i64 0, .int .i64 0, .slice none 0 0, .int .i64 0, .slice none 0 0, .slice none 0 0] 29)) (.cells #[.int .i64 k, .string ⟨#[]⟩, .string ⟨#[]⟩, .int .i64 0, .int .i64 0, .slice none 0 0, .int .i64 0, .slice none 0 0, .slice none 0 0] 29))
  obtain ⟨i0, hi, hz0, hz1, hz2⟩ := info_parts Tryz.infoTerm
  go_enter Tryz.func76, Tryz.ntmps76
  go_wp2_with fail
  go_loopw [6] (fun i wr => ∃ j : Nat, j ≤ n ∧ i = .int .i64 j ∧ (∃ lr, LaidM (w.heap.size + 1) (w.heap.size + 1) wr (nodeM k (xs.take j)) lr) ∧ Blk wr w.heap.size 29 #[.int .i64 0, .string ⟨#[]⟩, .string ⟨#[]⟩, .int .i64 0, .int .i64 0, .slice none 0 0, .int .i64 0, .slice none 0 0, .slice none 0 0] ∧ Below w.heap.size w wr) (fun i _ => n - (intOf i).toNat)
  case atStart => exact ⟨0, by omega, rfl, ⟨lt0, by simpa using hL0⟩, hR0, hb0⟩
  case round =>
    clear hL0 hR0 hb0
    obtain ⟨j, hj, rfl, ⟨lr, hL⟩, hR, hb⟩ := hrel
    have hsz := hb.size
    have hB := hL.box
    by_cases hjn : j < n
    · have hjx : j < xs.length := by rw [← hr.1]; exact hjn
      obtain ⟨b, off, lx, ha, hlt, hc, hd⟩ := (hr.below hb).get j hjx
      obtain ⟨e0, e1, e2, e3, e4, e5, e6, e7, e8⟩ := hc.nine
      clear hc
      have hlen : (xs.take j).length = j := by rw [List.length_take]; omega
      obtain ⟨hbX, -, hf, cs, f1, f2, f3, h1, h2, hown, h3, hX3, hX1, hX2, hap⟩ := hL
      replace hown : wr.ownsRow (w.heap.size + 1) 29 9 (.slice lr.aa lr.an lr.ac) j cs := by rw [← hlen]; exact hown
      have hlen := hide hlen
      have hsz1 : xs[j].wt ≤ 1048576 := by have h5 := Tm.wts_take xs j hjx; have h6 := Tm.wts_take_le xs (j + 1); omega
      have HBX := hide hB
      have s8 : wr.cell? ⟨w.heap.size + 1, 8, none⟩ = some (.slice lr.aa lr.an lr.ac) := hB.cell 8
      have lS := hB.lt
      rw [ha]
      go_wp2_with fail
      go_region_law (first
        | (go_simp; go_at_call 101; (with_reducible refine (l5Copy_any xs[j] _ _ (hd.below (below_drew _)) hsz1).mono ?_); rintro e w1 ⟨l1, rfl, hO1, b1⟩; replace b1 : Below wr.heap.size wr w1 := below_next (below_drew _) b1; have s1 := b1.size; have B1 := HBX.out.under b1; have y8 := B1.cell 8; have y8n := fun o => (B1.alloc o).cell 8)
        | (refine step_append_lies _ (by rfl) _ _ _ (by rfl) (w.heap.size + 1) 29 i0 _ 9 136 Tryz.underlying27 hi hz0 hz1 hz2 rfl (by omega) (.slice lr.aa lr.an lr.ac) j cs (by rfl) ((own_below hown b1).alloc _) ⟨w1.heap.size, 0, none⟩ 1 1 (tcells xs[j] l1) (by rfl) (by rfl) (World.news_of_block (cs := #[.int .i64 xs[j].kind, .string xs[j].name, .string xs[j].other, .int .i64 xs[j].n, .int .i64 xs[j].type.kind, .slice l1.ta l1.tn l1.tc, .int .i64 xs[j].res.kind, .slice l1.ra l1.rn l1.rc, .slice l1.aa l1.an l1.ac]) (t := 29) (fr := (0, 0)) (heap_alloc_new w1 _)) (by simp [Value.oneCell', tcells]) (by omega) (by unfold maxLen; omega) (by omega) (by simp; omega) (w1.heap.size + 1) (by simp) ?_; intro gg cap' w2 hown2 hgrow hat hlt2; have hB4 := box_grown (fun g hg => (hap g hg).1) B1 hgrow; have z8 := hB4.cell 8; have x8 := hB4.free 8))
      all_goals
        go_wp2_with fail
        go_roundw
        case rel =>
          obtain ⟨fx, hx, hxf⟩ := hO1.rm
          have hR5 := hR.under b1
          have hXg : ∀ X, X < w.heap.size + 1 → some X ≠ (Value.slice lr.aa lr.an lr.ac).ownBlock := fun X hX e => by have := (hown.lt X e.symm).1; omega
          have H := LaidM.step (t := nodeM k (xs.take j)) (x := xs[j]) hbX HBX.out hf hlen.out.symm h1 h2 hown h3 hX3 hX1 hX2 hap (Fresh.of_below b1) hx hxf hown2 hgrow rfl (by simpa using hat)
          refine ⟨j + 1, by omega, by go_num, ⟨_, by rw [take_snoc xs j hjx]; exact H⟩, ?_, ?_⟩
          · exact ((hR5.alloc _).grown hgrow (hXg _ (by omega))).far (p := ⟨w.heap.size + 1, 8, none⟩) (by simp) _
          · exact (((hb.trans (b1.mono hsz)).alloc (by omega) _).grown hgrow (by simp; omega) fun k hk => by have := (hown.lt k hk).1; omega).setCell (p := ⟨w.heap.size + 1, 8, none⟩) (by simp) _
        case measure => simp [intOf]; omega
    · have h4 : n = xs.length := hr.1
      rw [List.take_of_length_le (by omega)] at hL
      clear hB
      have hB := hL.box
      obtain ⟨t, ht⟩ : ∃ t, t = nodeM k xs := ⟨_, rfl⟩
      rw [← ht] at hL hB
      replace ht := hide ht
      obtain ⟨s0, s1, s2, s3, s4, s5, s6, s7, s8⟩ := hB.nine
      obtain ⟨q0, q1, q2, q3, q4, q5, q6, q7, q8⟩ : _ ∧ _ ∧ _ ∧ _ ∧ _ ∧ _ ∧ _ ∧ _ ∧ _ := ⟨hR.cell 0, hR.cell 1, hR.cell 2, hR.cell 3, hR.cell 4, hR.cell 5, hR.cell 6, hR.cell 7, hR.cell 8⟩
      simp at q0 q1 q2 q3 q4 q5 q6 q7 q8
      obtain ⟨z0, z1, z2, z3, z4, z5, z6, z7, z8⟩ : _ ∧ _ ∧ _ ∧ _ ∧ _ ∧ _ ∧ _ ∧ _ ∧ _ := ⟨hR.free 0, hR.free 1, hR.free 2, hR.free 3, hR.free 4, hR.free 5, hR.free 6, hR.free 7, hR.free 8⟩
      go_wp2_with fail
      have HO := (hL.own.keep (putAt_fresh (M := w.heap.size) (by omega) (tcells t lr) wr 0)).base (show w.heap.size ≤ w.heap.size + 1 by omega)
      have HW := putAt_below (M := w.heap.size) (B := w.heap.size) (Nat.le_refl _) (tcells t lr) wr 0 hb
      have HB := (put_box hR rfl t lr).nine
      have E := putAt_zero wr w.heap.size t lr
      rw [← E]
      obtain ⟨r0, r1, r2, r3, r4, r5, r6, r7, r8⟩ := HB
      refine bodyPost_ret (v := .agg #[.int .i64 t.kind, .string t.name, .string t.other, .int .i64 t.n, .int .i64 t.type.kind, .slice lr.ta lr.tn lr.tc, .int .i64 t.res.kind, .slice lr.ra lr.rn lr.rc, .slice lr.aa lr.an lr.ac]) ?_ rfl ⟨lr, by rw [← ht.out], by rw [← ht.out]; exact HO, HW⟩
      simp [results, Tryz.results76, go_sem, r0, r1, r2, r3, r4, r5, r6, r7, r8]
set_option maxHeartbeats 3200000 in
theorem l5Op_any (op : ByteArray) (xs : List Tm) (a : Option Addr) (n cap : Nat) (w : World) (ho : op.size ≤ 1048576) (hr : Mds w xs a n cap) (hw : Tm.wts xs ≤ 1048576) :
    Calls Tryz.prog 100 #[.string op, .slice a n cap] w (GivesM w { nodeM 4 xs with name := op }) := by
  have C := hide (l5Node_any 4 xs a n cap _ (by simp [i64]) (hr.below (below_new w (.cells #[.int .i64 0, .string ⟨#[]⟩, .string ⟨#[]⟩, .int .i64 0, .int .i64 0, .slice none 0 0, .int .i64 0, .slice none 0 0, .slice none 0 0] 29))) hw)
  go_enter Tryz.func100, Tryz.ntmps100
  go_wp2_with fail
  refine C.out.mono ?_
  rintro e w1 ⟨lr, rfl, hO1, b1⟩
  have R1 := (Blk.new w 29 #[.int .i64 0, .string ⟨#[]⟩, .string ⟨#[]⟩, .int .i64 0, .int .i64 0, .slice none 0 0, .int .i64 0, .slice none 0 0, .slice none 0 0]).under b1
  have k1 := below_of_alloc b1
  have s1 := b1.size
  simp at s1
  have L2 := LaidM.of_own (hO1.base (show w.heap.size + 1 ≤ (w.alloc (.cells #[.int .i64 0, .string ⟨#[]⟩, .string ⟨#[]⟩, .int .i64 0, .int .i64 0, .slice none 0 0, .int .i64 0, .slice none 0 0, .slice none 0 0] 29)).heap.size by simp)) (by omega)
  have hR2 := R1.alloc (.cells #[.int .i64 (nodeM 4 xs).kind, .string (nodeM 4 xs).name, .string (nodeM 4 xs).other, .int .i64 (nodeM 4 xs).n, .int .i64 (nodeM 4 xs).type.kind, .slice lr.ta lr.tn lr.tc, .int .i64 (nodeM 4 xs).res.kind, .slice lr.ra lr.rn lr.rc, .slice lr.aa lr.an lr.ac] 29)
  have hb2 := k1.alloc (by omega) (.cells #[.int .i64 (nodeM 4 xs).kind, .string (nodeM 4 xs).name, .string (nodeM 4 xs).other, .int .i64 (nodeM 4 xs).n, .int .i64 (nodeM 4 xs).type.kind, .slice lr.ta lr.tn lr.tc, .int .i64 (nodeM 4 xs).res.kind, .slice lr.ra lr.rn lr.rc, .slice lr.aa lr.an lr.ac] 29)
  have c1 := L2.box.cell 1
  have f1 := L2.box.free 1
  go_upto_region 2 with fail
  generalize w1.alloc (.cells #[.int .i64 (nodeM 4 xs).kind, .string (nodeM 4 xs).name, .string (nodeM 4 xs).other, .int .i64 (nodeM 4 xs).n, .int .i64 (nodeM 4 xs).type.kind, .slice lr.ta lr.tn lr.tc, .int .i64 (nodeM 4 xs).res.kind, .slice lr.ra lr.rn lr.rc, .slice lr.aa lr.an lr.ac] 29) = W2 at L2 hR2 hb2 c1 f1 ⊢
  go_upto_region 3 with fail
  have hL := L2.name op (by omega)
  have hR := hR2.far (p := ⟨w1.heap.size, 1, none⟩) (show w.heap.size ≠ w1.heap.size by omega) (.string op)
  have hb := hb2.setCell (p := ⟨w1.heap.size, 1, none⟩) (show w.heap.size ≤ w1.heap.size by omega) (.string op)
  generalize W2.setCell ⟨w1.heap.size, 1, none⟩ (.string op) = wr at hL hR hb ⊢
  obtain ⟨t, ht⟩ : ∃ t : Tm, t = { nodeM 4 xs with name := op } := ⟨_, rfl⟩
  rw [← ht] at hL
  replace ht := hide ht
  have hB := hL.box
  obtain ⟨s0, s1, s2, s3, s4, s5, s6, s7, s8⟩ := hB.nine
  obtain ⟨q0, q1, q2, q3, q4, q5, q6, q7, q8⟩ : _ ∧ _ ∧ _ ∧ _ ∧ _ ∧ _ ∧ _ ∧ _ ∧ _ := ⟨hR.cell 0, hR.cell 1, hR.cell 2, hR.cell 3, hR.cell 4, hR.cell 5, hR.cell 6, hR.cell 7, hR.cell 8⟩
  simp at q0 q1 q2 q3 q4 q5 q6 q7 q8
  obtain ⟨z0, z1, z2, z3, z4, z5, z6, z7, z8⟩ : _ ∧ _ ∧ _ ∧ _ ∧ _ ∧ _ ∧ _ ∧ _ ∧ _ := ⟨hR.free 0, hR.free 1, hR.free 2, hR.free 3, hR.free 4, hR.free 5, hR.free 6, hR.free 7, hR.free 8⟩
  go_wp2_with fail
  have HO := (hL.own.keep (putAt_fresh (M := w.heap.size) (by omega) (tcells t lr) wr 0)).base (show w.heap.size ≤ w.heap.size + 1 by omega)
  have HW := putAt_below (M := w.heap.size) (B := w.heap.size) (by omega) (tcells t lr) wr 0 hb
  have HB := (put_box hR rfl t lr).nine
  have E := putAt_zero wr (w.heap.size) t lr
  rw [← E]
  obtain ⟨r0, r1, r2, r3, r4, r5, r6, r7, r8⟩ := HB
  refine bodyPost_ret (v := .agg #[.int .i64 t.kind, .string t.name, .string t.other, .int .i64 t.n, .int .i64 t.type.kind, .slice lr.ta lr.tn lr.tc, .int .i64 t.res.kind, .slice lr.ra lr.rn lr.rc, .slice lr.aa lr.an lr.ac]) ?_ rfl ⟨lr, by rw [← ht.out], by rw [← ht.out]; exact HO, HW⟩
  simp [results, Tryz.results100, go_sem, r0, r1, r2, r3, r4, r5, r6, r7, r8]
/-- One term in a row of its own. -/
theorem Mds_one {w : World} {t : Tm} {l : Lt} (h : Md w t l) : Mds (w.alloc (.cells #[.int .i64 t.kind, .string t.name, .string t.other, .int .i64 t.n, .int .i64 t.type.kind, .slice l.ta l.tn l.tc, .int .i64 t.res.kind, .slice l.ra l.rn l.rc, .slice l.aa l.an l.ac] 29)) [t] (some ⟨w.heap.size, 0, none⟩) 1 1 := by
  obtain ⟨f, hf⟩ := h.below (below_new w (.cells #[.int .i64 t.kind, .string t.name, .string t.other, .int .i64 t.n, .int .i64 t.type.kind, .slice l.ta l.tn l.tc, .int .i64 t.res.kind, .slice l.ra l.rn l.rc, .slice l.aa l.an l.ac] 29))
  have hB := Blk.new w 29 #[.int .i64 t.kind, .string t.name, .string t.other, .int .i64 t.n, .int .i64 t.type.kind, .slice l.ta l.tn l.tc, .int .i64 t.res.kind, .slice l.ra l.rn l.rc, .slice l.aa l.an l.ac]
  refine ⟨rfl, Nat.le_refl _, by unfold maxLen; omega, .inr ⟨by simp, w.heap.size, 0, f ++ [], rfl, ?_⟩⟩
  rw [RMs]
  refine ⟨l, f, [], rfl, fun i v hv => ?_, hf, by rw [RMs]⟩
  have := hB.cell i
  rw [Nat.zero_add, this, ← Array.getElem?_toList]
  exact hv
/-- Two terms in a row of their own. -/
theorem Mds_two {w : World} {t u : Tm} {l m : Lt} (h : Md w t l) (h2 : Md w u m) : Mds (w.alloc (.cells #[.int .i64 t.kind, .string t.name, .string t.other, .int .i64 t.n, .int .i64 t.type.kind, .slice l.ta l.tn l.tc, .int .i64 t.res.kind, .slice l.ra l.rn l.rc, .slice l.aa l.an l.ac, .int .i64 u.kind, .string u.name, .string u.other, .int .i64 u.n, .int .i64 u.type.kind, .slice m.ta m.tn m.tc, .int .i64 u.res.kind, .slice m.ra m.rn m.rc, .slice m.aa m.an m.ac] 29)) [t, u] (some ⟨w.heap.size, 0, none⟩) 2 2 := by
  obtain ⟨f, hf⟩ := h.below (below_new w (.cells #[.int .i64 t.kind, .string t.name, .string t.other, .int .i64 t.n, .int .i64 t.type.kind, .slice l.ta l.tn l.tc, .int .i64 t.res.kind, .slice l.ra l.rn l.rc, .slice l.aa l.an l.ac, .int .i64 u.kind, .string u.name, .string u.other, .int .i64 u.n, .int .i64 u.type.kind, .slice m.ta m.tn m.tc, .int .i64 u.res.kind, .slice m.ra m.rn m.rc, .slice m.aa m.an m.ac] 29))
  obtain ⟨f2, hf2⟩ := h2.below (below_new w (.cells #[.int .i64 t.kind, .string t.name, .string t.other, .int .i64 t.n, .int .i64 t.type.kind, .slice l.ta l.tn l.tc, .int .i64 t.res.kind, .slice l.ra l.rn l.rc, .slice l.aa l.an l.ac, .int .i64 u.kind, .string u.name, .string u.other, .int .i64 u.n, .int .i64 u.type.kind, .slice m.ta m.tn m.tc, .int .i64 u.res.kind, .slice m.ra m.rn m.rc, .slice m.aa m.an m.ac] 29))
  have hB : Blk (w.alloc (.cells #[.int .i64 t.kind, .string t.name, .string t.other, .int .i64 t.n, .int .i64 t.type.kind, .slice l.ta l.tn l.tc, .int .i64 t.res.kind, .slice l.ra l.rn l.rc, .slice l.aa l.an l.ac, .int .i64 u.kind, .string u.name, .string u.other, .int .i64 u.n, .int .i64 u.type.kind, .slice m.ta m.tn m.tc, .int .i64 u.res.kind, .slice m.ra m.rn m.rc, .slice m.aa m.an m.ac] 29)) w.heap.size 29 (tcells t l ++ tcells u m).toArray := Blk.new w 29 #[.int .i64 t.kind, .string t.name, .string t.other, .int .i64 t.n, .int .i64 t.type.kind, .slice l.ta l.tn l.tc, .int .i64 t.res.kind, .slice l.ra l.rn l.rc, .slice l.aa l.an l.ac, .int .i64 u.kind, .string u.name, .string u.other, .int .i64 u.n, .int .i64 u.type.kind, .slice m.ta m.tn m.tc, .int .i64 u.res.kind, .slice m.ra m.rn m.rc, .slice m.aa m.an m.ac]
  refine ⟨rfl, Nat.le_refl _, by unfold maxLen; omega, .inr ⟨by simp, w.heap.size, 0, f ++ (f2 ++ []), rfl, ?_⟩⟩
  rw [RMs]
  refine ⟨l, f, f2 ++ [], rfl, fun i v hv => ?_, hf, ?_⟩
  rotate_left
  rw [RMs]
  refine ⟨m, f2, [], rfl, fun i v hv => ?_, hf2, by rw [RMs]⟩
  rotate_left
  · have := hB.cell i
    have hi : i < (tcells t l).length := by
      rcases Nat.lt_or_ge i (tcells t l).length with h | h
      · exact h
      · rw [List.getElem?_eq_none h] at hv
        cases hv
    rw [Nat.zero_add, this, ← Array.getElem?_toList, List.getElem?_append_left hi]
    exact hv
  · have := hB.cell (9 + i)
    rw [Nat.zero_add, this, ← Array.getElem?_toList, List.getElem?_append_right (by rw [tcells_len]; omega), tcells_len, show 9 + i - 9 = i by omega]
    exact hv
abbrev node8 (x y : Tm) : Tm := nodeM 8 [x, y]
set_option maxHeartbeats 3200000 in
theorem l5Let_any (nm : ByteArray) (x y : Tm) (lx ly : Lt) (w : World) (ho : nm.size ≤ 1048576) (hx : Md w x lx) (hy : Md w y ly) (hw : x.wt + y.wt ≤ 1048000) :
    Calls Tryz.prog 97 #[.string nm, .agg #[.int .i64 x.kind, .string x.name, .string x.other, .int .i64 x.n, .int .i64 x.type.kind, .slice lx.ta lx.tn lx.tc, .int .i64 x.res.kind, .slice lx.ra lx.rn lx.rc, .slice lx.aa lx.an lx.ac], .agg #[.int .i64 y.kind, .string y.name, .string y.other, .int .i64 y.n, .int .i64 y.type.kind, .slice ly.ta ly.tn ly.tc, .int .i64 y.res.kind, .slice ly.ra ly.rn ly.rc, .slice ly.aa ly.an ly.ac]] w (GivesM w { nodeM 8 [x, y] with name := nm }) := by
  have bn : Below w.heap.size w (((w.alloc (.cells #[.int .i64 x.kind, .string x.name, .string x.other, .int .i64 x.n, .int .i64 x.type.kind, .slice lx.ta lx.tn lx.tc, .int .i64 x.res.kind, .slice lx.ra lx.rn lx.rc, .slice lx.aa lx.an lx.ac] 29)).alloc (.cells #[.int .i64 y.kind, .string y.name, .string y.other, .int .i64 y.n, .int .i64 y.type.kind, .slice ly.ta ly.tn ly.tc, .int .i64 y.res.kind, .slice ly.ra ly.rn ly.rc, .slice ly.aa ly.an ly.ac] 29)).alloc (.cells #[.int .i64 0, .string ⟨#[]⟩, .string ⟨#[]⟩, .int .i64 0, .int .i64 0, .slice none 0 0, .int .i64 0, .slice none 0 0, .slice none 0 0] 29)) := (by repeat (first | exact Below.refl _ _ | assumption | refine Below.drew ?_ | refine below_drewN ?_ _ | refine Below.alloc ?_ (by first | omega | (simp; done) | (simp; omega)) _ | refine Below.setCell ?_ (by first | omega | (simp; done) | (simp; omega)) _))
  have hR0 : Blk (((w.alloc (.cells #[.int .i64 x.kind, .string x.name, .string x.other, .int .i64 x.n, .int .i64 x.type.kind, .slice lx.ta lx.tn lx.tc, .int .i64 x.res.kind, .slice lx.ra lx.rn lx.rc, .slice lx.aa lx.an lx.ac] 29)).alloc (.cells #[.int .i64 y.kind, .string y.name, .string y.other, .int .i64 y.n, .int .i64 y.type.kind, .slice ly.ta ly.tn ly.tc, .int .i64 y.res.kind, .slice ly.ra ly.rn ly.rc, .slice ly.aa ly.an ly.ac] 29)).alloc (.cells #[.int .i64 0, .string ⟨#[]⟩, .string ⟨#[]⟩, .int .i64 0, .int .i64 0, .slice none 0 0, .int .i64 0, .slice none 0 0, .slice none 0 0] 29)) (w.heap.size + 1 + 1) 29 #[.int .i64 0, .string ⟨#[]⟩, .string ⟨#[]⟩, .int .i64 0, .int .i64 0, .slice none 0 0, .int .i64 0, .slice none 0 0, .slice none 0 0] := Blk.new3 _ _ _ _ _
  have hM := Mds_two (hx.below bn) (hy.below bn)
  have s0 : (((w.alloc (.cells #[.int .i64 x.kind, .string x.name, .string x.other, .int .i64 x.n, .int .i64 x.type.kind, .slice lx.ta lx.tn lx.tc, .int .i64 x.res.kind, .slice lx.ra lx.rn lx.rc, .slice lx.aa lx.an lx.ac] 29)).alloc (.cells #[.int .i64 y.kind, .string y.name, .string y.other, .int .i64 y.n, .int .i64 y.type.kind, .slice ly.ta ly.tn ly.tc, .int .i64 y.res.kind, .slice ly.ra ly.rn ly.rc, .slice ly.aa ly.an ly.ac] 29)).alloc (.cells #[.int .i64 0, .string ⟨#[]⟩, .string ⟨#[]⟩, .int .i64 0, .int .i64 0, .slice none 0 0, .int .i64 0, .slice none 0 0, .slice none 0 0] 29)).heap.size = w.heap.size + 1 + 1 + 1 := by simp
  rw [s0] at hM
  have C := hide (l5Node_any 8 [x, y] _ 2 2 _ (by simp [i64]) hM (by simp [Tm.wts]; omega))
  have hR1 := hR0.alloc (.cells #[.int .i64 x.kind, .string x.name, .string x.other, .int .i64 x.n, .int .i64 x.type.kind, .slice lx.ta lx.tn lx.tc, .int .i64 x.res.kind, .slice lx.ra lx.rn lx.rc, .slice lx.aa lx.an lx.ac, .int .i64 y.kind, .string y.name, .string y.other, .int .i64 y.n, .int .i64 y.type.kind, .slice ly.ta ly.tn ly.tc, .int .i64 y.res.kind, .slice ly.ra ly.rn ly.rc, .slice ly.aa ly.an ly.ac] 29)
  have hb1 := below_next bn (below_new (((w.alloc (.cells #[.int .i64 x.kind, .string x.name, .string x.other, .int .i64 x.n, .int .i64 x.type.kind, .slice lx.ta lx.tn lx.tc, .int .i64 x.res.kind, .slice lx.ra lx.rn lx.rc, .slice lx.aa lx.an lx.ac] 29)).alloc (.cells #[.int .i64 y.kind, .string y.name, .string y.other, .int .i64 y.n, .int .i64 y.type.kind, .slice ly.ta ly.tn ly.tc, .int .i64 y.res.kind, .slice ly.ra ly.rn ly.rc, .slice ly.aa ly.an ly.ac] 29)).alloc (.cells #[.int .i64 0, .string ⟨#[]⟩, .string ⟨#[]⟩, .int .i64 0, .int .i64 0, .slice none 0 0, .int .i64 0, .slice none 0 0, .slice none 0 0] 29)) (.cells #[.int .i64 x.kind, .string x.name, .string x.other, .int .i64 x.n, .int .i64 x.type.kind, .slice lx.ta lx.tn lx.tc, .int .i64 x.res.kind, .slice lx.ra lx.rn lx.rc, .slice lx.aa lx.an lx.ac, .int .i64 y.kind, .string y.name, .string y.other, .int .i64 y.n, .int .i64 y.type.kind, .slice ly.ta ly.tn ly.tc, .int .i64 y.res.kind, .slice ly.ra ly.rn ly.rc, .slice ly.aa ly.an ly.ac] 29))
  have hz : w.heap.size + 1 + 1 < (((w.alloc (.cells #[.int .i64 x.kind, .string x.name, .string x.other, .int .i64 x.n, .int .i64 x.type.kind, .slice lx.ta lx.tn lx.tc, .int .i64 x.res.kind, .slice lx.ra lx.rn lx.rc, .slice lx.aa lx.an lx.ac] 29)).alloc (.cells #[.int .i64 y.kind, .string y.name, .string y.other, .int .i64 y.n, .int .i64 y.type.kind, .slice ly.ta ly.tn ly.tc, .int .i64 y.res.kind, .slice ly.ra ly.rn ly.rc, .slice ly.aa ly.an ly.ac] 29)).alloc (.cells #[.int .i64 0, .string ⟨#[]⟩, .string ⟨#[]⟩, .int .i64 0, .int .i64 0, .slice none 0 0, .int .i64 0, .slice none 0 0, .slice none 0 0] 29)).heap.size := hR0.lt
  go_enter Tryz.func97, Tryz.ntmps97
  go_wp2_with fail
  (with_reducible refine C.out.mono ?_)
  rintro e w1 ⟨lr, rfl, hO1, b1⟩
  have R1 := hR1.under b1
  have k1 := below_next hb1 b1
  have s1 := b1.size
  simp at s1
  have L2 := LaidM.of_own (hO1.base (show w.heap.size + 1 + 1 + 1 ≤ ((((w.alloc (.cells #[.int .i64 x.kind, .string x.name, .string x.other, .int .i64 x.n, .int .i64 x.type.kind, .slice lx.ta lx.tn lx.tc, .int .i64 x.res.kind, .slice lx.ra lx.rn lx.rc, .slice lx.aa lx.an lx.ac] 29)).alloc (.cells #[.int .i64 y.kind, .string y.name, .string y.other, .int .i64 y.n, .int .i64 y.type.kind, .slice ly.ta ly.tn ly.tc, .int .i64 y.res.kind, .slice ly.ra ly.rn ly.rc, .slice ly.aa ly.an ly.ac] 29)).alloc (.cells #[.int .i64 0, .string ⟨#[]⟩, .string ⟨#[]⟩, .int .i64 0, .int .i64 0, .slice none 0 0, .int .i64 0, .slice none 0 0, .slice none 0 0] 29)).alloc (.cells #[.int .i64 x.kind, .string x.name, .string x.other, .int .i64 x.n, .int .i64 x.type.kind, .slice lx.ta lx.tn lx.tc, .int .i64 x.res.kind, .slice lx.ra lx.rn lx.rc, .slice lx.aa lx.an lx.ac, .int .i64 y.kind, .string y.name, .string y.other, .int .i64 y.n, .int .i64 y.type.kind, .slice ly.ta ly.tn ly.tc, .int .i64 y.res.kind, .slice ly.ra ly.rn ly.rc, .slice ly.aa ly.an ly.ac] 29)).heap.size by simp)) (by omega)
  have hR2 := R1.alloc (.cells #[.int .i64 (node8 x y).kind, .string (node8 x y).name, .string (node8 x y).other, .int .i64 (node8 x y).n, .int .i64 (node8 x y).type.kind, .slice lr.ta lr.tn lr.tc, .int .i64 (node8 x y).res.kind, .slice lr.ra lr.rn lr.rc, .slice lr.aa lr.an lr.ac] 29)
  have hb2 := k1.alloc (by omega) (.cells #[.int .i64 (node8 x y).kind, .string (node8 x y).name, .string (node8 x y).other, .int .i64 (node8 x y).n, .int .i64 (node8 x y).type.kind, .slice lr.ta lr.tn lr.tc, .int .i64 (node8 x y).res.kind, .slice lr.ra lr.rn lr.rc, .slice lr.aa lr.an lr.ac] 29)
  have c1 := L2.box.cell 1
  have f1 := L2.box.free 1
  go_upto_region 2 with fail
  generalize w1.alloc (.cells #[.int .i64 (node8 x y).kind, .string (node8 x y).name, .string (node8 x y).other, .int .i64 (node8 x y).n, .int .i64 (node8 x y).type.kind, .slice lr.ta lr.tn lr.tc, .int .i64 (node8 x y).res.kind, .slice lr.ra lr.rn lr.rc, .slice lr.aa lr.an lr.ac] 29) = W2 at L2 hR2 hb2 c1 f1 ⊢
  go_upto_region 3 with fail
  have hL := L2.name nm (by omega)
  have hR := hR2.far (p := ⟨w1.heap.size, 1, none⟩) (show w.heap.size + 1 + 1 ≠ w1.heap.size by omega) (.string nm)
  have hb := hb2.setCell (p := ⟨w1.heap.size, 1, none⟩) (show w.heap.size ≤ w1.heap.size by omega) (.string nm)
  generalize W2.setCell ⟨w1.heap.size, 1, none⟩ (.string nm) = wr at hL hR hb ⊢
  obtain ⟨t, ht⟩ : ∃ t : Tm, t = { nodeM 8 [x, y] with name := nm } := ⟨_, rfl⟩
  rw [← ht] at hL
  replace ht := hide ht
  have hB := hL.box
  obtain ⟨s0, s1, s2, s3, s4, s5, s6, s7, s8⟩ := hB.nine
  obtain ⟨q0, q1, q2, q3, q4, q5, q6, q7, q8⟩ : _ ∧ _ ∧ _ ∧ _ ∧ _ ∧ _ ∧ _ ∧ _ ∧ _ := ⟨hR.cell 0, hR.cell 1, hR.cell 2, hR.cell 3, hR.cell 4, hR.cell 5, hR.cell 6, hR.cell 7, hR.cell 8⟩
  simp at q0 q1 q2 q3 q4 q5 q6 q7 q8
  obtain ⟨z0, z1, z2, z3, z4, z5, z6, z7, z8⟩ : _ ∧ _ ∧ _ ∧ _ ∧ _ ∧ _ ∧ _ ∧ _ ∧ _ := ⟨hR.free 0, hR.free 1, hR.free 2, hR.free 3, hR.free 4, hR.free 5, hR.free 6, hR.free 7, hR.free 8⟩
  go_wp2_with fail
  have HO := (hL.own.keep (putAt_fresh (M := w.heap.size + 1 + 1) (by omega) (tcells t lr) wr 0)).base (show w.heap.size ≤ w.heap.size + 1 + 1 + 1 by omega)
  have HW := putAt_below (M := w.heap.size + 1 + 1) (B := w.heap.size) (by omega) (tcells t lr) wr 0 hb
  have HB := (put_box hR rfl t lr).nine
  have E := putAt_zero wr (w.heap.size + 1 + 1) t lr
  rw [← E]
  obtain ⟨r0, r1, r2, r3, r4, r5, r6, r7, r8⟩ := HB
  refine bodyPost_ret (v := .agg #[.int .i64 t.kind, .string t.name, .string t.other, .int .i64 t.n, .int .i64 t.type.kind, .slice lr.ta lr.tn lr.tc, .int .i64 t.res.kind, .slice lr.ra lr.rn lr.rc, .slice lr.aa lr.an lr.ac]) ?_ rfl ⟨lr, by rw [← ht.out], by rw [← ht.out]; exact HO, HW⟩
  simp [results, Tryz.results97, go_sem, r0, r1, r2, r3, r4, r5, r6, r7, r8]
abbrev node6 (x : Tm) : Tm := nodeM 6 [x]
set_option maxHeartbeats 3200000 in
theorem l5Lam_any (nm : ByteArray) (u : Ty) (ua : Option Addr) (un uc : Nat) (x : Tm) (lx : Lt) (w : World) (ho : nm.size ≤ 1048576) (hu : Rd w u (.int .i64 u.kind) (.slice ua un uc)) (hus : Ty.sizes u.args ≤ 1048576) (hx : Md w x lx) (hw : x.wt ≤ 1048000) :
    Calls Tryz.prog 73 #[.string nm, .agg #[.int .i64 u.kind, .slice ua un uc], .agg #[.int .i64 x.kind, .string x.name, .string x.other, .int .i64 x.n, .int .i64 x.type.kind, .slice lx.ta lx.tn lx.tc, .int .i64 x.res.kind, .slice lx.ra lx.rn lx.rc, .slice lx.aa lx.an lx.ac]] w (GivesM w { nodeM 6 [x] with name := nm, type := u }) := by
  have bn : Below w.heap.size w (((w.alloc (.cells #[.int .i64 u.kind, .slice ua un uc] 26)).alloc (.cells #[.int .i64 x.kind, .string x.name, .string x.other, .int .i64 x.n, .int .i64 x.type.kind, .slice lx.ta lx.tn lx.tc, .int .i64 x.res.kind, .slice lx.ra lx.rn lx.rc, .slice lx.aa lx.an lx.ac] 29)).alloc (.cells #[.int .i64 0, .string ⟨#[]⟩, .string ⟨#[]⟩, .int .i64 0, .int .i64 0, .slice none 0 0, .int .i64 0, .slice none 0 0, .slice none 0 0] 29)) := (by repeat (first | exact Below.refl _ _ | assumption | refine Below.drew ?_ | refine below_drewN ?_ _ | refine Below.alloc ?_ (by first | omega | (simp; done) | (simp; omega)) _ | refine Below.setCell ?_ (by first | omega | (simp; done) | (simp; omega)) _))
  have hR0 : Blk (((w.alloc (.cells #[.int .i64 u.kind, .slice ua un uc] 26)).alloc (.cells #[.int .i64 x.kind, .string x.name, .string x.other, .int .i64 x.n, .int .i64 x.type.kind, .slice lx.ta lx.tn lx.tc, .int .i64 x.res.kind, .slice lx.ra lx.rn lx.rc, .slice lx.aa lx.an lx.ac] 29)).alloc (.cells #[.int .i64 0, .string ⟨#[]⟩, .string ⟨#[]⟩, .int .i64 0, .int .i64 0, .slice none 0 0, .int .i64 0, .slice none 0 0, .slice none 0 0] 29)) (w.heap.size + 1 + 1) 29 #[.int .i64 0, .string ⟨#[]⟩, .string ⟨#[]⟩, .int .i64 0, .int .i64 0, .slice none 0 0, .int .i64 0, .slice none 0 0, .slice none 0 0] := Blk.new3 _ _ _ _ _
  have hU0 : Blk (((w.alloc (.cells #[.int .i64 u.kind, .slice ua un uc] 26)).alloc (.cells #[.int .i64 x.kind, .string x.name, .string x.other, .int .i64 x.n, .int .i64 x.type.kind, .slice lx.ta lx.tn lx.tc, .int .i64 x.res.kind, .slice lx.ra lx.rn lx.rc, .slice lx.aa lx.an lx.ac] 29)).alloc (.cells #[.int .i64 0, .string ⟨#[]⟩, .string ⟨#[]⟩, .int .i64 0, .int .i64 0, .slice none 0 0, .int .i64 0, .slice none 0 0, .slice none 0 0] 29)) w.heap.size 26 #[.int .i64 u.kind, .slice ua un uc] := ((Blk.new w _ _).alloc _).alloc _
  have hM := Mds_one (hx.below bn)
  have s0 : (((w.alloc (.cells #[.int .i64 u.kind, .slice ua un uc] 26)).alloc (.cells #[.int .i64 x.kind, .string x.name, .string x.other, .int .i64 x.n, .int .i64 x.type.kind, .slice lx.ta lx.tn lx.tc, .int .i64 x.res.kind, .slice lx.ra lx.rn lx.rc, .slice lx.aa lx.an lx.ac] 29)).alloc (.cells #[.int .i64 0, .string ⟨#[]⟩, .string ⟨#[]⟩, .int .i64 0, .int .i64 0, .slice none 0 0, .int .i64 0, .slice none 0 0, .slice none 0 0] 29)).heap.size = w.heap.size + 1 + 1 + 1 := by simp
  rw [s0] at hM
  have C := hide (l5Node_any 6 [x] _ 1 1 _ (by simp [i64]) hM (by simp [Tm.wts]; omega))
  have hR1 := hR0.alloc (.cells #[.int .i64 x.kind, .string x.name, .string x.other, .int .i64 x.n, .int .i64 x.type.kind, .slice lx.ta lx.tn lx.tc, .int .i64 x.res.kind, .slice lx.ra lx.rn lx.rc, .slice lx.aa lx.an lx.ac] 29)
  have hU1 := hU0.alloc (.cells #[.int .i64 x.kind, .string x.name, .string x.other, .int .i64 x.n, .int .i64 x.type.kind, .slice lx.ta lx.tn lx.tc, .int .i64 x.res.kind, .slice lx.ra lx.rn lx.rc, .slice lx.aa lx.an lx.ac] 29)
  have hb1 := below_next bn (below_new (((w.alloc (.cells #[.int .i64 u.kind, .slice ua un uc] 26)).alloc (.cells #[.int .i64 x.kind, .string x.name, .string x.other, .int .i64 x.n, .int .i64 x.type.kind, .slice lx.ta lx.tn lx.tc, .int .i64 x.res.kind, .slice lx.ra lx.rn lx.rc, .slice lx.aa lx.an lx.ac] 29)).alloc (.cells #[.int .i64 0, .string ⟨#[]⟩, .string ⟨#[]⟩, .int .i64 0, .int .i64 0, .slice none 0 0, .int .i64 0, .slice none 0 0, .slice none 0 0] 29)) (.cells #[.int .i64 x.kind, .string x.name, .string x.other, .int .i64 x.n, .int .i64 x.type.kind, .slice lx.ta lx.tn lx.tc, .int .i64 x.res.kind, .slice lx.ra lx.rn lx.rc, .slice lx.aa lx.an lx.ac] 29))
  have hu1 := hu.below hb1
  have hz : w.heap.size + 1 + 1 < (((w.alloc (.cells #[.int .i64 u.kind, .slice ua un uc] 26)).alloc (.cells #[.int .i64 x.kind, .string x.name, .string x.other, .int .i64 x.n, .int .i64 x.type.kind, .slice lx.ta lx.tn lx.tc, .int .i64 x.res.kind, .slice lx.ra lx.rn lx.rc, .slice lx.aa lx.an lx.ac] 29)).alloc (.cells #[.int .i64 0, .string ⟨#[]⟩, .string ⟨#[]⟩, .int .i64 0, .int .i64 0, .slice none 0 0, .int .i64 0, .slice none 0 0, .slice none 0 0] 29)).heap.size := hR0.lt
  go_enter Tryz.func73, Tryz.ntmps73
  go_wp2_with fail
  (with_reducible refine C.out.mono ?_)
  rintro e w1 ⟨lr, rfl, hO1, b1⟩
  have R1 := hR1.under b1
  have U1 := hU1.under b1
  have k1 := below_next hb1 b1
  have s1 := b1.size
  simp at s1
  have L2 := LaidM.of_own (hO1.base (show w.heap.size + 1 + 1 + 1 ≤ ((((w.alloc (.cells #[.int .i64 u.kind, .slice ua un uc] 26)).alloc (.cells #[.int .i64 x.kind, .string x.name, .string x.other, .int .i64 x.n, .int .i64 x.type.kind, .slice lx.ta lx.tn lx.tc, .int .i64 x.res.kind, .slice lx.ra lx.rn lx.rc, .slice lx.aa lx.an lx.ac] 29)).alloc (.cells #[.int .i64 0, .string ⟨#[]⟩, .string ⟨#[]⟩, .int .i64 0, .int .i64 0, .slice none 0 0, .int .i64 0, .slice none 0 0, .slice none 0 0] 29)).alloc (.cells #[.int .i64 x.kind, .string x.name, .string x.other, .int .i64 x.n, .int .i64 x.type.kind, .slice lx.ta lx.tn lx.tc, .int .i64 x.res.kind, .slice lx.ra lx.rn lx.rc, .slice lx.aa lx.an lx.ac] 29)).heap.size by simp)) (by omega)
  have hR2 := R1.alloc (.cells #[.int .i64 (node6 x).kind, .string (node6 x).name, .string (node6 x).other, .int .i64 (node6 x).n, .int .i64 (node6 x).type.kind, .slice lr.ta lr.tn lr.tc, .int .i64 (node6 x).res.kind, .slice lr.ra lr.rn lr.rc, .slice lr.aa lr.an lr.ac] 29)
  have hU2 := U1.alloc (.cells #[.int .i64 (node6 x).kind, .string (node6 x).name, .string (node6 x).other, .int .i64 (node6 x).n, .int .i64 (node6 x).type.kind, .slice lr.ta lr.tn lr.tc, .int .i64 (node6 x).res.kind, .slice lr.ra lr.rn lr.rc, .slice lr.aa lr.an lr.ac] 29)
  have hb2 := k1.alloc (by omega) (.cells #[.int .i64 (node6 x).kind, .string (node6 x).name, .string (node6 x).other, .int .i64 (node6 x).n, .int .i64 (node6 x).type.kind, .slice lr.ta lr.tn lr.tc, .int .i64 (node6 x).res.kind, .slice lr.ra lr.rn lr.rc, .slice lr.aa lr.an lr.ac] 29)
  have hu2 := (hu1.below b1).below (below_new w1 (.cells #[.int .i64 (node6 x).kind, .string (node6 x).name, .string (node6 x).other, .int .i64 (node6 x).n, .int .i64 (node6 x).type.kind, .slice lr.ta lr.tn lr.tc, .int .i64 (node6 x).res.kind, .slice lr.ra lr.rn lr.rc, .slice lr.aa lr.an lr.ac] 29))
  have c1 := L2.box.cell 1
  have f1 := L2.box.free 1
  go_upto_region 2 with fail
  generalize w1.alloc (.cells #[.int .i64 (node6 x).kind, .string (node6 x).name, .string (node6 x).other, .int .i64 (node6 x).n, .int .i64 (node6 x).type.kind, .slice lr.ta lr.tn lr.tc, .int .i64 (node6 x).res.kind, .slice lr.ra lr.rn lr.rc, .slice lr.aa lr.an lr.ac] 29) = W2 at L2 hR2 hU2 hb2 hu2 c1 f1 ⊢
  go_upto_region 3 with fail
  have L3 := L2.name nm (by omega)
  have hR3 := hR2.far (p := ⟨w1.heap.size, 1, none⟩) (show w.heap.size + 1 + 1 ≠ w1.heap.size by omega) (.string nm)
  have hU3 := hU2.far (p := ⟨w1.heap.size, 1, none⟩) (show w.heap.size ≠ w1.heap.size by omega) (.string nm)
  have hb3 := hb2.setCell (p := ⟨w1.heap.size, 1, none⟩) (show w.heap.size ≤ w1.heap.size by omega) (.string nm)
  have hb23 : Below w1.heap.size W2 (W2.setCell ⟨w1.heap.size, 1, none⟩ (.string nm)) := (Below.refl _ _).setCell (p := ⟨w1.heap.size, 1, none⟩) (Nat.le_refl _) _
  have hu3 : Rd (W2.setCell ⟨w1.heap.size, 1, none⟩ (.string nm)) u (.int .i64 u.kind) (.slice ua un uc) := hu.below hb3
  generalize W2.setCell ⟨w1.heap.size, 1, none⟩ (.string nm) = W3 at L3 hR3 hU3 hb3 hu3 ⊢
  obtain ⟨y0, y1⟩ := hU3.two
  go_wp2_with fail
  refine (l3Copy_any u _ _ W3 hu3 hus).mono ?_
  rintro e w4 ⟨d0, d1, fp, rfl, hR4, -, hO4, b4⟩
  obtain ⟨xa, xn, xc, rfl, rfl, -, -⟩ := hR4.rd.shape
  have L4 := L3.keep (Fresh.of_below b4)
  have hR5 := hR3.under b4
  have hb5 := below_next hb3 b4
  have lL := L3.lt
  have c4 := L4.box.cell 4
  have c5 := L4.box.cell 5
  have f4 := L4.box.free 4
  have f5 := L4.box.free 5
  have lr3 := hb3.size
  go_upto_region 4 with fail
  have hgg : ∀ g, (Value.slice lr.aa lr.an lr.ac).ownBlock = some g → g < W3.heap.size := fun g hg => by
    obtain ⟨hbX, -, hf, cs, f1, f2, f3, h1, h2, hown, h3, hX3, hX1, hX2, hap⟩ := L3
    exact (hown.lt g hg).2
  have hwz : w.heap.size + 1 + 1 + 1 ≤ W3.heap.size := by have := hR3.lt; omega
  have hL := L4.type (fp := fp) ⟨hR4, fun b hb => by have := hO4.1 b hb; omega⟩ (fun h => by have := hO4.1 _ h; omega) (fun g hg h => by have := hgg g hg; have := hO4.1 _ h; omega)
  have hR := (hR5.far (p := ⟨w1.heap.size, 4, none⟩) (show w.heap.size + 1 + 1 ≠ w1.heap.size by omega) (.int .i64 u.kind)).far (p := ⟨w1.heap.size, 5, none⟩) (show w.heap.size + 1 + 1 ≠ w1.heap.size by omega) (.slice xa xn xc)
  have hb := (hb5.setCell (p := ⟨w1.heap.size, 4, none⟩) (show w.heap.size ≤ w1.heap.size by omega) (.int .i64 u.kind)).setCell (p := ⟨w1.heap.size, 5, none⟩) (show w.heap.size ≤ w1.heap.size by omega) (.slice xa xn xc)
  generalize (w4.setCell ⟨w1.heap.size, 4, none⟩ (.int .i64 u.kind)).setCell ⟨w1.heap.size, 5, none⟩ (.slice xa xn xc) = wr at hL hR hb ⊢
  obtain ⟨t, ht⟩ : ∃ t : Tm, t = { nodeM 6 [x] with name := nm, type := u } := ⟨_, rfl⟩
  obtain ⟨lq, hlq⟩ : ∃ lq : Lt, lq = { lr with ta := xa, tn := xn, tc := xc } := ⟨_, rfl⟩
  replace hL : LaidM w1.heap.size (w.heap.size + 1 + 1 + 1) wr t lq := by rw [ht, hlq]; exact hL
  replace ht := hide ht
  clear hlq
  have hB := hL.box
  obtain ⟨s0, s1, s2, s3, s4, s5, s6, s7, s8⟩ := hB.nine
  obtain ⟨q0, q1, q2, q3, q4, q5, q6, q7, q8⟩ : _ ∧ _ ∧ _ ∧ _ ∧ _ ∧ _ ∧ _ ∧ _ ∧ _ := ⟨hR.cell 0, hR.cell 1, hR.cell 2, hR.cell 3, hR.cell 4, hR.cell 5, hR.cell 6, hR.cell 7, hR.cell 8⟩
  simp at q0 q1 q2 q3 q4 q5 q6 q7 q8
  obtain ⟨z0, z1, z2, z3, z4, z5, z6, z7, z8⟩ : _ ∧ _ ∧ _ ∧ _ ∧ _ ∧ _ ∧ _ ∧ _ ∧ _ := ⟨hR.free 0, hR.free 1, hR.free 2, hR.free 3, hR.free 4, hR.free 5, hR.free 6, hR.free 7, hR.free 8⟩
  go_wp2_with fail
  have HO := (hL.own.keep (putAt_fresh (M := w.heap.size + 1 + 1) (by omega) (tcells t lq) wr 0)).base (show w.heap.size ≤ w.heap.size + 1 + 1 + 1 by omega)
  have HW := putAt_below (M := w.heap.size + 1 + 1) (B := w.heap.size) (by omega) (tcells t lq) wr 0 hb
  have HB := (put_box hR rfl t lq).nine
  have E := putAt_zero wr (w.heap.size + 1 + 1) t lq
  rw [← E]
  obtain ⟨r0, r1, r2, r3, r4, r5, r6, r7, r8⟩ := HB
  refine bodyPost_ret (v := .agg #[.int .i64 t.kind, .string t.name, .string t.other, .int .i64 t.n, .int .i64 t.type.kind, .slice lq.ta lq.tn lq.tc, .int .i64 t.res.kind, .slice lq.ra lq.rn lq.rc, .slice lq.aa lq.an lq.ac]) ?_ rfl ⟨lq, by rw [← ht.out], by rw [← ht.out]; exact HO, HW⟩
  simp [results, Tryz.results73, go_sem, r0, r1, r2, r3, r4, r5, r6, r7, r8]
end Go.Proofs.YtklifieahcoljaaGreat
