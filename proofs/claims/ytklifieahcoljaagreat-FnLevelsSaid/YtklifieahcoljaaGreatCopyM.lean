/-
  The walk of l5Copy: a copy of a term in memory of the call's own.
-/
import Derived.Test.YtklifieahcoljaaGreatLayM
import Derived.Deep.DeepCutAuto
namespace Go.Proofs.YtklifieahcoljaaGreat
open Go.RowKit
set_option maxRecDepth 100000
set_option linter.unusedVariables false
set_option linter.unusedSimpArgs false

/-- The nine cells of a term's box. -/
abbrev Nine (b : Nat) (t : Tm) (l : Lt) (W : World) : Prop := W.cell? ⟨b, 0, none⟩ = some (.int .i64 t.kind) ∧ W.cell? ⟨b, 1, none⟩ = some (.string t.name) ∧ W.cell? ⟨b, 2, none⟩ = some (.string t.other) ∧ W.cell? ⟨b, 3, none⟩ = some (.int .i64 t.n) ∧
    W.cell? ⟨b, 4, none⟩ = some (.int .i64 t.type.kind) ∧ W.cell? ⟨b, 5, none⟩ = some (.slice l.ta l.tn l.tc) ∧ W.cell? ⟨b, 6, none⟩ = some (.int .i64 t.res.kind) ∧ W.cell? ⟨b, 7, none⟩ = some (.slice l.ra l.rn l.rc) ∧ W.cell? ⟨b, 8, none⟩ = some (.slice l.aa l.an l.ac)
theorem nine_set {b M i : Nat} {t : Tm} {l : Lt} {W : World} {v : Value} (hne : b ≠ M) (h : Nine b t l W) : Nine b t l (W.setCell ⟨M, i, none⟩ v) := by
  have e : ∀ o, (W.setCell ⟨M, i, none⟩ v).cell? ⟨b, o, none⟩ = W.cell? ⟨b, o, none⟩ := fun o => same_set (p := ⟨M, i, none⟩) hne v o
  unfold Nine
  rw [e, e, e, e, e, e, e, e, e]
  exact h
set_option maxHeartbeats 3200000 in
theorem l5Copy_any (t : Tm) : ∀ (l : Lt) (w : World), Md w t l → t.wt ≤ 1048576 → Calls Tryz.prog 101 #[.agg #[.int .i64 t.kind, .string t.name, .string t.other, .int .i64 t.n, .int .i64 t.type.kind, .slice l.ta l.tn l.tc, .int .i64 t.res.kind, .slice l.ra l.rn l.rc, .slice l.aa l.an l.ac]] w (GivesM w t) := by
  induction t using Tm.ind' with | h t ih => ?_
  intro l w h hl
  have IH := hide ih
  clear ih
  obtain ⟨h0, ht, hrr, hr⟩ := h.shape
  clear h
  have hn : l.an ≤ 1048576 := by
    have := Tm.length_le_wts t.args
    have h1 : l.an = t.args.length := hr.1
    have := t.wt_eq
    omega
  have hwt := t.wt_eq
  have C1 := hide (fun (W : World) (hW : Below w.heap.size w W) => l3Copy_any t.type _ _ W (ht.below hW) (by omega))
  have C2 := hide (fun (W : World) (hW : Below w.heap.size w W) => l3Copy_any t.res _ _ W (hrr.below hW) (by omega))
  clear hwt ht hrr
  obtain ⟨i0, hi, hz0, hz1, hz2⟩ := info_parts Tryz.infoTerm
  have bn := below_next (below_new w (.cells #[.int .i64 t.kind, .string t.name, .string t.other, .int .i64 t.n, .int .i64 t.type.kind, .slice l.ta l.tn l.tc, .int .i64 t.res.kind, .slice l.ra l.rn l.rc, .slice l.aa l.an l.ac] 29)) (below_new (w.alloc (.cells #[.int .i64 t.kind, .string t.name, .string t.other, .int .i64 t.n, .int .i64 t.type.kind, .slice l.ta l.tn l.tc, .int .i64 t.res.kind, .slice l.ra l.rn l.rc, .slice l.aa l.an l.ac] 29)) (.cells #[.int .i64 0, .string ⟨#[]⟩, .string ⟨#[]⟩, .int .i64 0, .int .i64 0, .slice none 0 0, .int .i64 0, .slice none 0 0, .slice none 0 0] 29))
  have A := (Blk.new w 29 #[.int .i64 t.kind, .string t.name, .string t.other, .int .i64 t.n, .int .i64 t.type.kind, .slice l.ta l.tn l.tc, .int .i64 t.res.kind, .slice l.ra l.rn l.rc, .slice l.aa l.an l.ac]).alloc (.cells #[.int .i64 0, .string ⟨#[]⟩, .string ⟨#[]⟩, .int .i64 0, .int .i64 0, .slice none 0 0, .int .i64 0, .slice none 0 0, .slice none 0 0] 29)
  have R := Blk.new2 w (.cells #[.int .i64 t.kind, .string t.name, .string t.other, .int .i64 t.n, .int .i64 t.type.kind, .slice l.ta l.tn l.tc, .int .i64 t.res.kind, .slice l.ra l.rn l.rc, .slice l.aa l.an l.ac] 29) 29 #[.int .i64 0, .string ⟨#[]⟩, .string ⟨#[]⟩, .int .i64 0, .int .i64 0, .slice none 0 0, .int .i64 0, .slice none 0 0, .slice none 0 0]
  have HS := hide (fun (W : World) (hW : Below ((w.alloc (.cells #[.int .i64 t.kind, .string t.name, .string t.other, .int .i64 t.n, .int .i64 t.type.kind, .slice l.ta l.tn l.tc, .int .i64 t.res.kind, .slice l.ra l.rn l.rc, .slice l.aa l.an l.ac] 29)).alloc (.cells #[.int .i64 0, .string ⟨#[]⟩, .string ⟨#[]⟩, .int .i64 0, .int .i64 0, .slice none 0 0, .int .i64 0, .slice none 0 0, .slice none 0 0] 29)).heap.size ((w.alloc (.cells #[.int .i64 t.kind, .string t.name, .string t.other, .int .i64 t.n, .int .i64 t.type.kind, .slice l.ta l.tn l.tc, .int .i64 t.res.kind, .slice l.ra l.rn l.rc, .slice l.aa l.an l.ac] 29)).alloc (.cells #[.int .i64 0, .string ⟨#[]⟩, .string ⟨#[]⟩, .int .i64 0, .int .i64 0, .slice none 0 0, .int .i64 0, .slice none 0 0, .slice none 0 0] 29)) W) => (A.under hW).nine)
  have kb := below_drew ((w.alloc (.cells #[.int .i64 t.kind, .string t.name, .string t.other, .int .i64 t.n, .int .i64 t.type.kind, .slice l.ta l.tn l.tc, .int .i64 t.res.kind, .slice l.ra l.rn l.rc, .slice l.aa l.an l.ac] 29)).alloc (.cells #[.int .i64 0, .string ⟨#[]⟩, .string ⟨#[]⟩, .int .i64 0, .int .i64 0, .slice none 0 0, .int .i64 0, .slice none 0 0, .slice none 0 0] 29))
  have HN1 := hide (show w.heap.size ≠ w.heap.size + 1 + 1 by omega)
  have HN2 := hide (fun (W : World) (hW : Below ((w.alloc (.cells #[.int .i64 t.kind, .string t.name, .string t.other, .int .i64 t.n, .int .i64 t.type.kind, .slice l.ta l.tn l.tc, .int .i64 t.res.kind, .slice l.ra l.rn l.rc, .slice l.aa l.an l.ac] 29)).alloc (.cells #[.int .i64 0, .string ⟨#[]⟩, .string ⟨#[]⟩, .int .i64 0, .int .i64 0, .slice none 0 0, .int .i64 0, .slice none 0 0, .slice none 0 0] 29)).drew.heap.size ((w.alloc (.cells #[.int .i64 t.kind, .string t.name, .string t.other, .int .i64 t.n, .int .i64 t.type.kind, .slice l.ta l.tn l.tc, .int .i64 t.res.kind, .slice l.ra l.rn l.rc, .slice l.aa l.an l.ac] 29)).alloc (.cells #[.int .i64 0, .string ⟨#[]⟩, .string ⟨#[]⟩, .int .i64 0, .int .i64 0, .slice none 0 0, .int .i64 0, .slice none 0 0, .slice none 0 0] 29)).drew W) => show w.heap.size ≠ W.heap.size by have := hW.size; simp at this; omega)
  have kb2 := below_next (below_new ((w.alloc (.cells #[.int .i64 t.kind, .string t.name, .string t.other, .int .i64 t.n, .int .i64 t.type.kind, .slice l.ta l.tn l.tc, .int .i64 t.res.kind, .slice l.ra l.rn l.rc, .slice l.aa l.an l.ac] 29)).alloc (.cells #[.int .i64 0, .string ⟨#[]⟩, .string ⟨#[]⟩, .int .i64 0, .int .i64 0, .slice none 0 0, .int .i64 0, .slice none 0 0, .slice none 0 0] 29)) (.cells #[.int .i64 0, .string ⟨#[]⟩, .string ⟨#[]⟩, .int .i64 0, .int .i64 0, .slice none 0 0, .int .i64 0, .slice none 0 0, .slice none 0 0] 29)) (below_drew _)
  have HBS := hide (fun (W : World) (hW : Below (((w.alloc (.cells #[.int .i64 t.kind, .string t.name, .string t.other, .int .i64 t.n, .int .i64 t.type.kind, .slice l.ta l.tn l.tc, .int .i64 t.res.kind, .slice l.ra l.rn l.rc, .slice l.aa l.an l.ac] 29)).alloc (.cells #[.int .i64 0, .string ⟨#[]⟩, .string ⟨#[]⟩, .int .i64 0, .int .i64 0, .slice none 0 0, .int .i64 0, .slice none 0 0, .slice none 0 0] 29)).alloc (.cells #[.int .i64 0, .string ⟨#[]⟩, .string ⟨#[]⟩, .int .i64 0, .int .i64 0, .slice none 0 0, .int .i64 0, .slice none 0 0, .slice none 0 0] 29)).drew.heap.size (((w.alloc (.cells #[.int .i64 t.kind, .string t.name, .string t.other, .int .i64 t.n, .int .i64 t.type.kind, .slice l.ta l.tn l.tc, .int .i64 t.res.kind, .slice l.ra l.rn l.rc, .slice l.aa l.an l.ac] 29)).alloc (.cells #[.int .i64 0, .string ⟨#[]⟩, .string ⟨#[]⟩, .int .i64 0, .int .i64 0, .slice none 0 0, .int .i64 0, .slice none 0 0, .slice none 0 0] 29)).alloc (.cells #[.int .i64 0, .string ⟨#[]⟩, .string ⟨#[]⟩, .int .i64 0, .int .i64 0, .slice none 0 0, .int .i64 0, .slice none 0 0, .slice none 0 0] 29)).drew W) => show Blk W (w.heap.size + 1 + 1) 29 #[.int .i64 0, .string ⟨#[]⟩, .string ⟨#[]⟩, .int .i64 0, .int .i64 0, .slice none 0 0, .int .i64 0, .slice none 0 0, .slice none 0 0] by
    have := Blk.under (Blk.under (Blk.new ((w.alloc (.cells #[.int .i64 t.kind, .string t.name, .string t.other, .int .i64 t.n, .int .i64 t.type.kind, .slice l.ta l.tn l.tc, .int .i64 t.res.kind, .slice l.ra l.rn l.rc, .slice l.aa l.an l.ac] 29)).alloc (.cells #[.int .i64 0, .string ⟨#[]⟩, .string ⟨#[]⟩, .int .i64 0, .int .i64 0, .slice none 0 0, .int .i64 0, .slice none 0 0, .slice none 0 0] 29)) 29 #[.int .i64 0, .string ⟨#[]⟩, .string ⟨#[]⟩, .int .i64 0, .int .i64 0, .slice none 0 0, .int .i64 0, .slice none 0 0, .slice none 0 0]) (below_drew _)) hW
    simpa using this)
  go_enter Tryz.func101, Tryz.ntmps101
  go_upto_region 1 with fail
  go_cut [3] (fun s wx => ∃ S l', s = .pointer (some ⟨S, 0, none⟩) ∧ LaidM S (w.heap.size + 1 + 1) wx { t with args := [] } l' ∧ Blk wx w.heap.size 29 #[.int .i64 t.kind, .string t.name, .string t.other, .int .i64 t.n, .int .i64 t.type.kind, .slice l.ta l.tn l.tc, .int .i64 t.res.kind, .slice l.ra l.rn l.rc, .slice l.aa l.an l.ac] ∧ Blk wx (w.heap.size + 1) 29 #[.int .i64 0, .string ⟨#[]⟩, .string ⟨#[]⟩, .int .i64 0, .int .i64 0, .slice none 0 0, .int .i64 0, .slice none 0 0, .slice none 0 0] ∧ Below w.heap.size w wx)
  case first =>
    (go_region_held3 (fun W => W.cell? ⟨w.heap.size, 0, none⟩ = some (.int .i64 t.kind) ∧ W.cell? ⟨w.heap.size, 1, none⟩ = some (.string t.name) ∧ W.cell? ⟨w.heap.size, 2, none⟩ = some (.string t.other) ∧ W.cell? ⟨w.heap.size, 3, none⟩ = some (.int .i64 t.n) ∧
          W.cell? ⟨w.heap.size, 4, none⟩ = some (.int .i64 t.type.kind) ∧ W.cell? ⟨w.heap.size, 5, none⟩ = some (.slice l.ta l.tn l.tc) ∧ W.cell? ⟨w.heap.size, 6, none⟩ = some (.int .i64 t.res.kind) ∧ W.cell? ⟨w.heap.size, 7, none⟩ = some (.slice l.ra l.rn l.rc) ∧ W.cell? ⟨w.heap.size, 8, none⟩ = some (.slice l.aa l.an l.ac))
        (first
          | (with_reducible exact nine_set hne (nine_set hne (nine_set hne (nine_set hne (nine_set hne (nine_set hne (nine_set hne (nine_set hne (nine_set hne K2.out)))))))))
          | exact HS.out _ kb
          | exact HS.out _ kb2
          | exact HS.out _ q1
          | exact HS.out _ (below_next q1 (below_new _ _))
          | exact HS.out _ q2
          | exact HS.out _ (below_next q2 (below_new _ _))
          | fail)
        (first
          | (go_at_call 68; (with_reducible refine (C1.out _ (below_next bn kb)).mono ?_); rintro e w1 ⟨d0, d1, f1, rfl, hR1, -, hO1, b1⟩; have q1 := below_next kb b1; obtain ⟨xa, xn, xc, rfl, rfl, -, -⟩ := hR1.rd.shape)
          | (go_at_call 68; (with_reducible refine (C1.out _ (below_next bn kb2)).mono ?_); rintro e w1 ⟨d0, d1, f1, rfl, hR1, -, hO1, b1⟩; have q1 := below_next kb2 b1; obtain ⟨xa, xn, xc, rfl, rfl, -, -⟩ := hR1.rd.shape
             have hBS := HBS.out _ b1)
          | (go_at_call 68; (with_reducible refine (C2.out _ (below_next bn q1)).mono ?_); rintro e w2 ⟨d0, d1, f2, rfl, hR2, -, hO2, b2⟩; have k12 := b2; have q2 := below_next q1 b2; obtain ⟨ya, yn, yc, rfl, rfl, -, -⟩ := hR2.rd.shape; have K2 := HS.out _ q2; replace K2 := hide K2
             try (have hne := HN1.out; have hB2 := hBS.under b2; obtain ⟨c0, c1, c2, c3, c4, c5, c6, c7, c8⟩ : _ ∧ _ ∧ _ ∧ _ ∧ _ ∧ _ ∧ _ ∧ _ ∧ _ := ⟨hB2.cell 0, hB2.cell 1, hB2.cell 2, hB2.cell 3, hB2.cell 4, hB2.cell 5, hB2.cell 6, hB2.cell 7, hB2.cell 8⟩; simp at c0 c1 c2 c3 c4 c5 c6 c7 c8; obtain ⟨z0, z1, z2, z3, z4, z5, z6, z7, z8⟩ : _ ∧ _ ∧ _ ∧ _ ∧ _ ∧ _ ∧ _ ∧ _ ∧ _ := ⟨hB2.free 0, hB2.free 1, hB2.free 2, hB2.free 3, hB2.free 4, hB2.free 5, hB2.free 6, hB2.free 7, hB2.free 8⟩))
          | (go_at_call 68; (with_reducible refine (C2.out _ (below_next bn (below_next q1 (below_new _ _)))).mono ?_); rintro e w2 ⟨d0, d1, f2, rfl, hR2, -, hO2, b2⟩; have k12 := below_of_alloc b2; have q2 := below_next (below_next q1 (below_new _ _)) b2; obtain ⟨ya, yn, yc, rfl, rfl, -, -⟩ := hR2.rd.shape; have K2 := HS.out _ q2; replace K2 := hide K2
             have hB2 := Blk.under (Blk.new w1 29 #[.int .i64 0, .string ⟨#[]⟩, .string ⟨#[]⟩, .int .i64 0, .int .i64 0, .slice none 0 0, .int .i64 0, .slice none 0 0, .slice none 0 0]) b2; obtain ⟨c0, c1, c2, c3, c4, c5, c6, c7, c8⟩ : _ ∧ _ ∧ _ ∧ _ ∧ _ ∧ _ ∧ _ ∧ _ ∧ _ := ⟨hB2.cell 0, hB2.cell 1, hB2.cell 2, hB2.cell 3, hB2.cell 4, hB2.cell 5, hB2.cell 6, hB2.cell 7, hB2.cell 8⟩; simp at c0 c1 c2 c3 c4 c5 c6 c7 c8; obtain ⟨z0, z1, z2, z3, z4, z5, z6, z7, z8⟩ : _ ∧ _ ∧ _ ∧ _ ∧ _ ∧ _ ∧ _ ∧ _ ∧ _ := ⟨hB2.free 0, hB2.free 1, hB2.free 2, hB2.free 3, hB2.free 4, hB2.free 5, hB2.free 6, hB2.free 7, hB2.free 8⟩; have hne := HN2.out _ b1)))
    all_goals go_wp2_with fail
    all_goals go_meet
    all_goals
      have s12 := k12.size
      have q0 := q1.size
      simp at q0
      have L1 := RT.lt _ _ _ _ hR1
      have L2 := RT.lt _ _ _ _ hR2
      have hA2 := A.under q2
      have hR2' := R.under q2
      have kf := below_next bn q2
      have T1 : TyAt (w.heap.size + 1 + 1) w2 t.type xa xn xc f1 := ⟨RT.keep _ _ _ _ hR1 fun b hb => SameB.of_heap (k12.block b (L1 b hb)), fun b hb => by have := hO1.1 b hb; first | omega | (simp at this; omega)⟩
      have T2 : TyAt (w.heap.size + 1 + 1) w2 t.res ya yn yc f2 := ⟨hR2, fun b hb => by have := hO2.1 b hb; first | omega | (simp at this; omega)⟩
    · refine ⟨w2.heap.size, ⟨xa, xn, xc, ya, yn, yc, none, 0, 0⟩, rfl, LaidM.made (by omega) (Blk.new _ _ _) h0 rfl rfl (T1.fresh (Fresh.of_below (below_new _ _))) (T2.fresh (Fresh.of_below (below_new _ _))) (fun h => by have := L1 _ h; omega) (fun h => by have := L2 _ h; omega), hA2.alloc _, hR2'.alloc _, kf.alloc (by omega) _⟩
    · have n1 : w1.heap.size ∉ f1 := fun h => by have := L1 _ h; omega
      have n2 : w1.heap.size ∉ f2 := fun h => by have := hO2.1 _ h; first | omega | (simp at this; done) | (simp at this; omega)
      have H := LaidM.put (t := { t with args := [] }) (l := ⟨xa, xn, xc, ya, yn, yc, none, 0, 0⟩) (show w.heap.size + 1 + 1 ≤ w1.heap.size by omega) hB2 rfl h0 rfl rfl T1 T2 n1 n2
      have E := putAt_zero w2 w1.heap.size { t with args := [] } ⟨xa, xn, xc, ya, yn, yc, none, 0, 0⟩
      dsimp only at E
      rw [← E]
      exact ⟨_, _, rfl, H, hA2.put (by omega) _ _, hR2'.put (by omega) _ _, putAt_below (by omega) _ _ _ kf⟩
    · have lBS := hBS.lt
      have n1 : w.heap.size + 1 + 1 ∉ f1 := fun h => by have := hO1.1 _ h; first | omega | (simp at this; done) | (simp at this; omega)
      have n2 : w.heap.size + 1 + 1 ∉ f2 := fun h => by have := hO2.1 _ h; first | omega | (simp at this; done) | (simp at this; omega)
      have H := LaidM.put (t := { t with args := [] }) (l := ⟨xa, xn, xc, ya, yn, yc, none, 0, 0⟩) (Nat.le_refl (w.heap.size + 1 + 1)) hB2 rfl h0 rfl rfl T1 T2 n1 n2
      have E := putAt_zero w2 (w.heap.size + 1 + 1) { t with args := [] } ⟨xa, xn, xc, ya, yn, yc, none, 0, 0⟩
      dsimp only at E
      rw [← E]
      exact ⟨_, _, rfl, H, hA2.put (by omega) _ _, hR2'.put (by omega) _ _, putAt_below (by omega) _ _ _ kf⟩
  case rest =>
    obtain ⟨S, l0, rfl, hL0, hA0, hR0, hb0⟩ := hcut
    clear C1 C2 HS kb kb2 HN1 HN2 HBS bn A R
    go_wp2_with fail
    go_loopw [4] (fun i wr => ∃ j : Nat, j ≤ l.an ∧ i = .int .i64 j ∧ (∃ lr, LaidM S (w.heap.size + 1 + 1) wr { t with args := t.args.take j } lr) ∧ Blk wr w.heap.size 29 #[.int .i64 t.kind, .string t.name, .string t.other, .int .i64 t.n, .int .i64 t.type.kind, .slice l.ta l.tn l.tc, .int .i64 t.res.kind, .slice l.ra l.rn l.rc, .slice l.aa l.an l.ac] ∧ Blk wr (w.heap.size + 1) 29 #[.int .i64 0, .string ⟨#[]⟩, .string ⟨#[]⟩, .int .i64 0, .int .i64 0, .slice none 0 0, .int .i64 0, .slice none 0 0, .slice none 0 0] ∧ Below w.heap.size w wr) (fun i _ => l.an - (intOf i).toNat)
    case atStart => exact ⟨0, by omega, rfl, ⟨l0, by simpa using hL0⟩, hA0, hR0, hb0⟩
    case round =>
      clear hL0 hA0 hR0 hb0
      obtain ⟨j, hj, rfl, ⟨lr, hL⟩, hA, hR, hb⟩ := hrel
      have hsz := hb.size
      have hB := hL.box
      obtain ⟨v0, v1, v2, v3, v4, v5, v6, v7, v8⟩ := hA.nine
      by_cases hjn : j < l.an
      · have hjx : j < t.args.length := by rw [← hr.1]; exact hjn
        obtain ⟨b, off, lx, ha, hlt, hc, hd⟩ := (hr.below hb).get j hjx
        obtain ⟨e0, e1, e2, e3, e4, e5, e6, e7, e8⟩ := hc.nine
        clear hc
        have hlen : (t.args.take j).length = j := by rw [List.length_take]; omega
        obtain ⟨hbX, -, hf, cs, f1, f2, f3, h1, h2, hown, h3, hX3, hX1, hX2, hap⟩ := hL
        replace hown : wr.ownsRow (w.heap.size + 1 + 1) 29 9 (.slice lr.aa lr.an lr.ac) j cs := by rw [← hlen]; exact hown
        have hlen := hide hlen
        have hsz1 : t.args[j].wt ≤ 1048576 := Tm.wt_part (List.getElem_mem hjx) hl
        have HBX := hide hB
        have s8 : wr.cell? ⟨S, 8, none⟩ = some (.slice lr.aa lr.an lr.ac) := hB.cell 8
        have lS := hB.lt
        rw [ha] at v8 ⊢
        go_wp2_with fail
        go_region_law (first
          | (go_simp; go_at_call 101; (with_reducible refine (IH.out _ (List.getElem_mem hjx) _ _ (hd.below (below_drew _)) hsz1).mono ?_); rintro e w1 ⟨l1, rfl, hO1, b1⟩; replace b1 : Below wr.heap.size wr w1 := below_next (below_drew _) b1; have s1 := b1.size; have B1 := HBX.out.under b1; have y8 := B1.cell 8; have y8n := fun o => (B1.alloc o).cell 8)
          | (refine step_append_lies _ (by rfl) _ _ _ (by rfl) (w.heap.size + 1 + 1) 29 i0 _ 9 136 Tryz.underlying27 hi hz0 hz1 hz2 rfl (by omega) (.slice lr.aa lr.an lr.ac) j cs (by rfl) ((own_below hown b1).alloc _) ⟨w1.heap.size, 0, none⟩ 1 1 (tcells t.args[j] l1) (by rfl) (by rfl) (World.news_of_block (cs := #[.int .i64 t.args[j].kind, .string t.args[j].name, .string t.args[j].other, .int .i64 t.args[j].n, .int .i64 t.args[j].type.kind, .slice l1.ta l1.tn l1.tc, .int .i64 t.args[j].res.kind, .slice l1.ra l1.rn l1.rc, .slice l1.aa l1.an l1.ac]) (t := 29) (fr := (0, 0)) (heap_alloc_new w1 _)) (by simp [Value.oneCell', tcells]) (by omega) (by unfold maxLen; omega) (by omega) (by simp; omega) (w1.heap.size + 1) (by simp) ?_; intro gg cap' w2 hown2 hgrow hat hlt2; have hB4 := box_grown (fun g hg => (hap g hg).1) B1 hgrow; have z8 := hB4.cell 8; have x8 := hB4.free 8))
        all_goals
          go_wp2_with fail
          go_roundw
          case rel =>
            obtain ⟨fx, hx, hxf⟩ := hO1.rm
            have hA5 := hA.under b1
            have hR5 := hR.under b1
            have hXg : ∀ X, X < (w.heap.size + 1 + 1) → some X ≠ (Value.slice lr.aa lr.an lr.ac).ownBlock := fun X hX e => by have := (hown.lt X e.symm).1; omega
            have H := LaidM.step (t := { t with args := t.args.take j }) (x := t.args[j]) hbX HBX.out hf hlen.out.symm h1 h2 hown h3 hX3 hX1 hX2 hap (Fresh.of_below b1) hx hxf hown2 hgrow rfl (by simpa using hat)
            refine ⟨j + 1, by omega, by go_num, ⟨_, by rw [take_snoc t.args j hjx]; exact H⟩, ?_, ?_, ?_⟩
            · have h := ((hA5.alloc _).grown hgrow (hXg _ (by omega))).far (p := ⟨S, 8, none⟩) (by simp; omega) (.slice (some ⟨gg, 0, none⟩) (j + 1) cap')
              rw [ha] at h
              exact h
            · exact ((hR5.alloc _).grown hgrow (hXg _ (by omega))).far (p := ⟨S, 8, none⟩) (by simp; omega) _
            · exact (((hb.trans (b1.mono hsz)).alloc (by omega) _).grown hgrow (by simp; omega) fun k hk => by have := (hown.lt k hk).1; omega).setCell (p := ⟨S, 8, none⟩) (by simp; omega) _
          case measure => simp [intOf]; omega
      · have h4 : l.an = t.args.length := hr.1
        replace hL := hL.all (by omega)
        clear hB
        have hB := hL.box
        obtain ⟨s0, s1, s2, s3, s4, s5, s6, s7, s8⟩ := hB.nine
        obtain ⟨q0, q1, q2, q3, q4, q5, q6, q7, q8⟩ : _ ∧ _ ∧ _ ∧ _ ∧ _ ∧ _ ∧ _ ∧ _ ∧ _ := ⟨hR.cell 0, hR.cell 1, hR.cell 2, hR.cell 3, hR.cell 4, hR.cell 5, hR.cell 6, hR.cell 7, hR.cell 8⟩
        simp at q0 q1 q2 q3 q4 q5 q6 q7 q8
        obtain ⟨z0, z1, z2, z3, z4, z5, z6, z7, z8⟩ : _ ∧ _ ∧ _ ∧ _ ∧ _ ∧ _ ∧ _ ∧ _ ∧ _ := ⟨hR.free 0, hR.free 1, hR.free 2, hR.free 3, hR.free 4, hR.free 5, hR.free 6, hR.free 7, hR.free 8⟩
        go_wp2_with fail
        have HO := (hL.own.keep (putAt_fresh (M := w.heap.size + 1) (by omega) (tcells t lr) wr 0)).base (show w.heap.size ≤ w.heap.size + 1 + 1 by omega)
        have HW := putAt_below (M := w.heap.size + 1) (B := w.heap.size) (by omega) (tcells t lr) wr 0 hb
        have HB := (put_box hR rfl t lr).nine
        have E := putAt_zero wr (w.heap.size + 1) t lr
        rw [← E]
        obtain ⟨r0, r1, r2, r3, r4, r5, r6, r7, r8⟩ := HB
        refine bodyPost_ret (v := .agg #[.int .i64 t.kind, .string t.name, .string t.other, .int .i64 t.n, .int .i64 t.type.kind, .slice lr.ta lr.tn lr.tc, .int .i64 t.res.kind, .slice lr.ra lr.rn lr.rc, .slice lr.aa lr.an lr.ac]) ?_ rfl ⟨lr, rfl, HO, HW⟩
        simp [results, Tryz.results101, go_sem, r0, r1, r2, r3, r4, r5, r6, r7, r8]
end Go.Proofs.YtklifieahcoljaaGreat
