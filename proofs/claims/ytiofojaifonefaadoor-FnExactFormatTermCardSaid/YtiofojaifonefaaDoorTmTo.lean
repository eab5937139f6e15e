/-
  The walks of toTerm and toTermS: a copy of a term in new memory.
-/
import Derived.Test.YtiofojaifonefaaDoorTmSz
import Derived.Test.YtiofojaifonefaaDoorTo
namespace Go.Proofs.YtiofojaifonefaaDoor
open Go.RowKit
set_option linter.unusedVariables false
set_option linter.unusedSimpArgs false

/-- These cells stored one behind the other. -/
def putAt (w : World) (M o : Nat) : List Value → World
  | [] => w
  | v :: vs => putAt (w.setCell ⟨M, o, none⟩ v) M (o + 1) vs
theorem putAt_same {M b : Nat} (hb : b ≠ M) : ∀ (vs : List Value) (w : World) (o : Nat), SameB w (putAt w M o vs) b
  | [], w, o => fun _ => rfl
  | v :: vs, w, o => (same_set (p := ⟨M, o, none⟩) hb v).trans (putAt_same hb vs _ _)
theorem putAt_frozen {M : Nat} : ∀ (vs : List Value) (w : World) (o : Nat) (p : Addr), (putAt w M o vs).frozen? p = w.frozen? p
  | [], w, o, p => rfl
  | v :: vs, w, o, p => (putAt_frozen vs _ _ p).trans (World.frozen?_setCell _ _ _ _)
theorem putAt_below {M B : Nat} {a : World} (hB : B ≤ M) : ∀ (vs : List Value) (w : World) (o : Nat), Below B a w → Below B a (putAt w M o vs)
  | [], w, o, h => h
  | v :: vs, w, o, h => putAt_below hB vs _ _ (h.setCell (p := ⟨M, o, none⟩) hB v)
theorem putAt_free {M : Nat} {fp : List Nat} {w : World} (h : Free w fp) (vs : List Value) (o : Nat) : Free (putAt w M o vs) fp := fun b hb x => (putAt_frozen vs w o _).trans (h b hb x)
theorem putAt_blk {M T : Nat} : ∀ (vs : List Value) (w : World) (o : Nat) (cs : Array Value), Blk w M T cs →
    ∃ cs', cs'.size = cs.size ∧ Blk (putAt w M o vs) M T cs' ∧ (∀ i, i < vs.length → o + i < cs.size → cs'[o + i]? = vs[i]?) ∧ (∀ i, i < o → cs'[i]? = cs[i]?)
  | [], w, o, cs, h => ⟨cs, rfl, h, fun i hi => by simp at hi, fun i _ => rfl⟩
  | v :: vs, w, o, cs, h => by
    obtain ⟨cs', hs, hB, h1, h2⟩ := putAt_blk vs _ (o + 1) _ (h.set_ o v)
    have hs' : (cs.setIfInBounds o v).size = cs.size := Array.size_setIfInBounds
    refine ⟨cs', hs.trans hs', hB, fun i hi hlt => ?_, fun i hi => ?_⟩
    · cases i with
      | zero =>
        rw [Nat.add_zero, h2 o (by omega)]
        rw [Array.getElem?_setIfInBounds_self_of_lt (by omega)]
        rfl
      | succ i =>
        rw [show o + (i + 1) = o + 1 + i by omega, h1 i (by simpa using hi) (by rw [hs']; omega)]
        rfl
    · rw [h2 i (by omega), Array.getElem?_setIfInBounds_ne (by omega)]

theorem putAt_tcells (w : World) (M o : Nat) (t : Tm) (l : Lt) : putAt w M o (tcells t l) =
    ((((((((w.setCell ⟨M, o, none⟩ (.int .i64 t.kind)).setCell ⟨M, o + 1, none⟩ (.string t.name)).setCell ⟨M, o + 2, none⟩ (.string t.other)).setCell ⟨M, o + 3, none⟩ (.int .i64 t.n)).setCell ⟨M, o + 4, none⟩ (.int .i64 t.type.kind)).setCell
      ⟨M, o + 5, none⟩ (.slice l.ta l.tn l.tc)).setCell ⟨M, o + 6, none⟩ (.int .i64 t.res.kind)).setCell ⟨M, o + 7, none⟩ (.slice l.ra l.rn l.rc)).setCell ⟨M, o + 8, none⟩ (.slice l.aa l.an l.ac) := rfl
/-- One term more laid into a block of the call's own, behind a call that made it. -/
theorem lay_term {wr w' : World} {M k n T : Nat} {xs : List Tm} {cs : Array Value} {fp f : List Nat} {l : Lt} (hR : RMs wr (xs.take k) M 0 fp) (hb' : Below wr.heap.size wr w') (hM : Blk wr M T cs)
    (hcs : cs.size = n * 9) (hkx : k < xs.length) (hkn : k < n) (hfp : ∀ b ∈ fp, M < b) (hR' : RM w' xs[k] l f) (hf' : ∀ b ∈ f, wr.heap.size ≤ b) :
    RMs (putAt w' M (k * 9) (tcells xs[k] l)) (xs.take (k + 1)) M 0 (fp ++ f) ∧ ∃ cs', cs'.size = n * 9 ∧ Blk (putAt w' M (k * 9) (tcells xs[k] l)) M T cs' := by
  have hM' := hM.under hb'
  have hl := hM.lt
  obtain ⟨cs', hs, hB, h1, h2⟩ := putAt_blk (tcells xs[k] l) w' (k * 9) cs hM'
  have hlk : (xs.take k).length = k := by rw [List.length_take]; omega
  refine ⟨?_, cs', hs.trans hcs, hB⟩
  rw [take_snoc xs k hkx]
  refine RMs_snoc (l := l) _ ?_ ?_ ?_
  · refine hR.keep_part (fun o _ ho => ?_) fun b hb => ?_
    · rw [hB.cell, hM.cell, h2 o (by rw [hlk] at ho; omega)]
    · have := hfp b hb
      exact (SameB.of_heap (hb'.block b (hR.lt b hb))).trans (putAt_same (by omega) _ _ _)
  · rw [hlk, Nat.zero_add]
    intro i v hv
    have hi : i < 9 := by
      rcases Nat.lt_or_ge i 9 with h | h
      · exact h
      · rw [List.getElem?_eq_none (by rw [tcells_len]; exact h)] at hv
        cases hv
    rw [hB.cell, h1 i (by rw [tcells_len]; exact hi) (by omega), hv]
  · refine RM.keep _ _ _ hR' fun b hb => putAt_same ?_ _ _ _
    have := hf' b hb
    omega

/-- What toTerm gives: the same tree in blocks of its own, all of them new. -/
def CopiedM (w : World) (t : Tm) (e : Ending) (w' : World) : Prop :=
  ∃ l fp, e = .returned (.agg #[.int .i64 t.kind, .string t.name, .string t.other, .int .i64 t.n, .int .i64 t.type.kind, .slice l.ta l.tn l.tc, .int .i64 t.res.kind, .slice l.ra l.rn l.rc, .slice l.aa l.an l.ac]) ∧ RM w' t l fp ∧ fp.Nodup ∧ Own w.heap.size w' fp ∧ Below w.heap.size w w'
def CopiedMS (w : World) (xs : List Tm) (e : Ending) (w' : World) : Prop :=
  ∃ g fp, e = .returned (.slice (some ⟨g, 0, none⟩) xs.length xs.length) ∧ RMs w' xs g 0 fp ∧ (g :: fp).Nodup ∧ Own w.heap.size w' (g :: fp) ∧ Below w.heap.size w w'

theorem Tryd.infoTerm : (Tryd.prog.info? 35).map (fun i => (i.zero, i.size, i.bytes)) = some (some (.agg #[.int .i64 0, .string ⟨#[]⟩, .string ⟨#[]⟩, .int .i64 0, .int .i64 0, .slice none 0 0, .int .i64 0, .slice none 0 0, .slice none 0 0]), 9, 136) := by kernel_rfl
theorem RM.mk {w : World} {t : Tm} {l : Lt} {f1 f2 f3 : List Nat} (h0 : i64 t.kind ∧ i64 t.n ∧ t.name.size ≤ 9223372036854775807 ∧ t.other.size ≤ 9223372036854775807) (h1 : l.an = t.args.length ∧ l.an ≤ l.ac ∧ l.ac ≤ maxLen)
    (ht : RT w t.type (.int .i64 t.type.kind) (.slice l.ta l.tn l.tc) f1) (hr : RT w t.res (.int .i64 t.res.kind) (.slice l.ra l.rn l.rc) f2)
    (h : (t.args = [] ∧ f3 = []) ∨ t.args ≠ [] ∧ ∃ b off fps, l.aa = some ⟨b, off, none⟩ ∧ f3 = b :: fps ∧ RMs w t.args b off fps) : RM w t l (f1 ++ (f2 ++ f3)) := by
  cases t
  rw [RM]
  exact ⟨h0, h1, f1, f2, f3, rfl, ht, hr, h⟩

set_option maxHeartbeats 800000 in
theorem toTermS_of (xs : List Tm)
    (ih : ∀ t ∈ xs, ∀ (l : Lt) (w : World), Md w t l → t.wt ≤ 1048576 → Calls Tryd.prog 7 #[.agg #[.int .i64 t.kind, .string t.name, .string t.other, .int .i64 t.n, .int .i64 t.type.kind, .slice l.ta l.tn l.tc, .int .i64 t.res.kind, .slice l.ra l.rn l.rc, .slice l.aa l.an l.ac]] w (CopiedM w t))
    (a : Option Addr) (n cap : Nat) (w : World) (h : Mds w xs a n cap) (hl : Tm.wts xs ≤ 1048576) :
    Calls Tryd.prog 17 #[.slice a n cap] w (CopiedMS w xs) := by
  have IH := hide ih
  clear ih
  have hn : n ≤ 1048576 := by
    have := Tm.length_le_wts xs
    have := h.1
    omega
  obtain ⟨i0, hi, hz0, hz1, hz2⟩ := info_parts Tryd.infoTerm
  have hmk := fun W => run_make_rowN (P := Tryd.prog) 33 35 i0 _ Tryd.underlying33 hi hz0 .i64 .i64 n n (Nat.le_refl _) (by rw [hz2]; omega) (by omega) W
  rw [hz1] at hmk
  clear hi hz0 hz1 hz2
  go_enter Tryd.func17, Tryd.ntmps17
  go_wp2_with fail
  clear hmk
  go_loopw [4] (fun i wr => ∃ k : Nat, k ≤ n ∧ i = .int .i64 k ∧ (∃ (cs : Array Value) (fp : List Nat), Blk wr w.heap.size 35 cs ∧ cs.size = n * 9 ∧ RMs wr (xs.take k) w.heap.size 0 fp ∧ fp.Nodup ∧ Free wr fp ∧ ∀ b ∈ fp, w.heap.size < b) ∧ Below w.heap.size w wr) (fun i _ => n - (intOf i).toNat)
  case atStart =>
    refine ⟨0, by omega, rfl, ⟨_, [], Blk.new w _ _, by simp [madeCells], by simp [RMs], by simp, Free.nil _, by simp⟩, (Below.refl _ _).alloc (Nat.le_refl _) _⟩
  case round =>
    obtain ⟨k, hk, rfl, ⟨cs, fp, hM, hcs, hR, hnd, hfr, hfp⟩, hb⟩ := hrel
    by_cases hkn : k < n
    · have hkx : k < xs.length := by rw [← h.1]; exact hkn
      obtain ⟨b, off, l, rfl, hlt', hc, hr⟩ := (h.below hb).get k hkx
      obtain ⟨e0, e1, e2, e3, e4, e5, e6, e7, e8⟩ := hc.nine
      clear hc
      have hsz : xs[k].wt ≤ 1048576 := by
        have h1 := Tm.wts_take xs k hkx
        have h2 := Tm.wts_take_le xs (k + 1)
        omega
      go_wp2_with (go_at_call 7; refine (IH.out _ (List.getElem_mem _) _ _ hr hsz).mono ?_; rintro e w' ⟨l', f, rfl, hR', hnd', hf', hb'⟩; have hM' := hM.under hb'
                   have g0 := hM'.at_ (i := k * 9) (by omega); have g1 := hM'.at_ (i := k * 9 + 1) (by omega); have g2 := hM'.at_ (i := k * 9 + 2) (by omega); have g3 := hM'.at_ (i := k * 9 + 3) (by omega); have g4 := hM'.at_ (i := k * 9 + 4) (by omega)
                   have g5 := hM'.at_ (i := k * 9 + 5) (by omega); have g6 := hM'.at_ (i := k * 9 + 6) (by omega); have g7 := hM'.at_ (i := k * 9 + 7) (by omega); have g8 := hM'.at_ (i := k * 9 + 8) (by omega)
                   have z0 := hM'.free (k * 9); have z1 := hM'.free (k * 9 + 1); have z2 := hM'.free (k * 9 + 2); have z3 := hM'.free (k * 9 + 3); have z4 := hM'.free (k * 9 + 4); have z5 := hM'.free (k * 9 + 5); have z6 := hM'.free (k * 9 + 6); have z7 := hM'.free (k * 9 + 7); have z8 := hM'.free (k * 9 + 8))
      go_roundw
      case rel =>
        obtain ⟨hL, cs', hcs', hB⟩ := lay_term hR hb' hM hcs hkx hkn hfp hR' hf'.1
        have hF := putAt_free (M := w.heap.size) ((hfr.below hR.lt hb').append hf'.2) (tcells xs[k] l') (k * 9)
        have hBel := putAt_below (M := w.heap.size) (Nat.le_refl _) (tcells xs[k] l') w' (k * 9) (hb.trans (hb'.mono hb.size))
        have hnd2 := nodup_join hnd hnd' hR.lt hf'.1
        have hgt : ∀ b ∈ fp ++ f, w.heap.size < b := fun b hb2 => (List.mem_append.1 hb2).elim (hfp b) fun hf2 => by have := hf'.1 b hf2; have := hM.lt; omega
        rw [putAt_tcells] at hL hB hF hBel
        clear IH hr h hM g0 g1 g2 g3 g4 g5 g6 g7 g8 z0 z1 z2 z3 z4 z5 z6 z7 z8 e0 e1 e2 e3 e4 e5 e6 e7 e8
        exact ⟨k + 1, by omega, by go_num, ⟨cs', fp ++ f, hB, hcs', hL, hnd2, hF, hgt⟩, hBel⟩
      case measure => simp [intOf]; omega
    · go_wp2
      go_ret
      have h4 := h.1
      rw [List.take_of_length_le (by omega)] at hR
      refine ⟨w.heap.size, fp, ?_, hR, List.nodup_cons.2 ⟨fun hin => absurd (hfp _ hin) (Nat.lt_irrefl _), hnd⟩, ⟨fun b hb2 => ?_, Free.cons hM.free hfr⟩, hb⟩
      · rw [← h4]
        rfl
      · rcases List.mem_cons.1 hb2 with rfl | hb2
        · exact Nat.le_refl _
        · exact Nat.le_of_lt (hfp b hb2)
theorem Blk.third (w : World) (o o' : Obj) (t : TypeId) (cs : Array Value) : Blk (((w.alloc o).alloc o').alloc (.cells cs t)) (w.heap.size + 1 + 1) t cs := by
  have h := Blk.new ((w.alloc o).alloc o') t cs
  simpa using h
theorem putAt_zero (w : World) (M : Nat) (t : Tm) (l : Lt) : putAt w M 0 (tcells t l) =
    ((((((((w.setCell ⟨M, 0, none⟩ (.int .i64 t.kind)).setCell ⟨M, 1, none⟩ (.string t.name)).setCell ⟨M, 2, none⟩ (.string t.other)).setCell ⟨M, 3, none⟩ (.int .i64 t.n)).setCell ⟨M, 4, none⟩ (.int .i64 t.type.kind)).setCell
      ⟨M, 5, none⟩ (.slice l.ta l.tn l.tc)).setCell ⟨M, 6, none⟩ (.int .i64 t.res.kind)).setCell ⟨M, 7, none⟩ (.slice l.ra l.rn l.rc)).setCell ⟨M, 8, none⟩ (.slice l.aa l.an l.ac) := rfl

set_option maxHeartbeats 1600000 in
theorem toTerm_any (t : Tm) : ∀ (l : Lt) (w : World), Md w t l → t.wt ≤ 1048576 → Calls Tryd.prog 7 #[.agg #[.int .i64 t.kind, .string t.name, .string t.other, .int .i64 t.n, .int .i64 t.type.kind, .slice l.ta l.tn l.tc, .int .i64 t.res.kind, .slice l.ra l.rn l.rc, .slice l.aa l.an l.ac]] w (CopiedM w t) := by
  induction t using Tm.ind' with | h t ih => ?_
  intro l w h hl
  have C := hide (toTermS_of t.args ih)
  clear ih
  obtain ⟨h0, ht, hr, hm⟩ := h.shape
  have hwt := t.wt_eq
  have htt : ∀ W, Below w.heap.size w W → Rd W t.type (.int .i64 t.type.kind) (.slice l.ta l.tn l.tc) := fun W hW => ht.below hW
  have hrr : ∀ W, Below w.heap.size w W → Rd W t.res (.int .i64 t.res.kind) (.slice l.ra l.rn l.rc) := fun W hW => hr.below hW
  have hmm : ∀ W, Below w.heap.size w W → Mds W t.args l.aa l.an l.ac := fun W hW => hm.below hW
  clear ht hr hm h
  go_enter Tryd.func7, Tryd.ntmps7
  go_wp2_with fail
  refine (toType_any t.type _ _ _ (htt _ (by repeat (first | exact Below.refl _ _ | assumption | refine Below.drew ?_ | refine below_drewN ?_ _ | refine Below.alloc ?_ (by first | omega | (simp; done) | (simp; omega)) _ | refine Below.setCell ?_ (by first | omega | (simp; done) | (simp; omega)) _))) (by omega)).mono ?_
  rintro e w1 ⟨d0, d1, f1, rfl, hT1, nd1, o1, b1⟩
  obtain ⟨ta, tn, tc, rfl, rfl, -, -⟩ := hT1.rd.shape
  have A1 : Blk w1 w.heap.size _ _ := (((Blk.new w _ _).alloc _).alloc _).under b1
  have R1 : Blk w1 (w.heap.size + 1) _ _ := ((Blk.new2 w _ _ _).alloc _).under b1
  have O1 : Blk w1 (w.heap.size + 1 + 1) _ _ := (Blk.third w _ _ _ _).under b1
  have k1 : Below w.heap.size w w1 := below_of_alloc (below_of_alloc (below_of_alloc b1))
  have lO := O1.lt
  have g1 : ∀ x ∈ f1, w.heap.size + 1 + 1 < x := fun x hx => by have := o1.1 x hx; simp at this; omega
  obtain ⟨u0, u1, u2, u3, u4, u5, u6, u7, u8⟩ := A1.nine
  have q4 := O1.cell 4
  have q5 := O1.cell 5
  have z4 := O1.free 4
  have z5 := O1.free 5
  go_wp2_with fail
  have k1' : Below w.heap.size w ((w1.setCell ⟨w.heap.size + 1 + 1, 4, none⟩ (.int .i64 t.type.kind)).setCell ⟨w.heap.size + 1 + 1, 5, none⟩ (.slice ta tn tc)) := (k1.setCell (p := ⟨w.heap.size + 1 + 1, 4, none⟩) (by simp; omega) _).setCell (p := ⟨w.heap.size + 1 + 1, 5, none⟩) (by simp; omega) _
  refine (toType_any t.res _ _ _ (hrr _ k1') (by omega)).mono ?_
  rintro e w2 ⟨d0, d1, f2, rfl, hT2, nd2, o2, b2⟩
  obtain ⟨ra, rn, rc, rfl, rfl, -, -⟩ := hT2.rd.shape
  have hne : w.heap.size ≠ w.heap.size + 1 + 1 := by omega
  have hne1 : w.heap.size + 1 ≠ w.heap.size + 1 + 1 := by omega
  have A2 : Blk w2 w.heap.size _ _ := ((A1.far (p := ⟨w.heap.size + 1 + 1, 4, none⟩) hne _).far (p := ⟨w.heap.size + 1 + 1, 5, none⟩) hne _).under b2
  have R2 : Blk w2 (w.heap.size + 1) _ _ := ((R1.far (p := ⟨w.heap.size + 1 + 1, 4, none⟩) hne1 _).far (p := ⟨w.heap.size + 1 + 1, 5, none⟩) hne1 _).under b2
  have O2 : Blk w2 (w.heap.size + 1 + 1) _ _ := ((O1.set_ 4 _).set_ 5 _).under b2
  have k2 : Below w.heap.size w w2 := below_next k1' b2
  have lO2 := O2.lt
  have l1 := RT.lt _ _ _ _ hT1
  have far1 : ∀ x ∈ f1, SameB w1 w2 x := fun x hx => by
    have h1 := g1 x hx
    have h2 := l1 x hx
    exact ((same_set (p := ⟨w.heap.size + 1 + 1, 4, none⟩) (by simp; omega) _).trans (same_set (p := ⟨w.heap.size + 1 + 1, 5, none⟩) (by simp; omega) _)).trans (SameB.of_heap (b2.block x (by simpa [World.setCell] using h2)))
  have hT1' := RT.keep _ _ _ _ hT1 far1
  have F1' : Free w2 f1 := Free.below ((o1.2.set_ ⟨w.heap.size + 1 + 1, 4, none⟩ (.int .i64 t.type.kind)).set_ ⟨w.heap.size + 1 + 1, 5, none⟩ (.slice ta tn tc)) (fun x hx => by simpa [World.setCell] using l1 x hx) b2
  have g2 : ∀ x ∈ f2, w1.heap.size ≤ x := fun x hx => by have := o2.1 x hx; simpa [World.setCell] using this
  clear u0 u1 u2 u3 u4 u5 u6 u7 u8 q4 q5 z4 z5
  obtain ⟨u0, u1, u2, u3, u4, u5, u6, u7, u8⟩ := A2.nine
  have q6 := O2.cell 6
  have q7 := O2.cell 7
  have z6 := O2.free 6
  have z7 := O2.free 7
  simp at q6 q7
  go_wp2_with fail
  have k2' : Below w.heap.size w ((w2.setCell ⟨w.heap.size + 1 + 1, 6, none⟩ (.int .i64 t.res.kind)).setCell ⟨w.heap.size + 1 + 1, 7, none⟩ (.slice ra rn rc)) := (k2.setCell (p := ⟨w.heap.size + 1 + 1, 6, none⟩) (by simp; omega) _).setCell (p := ⟨w.heap.size + 1 + 1, 7, none⟩) (by simp; omega) _
  refine (C.out _ _ _ _ (hmm _ k2') (by omega)).mono ?_
  rintro e w3 ⟨g, f3, rfl, hT3, nd3, o3, b3⟩
  have R3 : Blk w3 (w.heap.size + 1) _ _ := ((R2.far (p := ⟨w.heap.size + 1 + 1, 6, none⟩) hne1 _).far (p := ⟨w.heap.size + 1 + 1, 7, none⟩) hne1 _).under b3
  have O3 : Blk w3 (w.heap.size + 1 + 1) _ _ := ((O2.set_ 6 _).set_ 7 _).under b3
  have k3 : Below w.heap.size w w3 := below_next k2' b3
  have l2 := RT.lt _ _ _ _ hT2
  have l1' := RT.lt _ _ _ _ hT1'
  have far2 : ∀ x, w.heap.size + 1 + 1 < x → x < w2.heap.size → SameB w2 w3 x := fun x h1 h2 =>
    ((same_set (p := ⟨w.heap.size + 1 + 1, 6, none⟩) (by simp; omega) _).trans (same_set (p := ⟨w.heap.size + 1 + 1, 7, none⟩) (by simp; omega) _)).trans (SameB.of_heap (b3.block x (by simpa [World.setCell] using h2)))
  have hT1'' := RT.keep _ _ _ _ hT1' fun x hx => far2 x (g1 x hx) (l1' x hx)
  have hT2'' := RT.keep _ _ _ _ hT2 fun x hx => far2 x (by have := g2 x hx; omega) (l2 x hx)
  have F1'' : Free w3 f1 := Free.below ((F1'.set_ ⟨w.heap.size + 1 + 1, 6, none⟩ (.int .i64 t.res.kind)).set_ ⟨w.heap.size + 1 + 1, 7, none⟩ (.slice ra rn rc)) (fun x hx => by simpa [World.setCell] using l1' x hx) b3
  have F2'' : Free w3 f2 := Free.below ((o2.2.set_ ⟨w.heap.size + 1 + 1, 6, none⟩ (.int .i64 t.res.kind)).set_ ⟨w.heap.size + 1 + 1, 7, none⟩ (.slice ra rn rc)) (fun x hx => by simpa [World.setCell] using l2 x hx) b3
  have g3 : ∀ x ∈ g :: f3, w2.heap.size ≤ x := fun x hx => by have := o3.1 x hx; simpa [World.setCell] using this
  clear u0 u1 u2 u3 u4 u5 u6 u7 u8 q6 q7 z6 z7
  simp only [Array.setIfInBounds] at O3
  obtain ⟨q0, q1, q2, q3, q4, q5, q6, q7, q8⟩ : _ ∧ _ ∧ _ ∧ _ ∧ _ ∧ _ ∧ _ ∧ _ ∧ _ := ⟨O3.cell 0, O3.cell 1, O3.cell 2, O3.cell 3, O3.cell 4, O3.cell 5, O3.cell 6, O3.cell 7, O3.cell 8⟩
  obtain ⟨r0, r1, r2, r3, r4, r5, r6, r7, r8⟩ : _ ∧ _ ∧ _ ∧ _ ∧ _ ∧ _ ∧ _ ∧ _ ∧ _ := ⟨R3.cell 0, R3.cell 1, R3.cell 2, R3.cell 3, R3.cell 4, R3.cell 5, R3.cell 6, R3.cell 7, R3.cell 8⟩
  simp at q0 q1 q2 q3 q4 q5 q6 q7 q8 r0 r1 r2 r3 r4 r5 r6 r7 r8
  obtain ⟨z0, z1, z2, z3, z4, z5, z6, z7, z8⟩ : _ ∧ _ ∧ _ ∧ _ ∧ _ ∧ _ ∧ _ ∧ _ ∧ _ := ⟨R3.free 0, R3.free 1, R3.free 2, R3.free 3, R3.free 4, R3.free 5, R3.free 6, R3.free 7, R3.free 8⟩
  have z9 := O3.free 8
  go_wp2_with fail
  have s2 : w1.heap.size ≤ w2.heap.size := by have := b2.size; simpa [World.setCell] using this
  have E := putAt_zero (w3.setCell ⟨w.heap.size + 1 + 1, 8, none⟩ (.slice (some ⟨g, 0, none⟩) t.args.length t.args.length)) (w.heap.size + 1) t ⟨ta, tn, tc, ra, rn, rc, some ⟨g, 0, none⟩, t.args.length, t.args.length⟩
  dsimp only at E
  have far : ∀ x, w.heap.size + 1 + 1 < x → SameB w3 (putAt (w3.setCell ⟨w.heap.size + 1 + 1, 8, none⟩ (.slice (some ⟨g, 0, none⟩) t.args.length t.args.length)) (w.heap.size + 1) 0 (tcells t ⟨ta, tn, tc, ra, rn, rc, some ⟨g, 0, none⟩, t.args.length, t.args.length⟩)) x := fun x hx =>
    (same_set (p := ⟨w.heap.size + 1 + 1, 8, none⟩) (by simp; omega) _).trans (putAt_same (by omega) _ _ _)
  have hFree : ∀ fp, Free w3 fp → Free (putAt (w3.setCell ⟨w.heap.size + 1 + 1, 8, none⟩ (.slice (some ⟨g, 0, none⟩) t.args.length t.args.length)) (w.heap.size + 1) 0 (tcells t ⟨ta, tn, tc, ra, rn, rc, some ⟨g, 0, none⟩, t.args.length, t.args.length⟩)) fp := fun fp h => putAt_free (h.set_ _ _) _ _
  have hBel : Below w.heap.size w (putAt (w3.setCell ⟨w.heap.size + 1 + 1, 8, none⟩ (.slice (some ⟨g, 0, none⟩) t.args.length t.args.length)) (w.heap.size + 1) 0 (tcells t ⟨ta, tn, tc, ra, rn, rc, some ⟨g, 0, none⟩, t.args.length, t.args.length⟩)) := putAt_below (by omega) _ _ _ (k3.setCell (p := ⟨w.heap.size + 1 + 1, 8, none⟩) (by simp; omega) _)
  rw [E] at far hFree hBel
  have hlen : t.args.length ≤ maxLen := by
    have h1 := Tm.length_le_wts t.args
    unfold maxLen
    omega
  have H1 := RT.keep _ _ _ _ hT1'' fun x hx => far x (g1 x hx)
  have H2 := RT.keep _ _ _ _ hT2'' fun x hx => far x (by have := g2 x hx; omega)
  have H3 := hT3.keep (far g (by have := g3 g (by simp); omega)) fun x hx => far x (by have := g3 x (by simp [hx]); omega)
  refine bodyPost_ret (v := .agg #[.int .i64 t.kind, .string t.name, .string t.other, .int .i64 t.n, .int .i64 t.type.kind, .slice ta tn tc, .int .i64 t.res.kind, .slice ra rn rc, (.slice (some ⟨g, 0, none⟩) t.args.length t.args.length)]) (by simp [results, Tryd.results7, go_sem, r0, r1, r2, r3, r4, r5, r6, r7, r8]) rfl ?_
  by_cases hx : t.args = []
  · refine ⟨⟨ta, tn, tc, ra, rn, rc, some ⟨g, 0, none⟩, t.args.length, t.args.length⟩, f1 ++ (f2 ++ []), rfl, RM.mk h0 ⟨rfl, Nat.le_refl _, hlen⟩ H1 H2 (.inl ⟨hx, rfl⟩), ?_, ⟨?_, ?_⟩, hBel⟩
    · rw [List.append_nil]
      exact nodup_join nd1 nd2 l1 g2
    · intro x hx
      rw [List.append_nil] at hx
      rcases List.mem_append.1 hx with hx | hx
      · have := g1 x hx; omega
      · have := g2 x hx; omega
    · rw [List.append_nil]
      exact (hFree _ F1'').append (hFree _ F2'')
  · refine ⟨⟨ta, tn, tc, ra, rn, rc, some ⟨g, 0, none⟩, t.args.length, t.args.length⟩, f1 ++ (f2 ++ (g :: f3)), rfl, RM.mk h0 ⟨rfl, Nat.le_refl _, hlen⟩ H1 H2 (.inr ⟨hx, g, 0, f3, rfl, rfl, H3⟩), ?_, ⟨?_, ?_⟩, hBel⟩
    · refine nodup_join nd1 (nodup_join nd2 nd3 l2 g3) l1 fun x hx => ?_
      rcases List.mem_append.1 hx with hx | hx
      · exact g2 x hx
      · exact Nat.le_trans s2 (g3 x hx)
    · intro x hx
      rcases List.mem_append.1 hx with hx | hx
      · have := g1 x hx; omega
      · rcases List.mem_append.1 hx with hx | hx
        · have := g2 x hx; omega
        · have := g3 x hx; omega
    · exact (hFree _ F1'').append ((hFree _ F2'').append (hFree _ o3.2))
end Go.Proofs.YtiofojaifonefaaDoor
