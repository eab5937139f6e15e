/-
  The walk of l9Any: some form of a type at a level.
-/
import Derived.Test.YtklifieahcoljaaGreatBaseM
namespace Go.Proofs.YtklifieahcoljaaGreat
open Go.RowKit
set_option maxRecDepth 100000
set_option linter.unusedVariables false
set_option linter.unusedSimpArgs false

abbrev TwoB (b : Nat) (k : Int) (a : Option Addr) (n c : Nat) (W : World) : Prop := W.cell? ⟨b, 0, none⟩ = some (.int .i64 k) ∧ W.cell? ⟨b, 1, none⟩ = some (.slice a n c)
theorem twoB_set {b M i : Nat} {k : Int} {a : Option Addr} {n c : Nat} {W : World} {v : Value} (hne : b ≠ M) (h : TwoB b k a n c W) : TwoB b k a n c (W.setCell ⟨M, i, none⟩ v) :=
  ⟨(same_set (p := ⟨M, i, none⟩) hne v 0).trans h.1, (same_set (p := ⟨M, i, none⟩) hne v 1).trans h.2⟩
theorem twoBB_set {b b' M i : Nat} {k k' : Int} {a a' : Option Addr} {n c n' c' : Nat} {W : World} {v : Value} (hne' : b' ≠ M) (hne : b ≠ M) (h : TwoB b k a n c W ∧ TwoB b' k' a' n' c' W) : TwoB b k a n c (W.setCell ⟨M, i, none⟩ v) ∧ TwoB b' k' a' n' c' (W.setCell ⟨M, i, none⟩ v) :=
  ⟨twoB_set hne h.1, twoB_set hne' h.2⟩
theorem Mds_three {w : World} {t u x : Tm} {l m k : Lt} (h : Md w t l) (h2 : Md w u m) (h3 : Md w x k) : Mds (w.alloc (.cells #[.int .i64 t.kind, .string t.name, .string t.other, .int .i64 t.n, .int .i64 t.type.kind, .slice l.ta l.tn l.tc, .int .i64 t.res.kind, .slice l.ra l.rn l.rc, .slice l.aa l.an l.ac, .int .i64 u.kind, .string u.name, .string u.other, .int .i64 u.n, .int .i64 u.type.kind, .slice m.ta m.tn m.tc, .int .i64 u.res.kind, .slice m.ra m.rn m.rc, .slice m.aa m.an m.ac, .int .i64 x.kind, .string x.name, .string x.other, .int .i64 x.n, .int .i64 x.type.kind, .slice k.ta k.tn k.tc, .int .i64 x.res.kind, .slice k.ra k.rn k.rc, .slice k.aa k.an k.ac] 29)) [t, u, x] (some ⟨w.heap.size, 0, none⟩) 3 3 := by
  obtain ⟨f, hf⟩ := h.below (below_new w (.cells #[.int .i64 t.kind, .string t.name, .string t.other, .int .i64 t.n, .int .i64 t.type.kind, .slice l.ta l.tn l.tc, .int .i64 t.res.kind, .slice l.ra l.rn l.rc, .slice l.aa l.an l.ac, .int .i64 u.kind, .string u.name, .string u.other, .int .i64 u.n, .int .i64 u.type.kind, .slice m.ta m.tn m.tc, .int .i64 u.res.kind, .slice m.ra m.rn m.rc, .slice m.aa m.an m.ac, .int .i64 x.kind, .string x.name, .string x.other, .int .i64 x.n, .int .i64 x.type.kind, .slice k.ta k.tn k.tc, .int .i64 x.res.kind, .slice k.ra k.rn k.rc, .slice k.aa k.an k.ac] 29))
  obtain ⟨f2, hf2⟩ := h2.below (below_new w (.cells #[.int .i64 t.kind, .string t.name, .string t.other, .int .i64 t.n, .int .i64 t.type.kind, .slice l.ta l.tn l.tc, .int .i64 t.res.kind, .slice l.ra l.rn l.rc, .slice l.aa l.an l.ac, .int .i64 u.kind, .string u.name, .string u.other, .int .i64 u.n, .int .i64 u.type.kind, .slice m.ta m.tn m.tc, .int .i64 u.res.kind, .slice m.ra m.rn m.rc, .slice m.aa m.an m.ac, .int .i64 x.kind, .string x.name, .string x.other, .int .i64 x.n, .int .i64 x.type.kind, .slice k.ta k.tn k.tc, .int .i64 x.res.kind, .slice k.ra k.rn k.rc, .slice k.aa k.an k.ac] 29))
  obtain ⟨f3, hf3⟩ := h3.below (below_new w (.cells #[.int .i64 t.kind, .string t.name, .string t.other, .int .i64 t.n, .int .i64 t.type.kind, .slice l.ta l.tn l.tc, .int .i64 t.res.kind, .slice l.ra l.rn l.rc, .slice l.aa l.an l.ac, .int .i64 u.kind, .string u.name, .string u.other, .int .i64 u.n, .int .i64 u.type.kind, .slice m.ta m.tn m.tc, .int .i64 u.res.kind, .slice m.ra m.rn m.rc, .slice m.aa m.an m.ac, .int .i64 x.kind, .string x.name, .string x.other, .int .i64 x.n, .int .i64 x.type.kind, .slice k.ta k.tn k.tc, .int .i64 x.res.kind, .slice k.ra k.rn k.rc, .slice k.aa k.an k.ac] 29))
  have hB : Blk (w.alloc (.cells #[.int .i64 t.kind, .string t.name, .string t.other, .int .i64 t.n, .int .i64 t.type.kind, .slice l.ta l.tn l.tc, .int .i64 t.res.kind, .slice l.ra l.rn l.rc, .slice l.aa l.an l.ac, .int .i64 u.kind, .string u.name, .string u.other, .int .i64 u.n, .int .i64 u.type.kind, .slice m.ta m.tn m.tc, .int .i64 u.res.kind, .slice m.ra m.rn m.rc, .slice m.aa m.an m.ac, .int .i64 x.kind, .string x.name, .string x.other, .int .i64 x.n, .int .i64 x.type.kind, .slice k.ta k.tn k.tc, .int .i64 x.res.kind, .slice k.ra k.rn k.rc, .slice k.aa k.an k.ac] 29)) w.heap.size 29 (tcells t l ++ (tcells u m ++ tcells x k)).toArray := Blk.new w 29 #[.int .i64 t.kind, .string t.name, .string t.other, .int .i64 t.n, .int .i64 t.type.kind, .slice l.ta l.tn l.tc, .int .i64 t.res.kind, .slice l.ra l.rn l.rc, .slice l.aa l.an l.ac, .int .i64 u.kind, .string u.name, .string u.other, .int .i64 u.n, .int .i64 u.type.kind, .slice m.ta m.tn m.tc, .int .i64 u.res.kind, .slice m.ra m.rn m.rc, .slice m.aa m.an m.ac, .int .i64 x.kind, .string x.name, .string x.other, .int .i64 x.n, .int .i64 x.type.kind, .slice k.ta k.tn k.tc, .int .i64 x.res.kind, .slice k.ra k.rn k.rc, .slice k.aa k.an k.ac]
  have hC : RCM (w.alloc (.cells #[.int .i64 t.kind, .string t.name, .string t.other, .int .i64 t.n, .int .i64 t.type.kind, .slice l.ta l.tn l.tc, .int .i64 t.res.kind, .slice l.ra l.rn l.rc, .slice l.aa l.an l.ac, .int .i64 u.kind, .string u.name, .string u.other, .int .i64 u.n, .int .i64 u.type.kind, .slice m.ta m.tn m.tc, .int .i64 u.res.kind, .slice m.ra m.rn m.rc, .slice m.aa m.an m.ac, .int .i64 x.kind, .string x.name, .string x.other, .int .i64 x.n, .int .i64 x.type.kind, .slice k.ta k.tn k.tc, .int .i64 x.res.kind, .slice k.ra k.rn k.rc, .slice k.aa k.an k.ac] 29)) [t, u, x] (tcells t l ++ (tcells u m ++ tcells x k)) (f ++ (f2 ++ (f3 ++ []))) :=
    ⟨l, _, f, _, rfl, rfl, hf, m, _, f2, _, rfl, rfl, hf2, k, [], f3, [], by simp, rfl, hf3, rfl, rfl⟩
  refine ⟨rfl, Nat.le_refl _, by unfold maxLen; omega, .inr ⟨by simp, w.heap.size, 0, _, rfl, RCM_rms hC fun j u' hu => ?_⟩⟩
  rw [Nat.zero_add, hB.cell j, ← Array.getElem?_toList]
  exact hu
theorem let_wt (nm : ByteArray) (t1 t2 : Tm) {N B : Nat} (ho : nm.size ≤ N) (h : N + (1 + t1.wt + (1 + t2.wt)) ≤ B) : Tm.wt { nodeM 8 [t1, t2] with name := nm } ≤ B := by
  have h1 := wt_name (nodeM 8 [t1, t2]) nm
  rw [nodeM_wt, Tm.wts, Tm.wts, Tm.wts] at h1
  exact Nat.le_trans h1 (by omega)
theorem code_formed {t : Ty} (h : t.all Ty.formed = true) : Ty.all Ty.formed ⟨4, [t]⟩ = true := by
  rw [Ty.all_eq, Bool.and_eq_true]
  exact ⟨rfl, by simp [h]⟩

set_option maxHeartbeats 12800000 in
theorem l9Any_of (p d : Nat) (hd2 : 2 ≤ d) (hd5 : d ≤ 5) (hG : bndG (d - 1) ≤ 200000) (GEN : GenC p ((d : Int) - 1) (d - 1) (bndG (d - 1))) (base : Nat) (xs : List (Rc Int)) (a : Option Addr) (n cap : Nat) (t : Ty) (ta : Option Addr) (tn tc : Nat) (m : Int) (w : World) (hC : Cur w p) (hpb : p < base) (hbw : base ≤ w.heap.size) (hctx : CtxR base w xs a n cap) (hn' : n + d ≤ 100)
    (hT : TyA base w t ta tn tc) (hf : t.all Ty.formed = true) (hts' : t.size + d ≤ 100) (hm0 : 0 ≤ m) (hm1' : m + d ≤ 100) :
    Calls Tryz.prog 71 #[.pointer (some ⟨p, 0, none⟩), .slice a n cap, .agg #[.int .i64 t.kind, .slice ta tn tc], .int .i64 m, .int .i64 (d : Int)] w (DrawsM p (bndG d) w) := by
  have hbg := hide (bndG_step d hd2)
  have hn : n + (d - 1) ≤ 100 := by omega
  have hts : t.size + (d - 1) ≤ 100 := by omega
  have hm1 : m + ((d - 1 : Nat) : Int) ≤ 100 := by omega
  replace GEN := hide GEN
  have hlt := hC.lt
  have d0 := (Drew.alloc hC (.cells #[.int .i64 t.kind, .slice ta tn tc] 26)).trans (Drew.alloc (Drew.alloc hC (.cells #[.int .i64 t.kind, .slice ta tn tc] 26)).cur (.cells #[.int .i64 0, .string ⟨#[]⟩, .string ⟨#[]⟩, .int .i64 0, .int .i64 0, .slice none 0 0, .int .i64 0, .slice none 0 0, .slice none 0 0] 29))
  have T0 := (Blk.new w 26 #[.int .i64 t.kind, .slice ta tn tc]).alloc (.cells #[.int .i64 0, .string ⟨#[]⟩, .string ⟨#[]⟩, .int .i64 0, .int .i64 0, .slice none 0 0, .int .i64 0, .slice none 0 0, .slice none 0 0] 29)
  have B0 := Blk.new2 w (.cells #[.int .i64 t.kind, .slice ta tn tc] 26) 29 #[.int .i64 0, .string ⟨#[]⟩, .string ⟨#[]⟩, .int .i64 0, .int .i64 0, .slice none 0 0, .int .i64 0, .slice none 0 0, .slice none 0 0]
  have s0 : ((w.alloc (.cells #[.int .i64 t.kind, .slice ta tn tc] 26)).alloc (.cells #[.int .i64 0, .string ⟨#[]⟩, .string ⟨#[]⟩, .int .i64 0, .int .i64 0, .slice none 0 0, .int .i64 0, .slice none 0 0, .slice none 0 0] 29)).heap.size = w.heap.size + 1 + 1 := by simp
  go_enter Tryz.func71, Tryz.ntmps71
  go_upto_region 1 with fail
  generalize (w.alloc (.cells #[.int .i64 t.kind, .slice ta tn tc] 26)).alloc (.cells #[.int .i64 0, .string ⟨#[]⟩, .string ⟨#[]⟩, .int .i64 0, .int .i64 0, .slice none 0 0, .int .i64 0, .slice none 0 0, .slice none 0 0] 29) = wa at d0 T0 B0 s0 ⊢
  have da := d0.trans (Drew.alloc d0.cur (.cells #[.string ⟨#[120]⟩, .string ⟨#[121]⟩, .string ⟨#[122]⟩] 9))
  have lT0 := T0.lt
  have lB0 := B0.lt
  clear s0
  have CP : Hid (Calls Tryz.prog 41 #[.pointer (some ⟨p, 0, none⟩), .slice (some ⟨wa.heap.size, 0, none⟩) 3 3] (wa.alloc (.cells #[.string ⟨#[120]⟩, .string ⟨#[121]⟩, .string ⟨#[122]⟩] 9)) fun e w' => ∃ z : ByteArray, e = .returned (.string z) ∧ z.size ≤ 100 ∧ Drew p (wa.alloc (.cells #[.string ⟨#[120]⟩, .string ⟨#[121]⟩, .string ⟨#[122]⟩] 9)) w') :=
    l1Pick_sm p wa.heap.size [⟨#[120]⟩, ⟨#[121]⟩, ⟨#[122]⟩] 100 _ da.cur (Blk.new wa _ _) d0.cur.lt (by decide) (by decide)
  go_wp2_with fail
  (with_reducible refine CP.out.mono ?_)
  rintro e wb ⟨nm, rfl, hnm, db⟩
  have Db := da.trans db
  have T1 : Blk wb w.heap.size _ _ := (db.block (by simp; omega) (by omega)).trans (T0.alloc _)
  have B1 : Blk wb (w.heap.size + 1) _ _ := (db.block (by simp; omega) (by omega)).trans (B0.alloc _)
  go_wp2_with fail
  refine (l1Below_any p 5 _ Db.cur (by omega)).mono ?_
  rintro e W0 ⟨z, rfl, -, -, dc⟩
  have D0 := Db.trans dc
  have T2 : Blk W0 w.heap.size _ _ := (dc.block T1.lt (by omega)).trans T1
  have B2 : Blk W0 (w.heap.size + 1) _ _ := (dc.block B1.lt (by omega)).trans B1
  have lT2 := T2.lt
  have lB2 := B2.lt
  have s0W := D0.size
  have hbW0 : base ≤ W0.heap.size := Nat.le_trans hbw s0W
  have hpW : p < W0.heap.size := by omega
  replace hctx := hctx.keep (D0.fresh hpb)
  replace hT := hT.keep (D0.fresh hpb)
  clear da db dc Db d0 T0 B0 T1 B1 lT0 lB0
  obtain ⟨y0, y1⟩ := T2.two
  by_cases z0 : z = 0
  · subst z0
    go_upto_region 4 with fail
    have hwr : IntKind.i64.wrap ((d : Int) - 1) = (d : Int) - 1 := IntWalk.i64_in _ (by omega)
    have CG := hide (fun (W : World) (hd : Drew p W0 W) => (GEN.out base xs a n cap t ta tn tc m W hd.cur hpb (Nat.le_trans hbW0 hd.size) (hctx.keep (hd.fresh hpb)) hn (hT.keep (hd.fresh hpb)) hf hts hm0 hm1).mono fun e w' h => DrawsM.low h hd.size)
    have HR := hide (fun (W : World) (hd : Drew p W0 W) => show Blk W (w.heap.size + 1) 29 #[.int .i64 0, .string ⟨#[]⟩, .string ⟨#[]⟩, .int .i64 0, .int .i64 0, .slice none 0 0, .int .i64 0, .slice none 0 0, .slice none 0 0] from (hd.block lB2 (by omega)).trans B2)
    have hne : w.heap.size ≠ w.heap.size + 1 := by omega
    have kd : Drew p W0 W0.drew := Drew.of_below D0.cur (below_drew W0)
    have HK := hide (fun (W : World) (hd : Drew p W0 W) => show TwoB w.heap.size t.kind ta tn tc W from Blk.two ((hd.block lT2 (by omega)).trans T2))
    have CB := hide (fun (W : World) (hd : Drew p W0 W) => (GEN.out base xs a n cap ⟨2, []⟩ none 0 0 m W hd.cur hpb (Nat.le_trans hbW0 hd.size) (hctx.keep (hd.fresh hpb)) hn (TyA.nil _ _ _ (by simp [i64])) (by decide) (by simp [Ty.size, Ty.sizes]; omega) hm0 hm1).mono fun e w' h => DrawsM.low h hd.size)
    have CN := hide (fun (W : World) (t1 t2 t3 : Tm) (l1 l2 l3 : Lt) (h1 : Md W t1 l1) (h2 : Md W t2 l2) (h3 : Md W t3 l3) (w1 : t1.wt ≤ bndG (d - 1)) (w2 : t2.wt ≤ bndG (d - 1)) (w3 : t3.wt ≤ bndG (d - 1)) => (l5Node_any 5 [t1, t2, t3] (some ⟨W.heap.size, 0, none⟩) 3 3 _ (by simp [i64]) (Mds_three h1 h2 h3) (by simp only [Tm.wts]; omega)).mono fun e w' h => h.w (N := bndG d) (by rw [nodeM_wt]; simp only [Tm.wts]; have := hbg.out; omega))
    refine wp_region_noPanic ?_
    refine wp_region_held_drew (S := (fun W => (W.cell? ⟨w.heap.size, 0, none⟩ = some (.int .i64 t.kind) ∧ W.cell? ⟨w.heap.size, 1, none⟩ = some (.slice ta tn tc)))) (by kernel_rfl) ?_ (fun hHeld => ?_)
    · (try dsimp only)
      first | (with_reducible exact twoB_set hne (twoB_set hne (twoB_set hne (twoB_set hne (twoB_set hne (twoB_set hne (twoB_set hne (twoB_set hne (twoB_set hne (HK.out _ kd)))))))))) | exact HK.out _ kd | exact HK.out _ (kd.next (below_new _ _))
    refine takeW 0 (v := ?_) rfl (by kernel_rfl) (by kernel_rfl) (by kernel_rfl) (fun _ _ _ h => h) (by rfl) (by assumption) ?_ ?_
    rotate_left
    · intro w hSw
      (try dsimp only at hSw)
      go_simp
      (try with_reducible rfl)
    try simp only [Act.put, List.setIfInBounds_toArray, List.set_cons_zero, List.set_cons_succ]
    refine takeW 1 (v := ?_) rfl (by kernel_rfl) (by kernel_rfl) (by kernel_rfl) (fun _ _ _ h => h) (by rfl) (by assumption) ?_ ?_
    rotate_left
    · intro w hSw
      (try dsimp only at hSw)
      go_simp
      (try with_reducible rfl)
    try simp only [Act.put, List.setIfInBounds_toArray, List.set_cons_zero, List.set_cons_succ]
    refine takeW 3 (v := ?_) rfl (by kernel_rfl) (by kernel_rfl) (by kernel_rfl) (fun _ _ _ h => h) (by rfl) (by assumption) ?_ ?_
    rotate_left
    · intro w hSw
      (try dsimp only at hSw)
      go_simp
      (try with_reducible rfl)
    try simp only [Act.put, List.setIfInBounds_toArray, List.set_cons_zero, List.set_cons_succ]
    refine takeW 4 (v := ?_) rfl (by kernel_rfl) (by kernel_rfl) (by kernel_rfl) (fun _ _ _ h => h) (by rfl) (by assumption) ?_ ?_
    rotate_left
    · intro w hSw
      (try dsimp only at hSw)
      go_simp
      (try with_reducible rfl)
    try simp only [Act.put, List.setIfInBounds_toArray, List.set_cons_zero, List.set_cons_succ]
    refine takeW 5 (v := ?_) rfl (by kernel_rfl) (by kernel_rfl) (by kernel_rfl) (fun _ _ _ h => h) (by rfl) (by assumption) ?_ ?_
    rotate_left
    · intro w hSw
      (try dsimp only at hSw)
      go_simp
      (try with_reducible rfl)
    try simp only [Act.put, List.setIfInBounds_toArray, List.set_cons_zero, List.set_cons_succ]
    refine takeW 7 (v := ?_) rfl (by kernel_rfl) (by kernel_rfl) (by kernel_rfl) (fun _ _ _ h => h) (by rfl) (by assumption) ?_ ?_
    rotate_left
    · intro w hSw
      (try dsimp only at hSw)
      go_simp
      (try with_reducible rfl)
    try simp only [Act.put, List.setIfInBounds_toArray, List.set_cons_zero, List.set_cons_succ]
    refine takeW 8 (v := ?_) rfl (by kernel_rfl) (by kernel_rfl) (by kernel_rfl) (fun _ _ _ h => h) (by rfl) (by assumption) ?_ ?_
    rotate_left
    · intro w hSw
      (try dsimp only at hSw)
      go_simp
      (try with_reducible rfl)
    try simp only [Act.put, List.setIfInBounds_toArray, List.set_cons_zero, List.set_cons_succ]
    refine takeW 9 (v := ?_) rfl (by kernel_rfl) (by kernel_rfl) (by kernel_rfl) (fun _ _ _ h => h) (by rfl) (by assumption) ?_ ?_
    rotate_left
    · intro w hSw
      (try dsimp only at hSw)
      go_simp
      (try with_reducible rfl)
    try simp only [Act.put, List.setIfInBounds_toArray, List.set_cons_zero, List.set_cons_succ]
    refine takeW 10 (v := ?_) rfl (by kernel_rfl) (by kernel_rfl) (by kernel_rfl) (fun _ _ _ h => h) (by rfl) (by assumption) ?_ ?_
    rotate_left
    · intro w hSw
      (try dsimp only at hSw)
      go_simp
      (try with_reducible rfl)
    try simp only [Act.put, List.setIfInBounds_toArray, List.set_cons_zero, List.set_cons_succ]
    refine takeW 11 (v := ?_) rfl (by kernel_rfl) (by kernel_rfl) (by kernel_rfl) (fun _ _ _ h => h) (by rfl) (by assumption) ?_ ?_
    rotate_left
    · intro w hSw
      (try dsimp only at hSw)
      go_simp
      (try with_reducible rfl)
    try simp only [Act.put, List.setIfInBounds_toArray, List.set_cons_zero, List.set_cons_succ]
    refine takeW 12 (v := ?_) rfl (by kernel_rfl) (by kernel_rfl) (by kernel_rfl) (fun _ _ _ h => h) (by rfl) (by assumption) ?_ ?_
    rotate_left
    · intro w hSw
      (try dsimp only at hSw)
      go_simp
      (try with_reducible rfl)
    try simp only [Act.put, List.setIfInBounds_toArray, List.set_cons_zero, List.set_cons_succ]
    refine takeW 14 (v := ?_) rfl (by kernel_rfl) (by kernel_rfl) (by kernel_rfl) (fun _ _ _ h => h) (by rfl) (by assumption) ?_ ?_
    rotate_left
    · intro w hSw
      (try dsimp only at hSw)
      go_simp
      (try with_reducible rfl)
    try simp only [Act.put, List.setIfInBounds_toArray, List.set_cons_zero, List.set_cons_succ]
    refine takeW 15 (v := ?_) rfl (by kernel_rfl) (by kernel_rfl) (by kernel_rfl) (fun _ _ _ h => h) (by rfl) (by assumption) ?_ ?_
    rotate_left
    · intro w hSw
      (try dsimp only at hSw)
      go_simp
      (try with_reducible rfl)
    try simp only [Act.put, List.setIfInBounds_toArray, List.set_cons_zero, List.set_cons_succ]
    refine takeW 16 (v := ?_) rfl (by kernel_rfl) (by kernel_rfl) (by kernel_rfl) (fun _ _ _ h => h) (by rfl) (by assumption) ?_ ?_
    rotate_left
    · intro w hSw
      (try dsimp only at hSw)
      go_simp
      (try with_reducible rfl)
    try simp only [Act.put, List.setIfInBounds_toArray, List.set_cons_zero, List.set_cons_succ]
    refine takeW 17 (v := ?_) rfl (by kernel_rfl) (by kernel_rfl) (by kernel_rfl) (fun _ _ _ h => h) (by rfl) (by assumption) ?_ ?_
    rotate_left
    · intro w hSw
      (try dsimp only at hSw)
      go_simp
      (try with_reducible rfl)
    try simp only [Act.put, List.setIfInBounds_toArray, List.set_cons_zero, List.set_cons_succ]
    refine takeW 18 (v := ?_) rfl (by kernel_rfl) (by kernel_rfl) (by kernel_rfl) (fun _ _ _ h => h) (by rfl) (by assumption) ?_ ?_
    rotate_left
    · intro w hSw
      (try dsimp only at hSw)
      go_simp
      (try with_reducible rfl)
    try simp only [Act.put, List.setIfInBounds_toArray, List.set_cons_zero, List.set_cons_succ]
    refine takeW 19 (v := ?_) rfl (by kernel_rfl) (by kernel_rfl) (by kernel_rfl) (fun _ _ _ h => h) (by rfl) (by assumption) ?_ ?_
    rotate_left
    · intro w hSw
      (try dsimp only at hSw)
      go_simp
      (try with_reducible rfl)
    try simp only [Act.put, List.setIfInBounds_toArray, List.set_cons_zero, List.set_cons_succ]
    refine goW 2 rfl (by kernel_rfl) (fun K hK => ?_)
    go_simp
    go_at_call 46; (with_reducible refine (l3Bool_eq _).mono ?_); rintro e w3 ⟨rfl, b3⟩; have kd := kd.next b3
    refine hK.out _ _ ?_ (fun hHeld => ?_)
    · (try dsimp only)
      first | (with_reducible exact twoB_set hne (twoB_set hne (twoB_set hne (twoB_set hne (twoB_set hne (twoB_set hne (twoB_set hne (twoB_set hne (twoB_set hne (HK.out _ kd)))))))))) | exact HK.out _ kd | exact HK.out _ (kd.next (below_new _ _))
    clear hK K
    try simp only [Act.put, List.setIfInBounds_toArray, List.set_cons_zero, List.set_cons_succ]
    refine goW 6 rfl (by kernel_rfl) (fun K hK => ?_)
    go_simp
    go_at_call 49; (with_reducible refine (CB.out _ kd).mono ?_); rintro e w4 ⟨t1, l1, rfl, ho1, hs1, d4⟩; have kd := kd.trans d4
    refine hK.out _ _ ?_ (fun hHeld => ?_)
    · (try dsimp only)
      first | (with_reducible exact twoB_set hne (twoB_set hne (twoB_set hne (twoB_set hne (twoB_set hne (twoB_set hne (twoB_set hne (twoB_set hne (twoB_set hne (HK.out _ kd)))))))))) | exact HK.out _ kd | exact HK.out _ (kd.next (below_new _ _))
    clear hK K
    try simp only [Act.put, List.setIfInBounds_toArray, List.set_cons_zero, List.set_cons_succ]
    refine goW 13 rfl (by kernel_rfl) (fun K hK => ?_)
    go_simp
    go_at_call 49; (with_reducible refine (CG.out _ kd).mono ?_); rintro e w5 ⟨t2, l2, rfl, ho2, hs2, d5⟩; have kd := kd.trans d5
    refine hK.out _ _ ?_ (fun hHeld => ?_)
    · (try dsimp only)
      first | (with_reducible exact twoB_set hne (twoB_set hne (twoB_set hne (twoB_set hne (twoB_set hne (twoB_set hne (twoB_set hne (twoB_set hne (twoB_set hne (HK.out _ kd)))))))))) | exact HK.out _ kd | exact HK.out _ (kd.next (below_new _ _))
    clear hK K
    try simp only [Act.put, List.setIfInBounds_toArray, List.set_cons_zero, List.set_cons_succ]
    refine goW 20 rfl (by kernel_rfl) (fun K hK => ?_)
    go_simp
    go_at_call 49; (with_reducible refine (CG.out _ kd).mono ?_); rintro e w6 ⟨t3, l3, rfl, ho3, hs3, d6⟩; have kd := kd.trans d6; have kd6 := kd.size
    refine hK.out _ _ ?_ (fun hHeld => ?_)
    · (try dsimp only)
      first | (with_reducible exact twoB_set hne (twoB_set hne (twoB_set hne (twoB_set hne (twoB_set hne (twoB_set hne (twoB_set hne (twoB_set hne (twoB_set hne (HK.out _ kd)))))))))) | exact HK.out _ kd | exact HK.out _ (kd.next (below_new _ _))
    clear hK K
    try simp only [Act.put, List.setIfInBounds_toArray, List.set_cons_zero, List.set_cons_succ]
    refine goW 21 rfl (by kernel_rfl) (fun K hK => ?_)
    go_simp
    refine hK.out _ _ ?_ (fun hHeld => ?_)
    · (try dsimp only)
      first | (with_reducible exact twoB_set hne (twoB_set hne (twoB_set hne (twoB_set hne (twoB_set hne (twoB_set hne (twoB_set hne (twoB_set hne (twoB_set hne (HK.out _ kd)))))))))) | exact HK.out _ kd | exact HK.out _ (kd.next (below_new _ _))
    clear hK K
    try simp only [Act.put, List.setIfInBounds_toArray, List.set_cons_zero, List.set_cons_succ]
    refine goW 22 rfl (by kernel_rfl) (fun K hK => ?_)
    go_simp
    go_at_call 76; (with_reducible refine (CN.out w6 t1 t2 t3 l1 l2 l3 ((ho1.keep (d5.fresh hpW)).keep (d6.fresh hpW)).md (ho2.keep (d6.fresh hpW)).md ho3.md hs1 hs2 hs3).mono ?_); rintro e w7 ⟨t9, l9, rfl, ho9, hs9, b7⟩; replace ho9 := ho9.base (below_new w6 _).size; have kd := (kd.next (below_new _ _)).next b7; have BR := HR.out _ kd; obtain ⟨q0, q1, q2, q3, q4, q5, q6, q7, q8⟩ : _ ∧ _ ∧ _ ∧ _ ∧ _ ∧ _ ∧ _ ∧ _ ∧ _ := ⟨BR.cell 0, BR.cell 1, BR.cell 2, BR.cell 3, BR.cell 4, BR.cell 5, BR.cell 6, BR.cell 7, BR.cell 8⟩; simp at q0 q1 q2 q3 q4 q5 q6 q7 q8; obtain ⟨z0, z1, z2, z3, z4, z5, z6, z7, z8⟩ : _ ∧ _ ∧ _ ∧ _ ∧ _ ∧ _ ∧ _ ∧ _ ∧ _ := ⟨BR.free 0, BR.free 1, BR.free 2, BR.free 3, BR.free 4, BR.free 5, BR.free 6, BR.free 7, BR.free 8⟩
    refine hK.out _ _ ?_ (fun hHeld => ?_)
    · (try dsimp only)
      first | (with_reducible exact twoB_set hne (twoB_set hne (twoB_set hne (twoB_set hne (twoB_set hne (twoB_set hne (twoB_set hne (twoB_set hne (twoB_set hne (HK.out _ kd)))))))))) | exact HK.out _ kd | exact HK.out _ (kd.next (below_new _ _))
    clear hK K
    try simp only [Act.put, List.setIfInBounds_toArray, List.set_cons_zero, List.set_cons_succ]
    refine goW 23 rfl (by kernel_rfl) (fun K hK => ?_)
    go_simp
    refine hK.out _ _ ?_ (fun hHeld => ?_)
    · (try dsimp only)
      first | (with_reducible exact twoB_set hne (twoB_set hne (twoB_set hne (twoB_set hne (twoB_set hne (twoB_set hne (twoB_set hne (twoB_set hne (twoB_set hne (HK.out _ kd)))))))))) | exact HK.out _ kd | exact HK.out _ (kd.next (below_new _ _))
    clear hK K
    try simp only [Act.put, List.setIfInBounds_toArray, List.set_cons_zero, List.set_cons_succ]
    refine wpAnyH_done (by kernel_rfl) ?_ _
    refine NoPanic.normal ?_
    go_wp2_with fail
    have HD : DrawsM p (bndG d) w (.returned (.agg #[.int .i64 t9.kind, .string t9.name, .string t9.other, .int .i64 t9.n, .int .i64 t9.type.kind, .slice l9.ta l9.tn l9.tc, .int .i64 t9.res.kind, .slice l9.ra l9.rn l9.rc, .slice l9.aa l9.an l9.ac])) (putAt w7 (w.heap.size + 1) 0 (tcells t9 l9)) :=
      ⟨t9, l9, rfl, (ho9.keep (putAt_fresh (by omega) _ _ _)).base (by omega), hs9, Drew.put hC (D0.trans kd) (by omega) _ _⟩
    have HB := (put_box BR rfl t9 l9).nine
    have E := putAt_zero w7 (w.heap.size + 1) t9 l9
    rw [← E]
    obtain ⟨r0, r1, r2, r3, r4, r5, r6, r7, r8⟩ := HB
    refine bodyPost_ret (v := .agg #[.int .i64 t9.kind, .string t9.name, .string t9.other, .int .i64 t9.n, .int .i64 t9.type.kind, .slice l9.ta l9.tn l9.tc, .int .i64 t9.res.kind, .slice l9.ra l9.rn l9.rc, .slice l9.aa l9.an l9.ac]) ?_ rfl HD
    simp [results, Tryz.results71, go_sem, r0, r1, r2, r3, r4, r5, r6, r7, r8]
  have h0 : ((z : Int) == 0) = false := by simp; omega
  by_cases z1 : z = 1
  · subst z1
    go_wp2_with fail
    refine (l9Pick_any p m W0 D0.cur).mono ?_
    rintro e wu ⟨u, v, rfl, ho, hus, hfu, du⟩
    obtain ⟨ua, un, uc, rfl, -⟩ := ho.rd
    have D0z := (D0.trans du).trans (Drew.alloc (D0.trans du).cur (.cells #[.int .i64 u.kind, .slice ua un uc] 26))
    have T2z : Blk (wu.alloc (.cells #[.int .i64 u.kind, .slice ua un uc] 26)) w.heap.size 26 #[.int .i64 t.kind, .slice ta tn tc] := Blk.alloc ((du.block lT2 (by omega)).trans T2) _
    have B2z : Blk (wu.alloc (.cells #[.int .i64 u.kind, .slice ua un uc] 26)) (w.heap.size + 1) 29 #[.int .i64 0, .string ⟨#[]⟩, .string ⟨#[]⟩, .int .i64 0, .int .i64 0, .slice none 0 0, .int .i64 0, .slice none 0 0, .slice none 0 0] := Blk.alloc ((du.block lB2 (by omega)).trans B2) _
    have U2 := Blk.new wu 26 #[.int .i64 u.kind, .slice ua un uc]
    have su := du.size
    have fz : Fresh base W0 (wu.alloc (.cells #[.int .i64 u.kind, .slice ua un uc] 26)) := (du.fresh hpb).trans (Fresh.of_below (below_new wu _))
    have hU : TyA base (wu.alloc (.cells #[.int .i64 u.kind, .slice ua un uc] 26)) u ua un uc := ((TyA.of_own ho).base hbW0).keep (Fresh.of_below (below_new wu _))
    replace hctx := hctx.keep fz
    replace hT := hT.keep fz
    go_upto_region 7 with fail
    generalize wu.alloc (.cells #[.int .i64 u.kind, .slice ua un uc] 26) = Wz at D0z T2z B2z U2 hU hctx hT ⊢
    have lTz := T2z.lt
    have lBz := B2z.lt
    have lU2 := U2.lt
    have hbWz : base ≤ Wz.heap.size := by omega
    have hpWz : p < Wz.heap.size := by omega
    have s0z := D0z.size
    have hwu : w.heap.size + 1 < wu.heap.size := by omega
    clear y0 y1 T2 B2 D0 lT2 lB2 hbW0 hpW s0W fz du
    rename Drew p w Wz => D0
    rename Blk Wz w.heap.size _ _ => T2
    rename Blk Wz (w.heap.size + 1) _ _ => B2
    have lT2 := lTz
    have lB2 := lBz
    have hbW0 := hbWz
    have hpW := hpWz
    have s0W := s0z
    generalize Wz = W0 at *
    have hwr : IntKind.i64.wrap ((d : Int) - 1) = (d : Int) - 1 := IntWalk.i64_in _ (by omega)
    have CG := hide (fun (W : World) (hd : Drew p W0 W) => (GEN.out base xs a n cap t ta tn tc m W hd.cur hpb (Nat.le_trans hbW0 hd.size) (hctx.keep (hd.fresh hpb)) hn (hT.keep (hd.fresh hpb)) hf hts hm0 hm1).mono fun e w' h => DrawsM.low h hd.size)
    have HR := hide (fun (W : World) (hd : Drew p W0 W) => show Blk W (w.heap.size + 1) 29 #[.int .i64 0, .string ⟨#[]⟩, .string ⟨#[]⟩, .int .i64 0, .int .i64 0, .slice none 0 0, .int .i64 0, .slice none 0 0, .slice none 0 0] from (hd.block lB2 (by omega)).trans B2)
    have hne : w.heap.size ≠ w.heap.size + 1 := by omega
    have kd : Drew p W0 W0.drew := Drew.of_below D0.cur (below_drew W0)
    have HK := hide (fun (W : World) (hd : Drew p W0 W) => show TwoB w.heap.size t.kind ta tn tc W ∧ TwoB wu.heap.size u.kind ua un uc W from ⟨Blk.two ((hd.block lT2 (by omega)).trans T2), Blk.two ((hd.block lU2 (by omega)).trans U2)⟩)
    have CU := hide (fun (W : World) (hd : Drew p W0 W) => (GEN.out base xs a n cap u ua un uc m W hd.cur hpb (Nat.le_trans hbW0 hd.size) (hctx.keep (hd.fresh hpb)) hn (hU.keep (hd.fresh hpb)) hfu (by omega) hm0 hm1).mono fun e w' h => DrawsM.low h hd.size)
    have CW := hide (fun (W : World) (hd : Drew p W0 W) => l9With_any base xs a n cap nm u ua un uc m W (hctx.keep (hd.fresh hpb)) (by omega) hnm ⟨by omega, by omega⟩ (hU.keep (hd.fresh hpb)) (Nat.le_trans hbW0 hd.size))
    have CX := hide (fun (W : World) (a' : Option Addr) (cap' : Nat) (hd : Drew p W0 W) (hc : CtxR base W (xs ++ [⟨nm, u, m⟩]) a' (n + 1) cap') => (GEN.out base (xs ++ [⟨nm, u, m⟩]) a' (n + 1) cap' t ta tn tc m W hd.cur hpb (Nat.le_trans hbW0 hd.size) hc (by omega) (hT.keep (hd.fresh hpb)) hf hts hm0 hm1).mono fun e w' h => DrawsM.low h hd.size)
    have CL := hide (fun (W : World) (t1 t2 : Tm) (l1 l2 : Lt) (h1 : Md W t1 l1) (h2 : Md W t2 l2) (w1 : t1.wt ≤ bndG (d - 1)) (w2 : t2.wt ≤ bndG (d - 1)) => (l5Let_any nm t1 t2 l1 l2 W (by omega) h1 h2 (by omega)).mono fun e w' h => h.w (N := bndG d) (let_wt (N := 100) nm t1 t2 hnm (by have := hbg.out; omega)))
    have hnu : wu.heap.size ≠ w.heap.size + 1 := by omega
    refine wp_region_noPanic ?_
    refine wp_region_held_drew (S := (fun W => (W.cell? ⟨w.heap.size, 0, none⟩ = some (.int .i64 t.kind) ∧ W.cell? ⟨w.heap.size, 1, none⟩ = some (.slice ta tn tc)) ∧ (W.cell? ⟨wu.heap.size, 0, none⟩ = some (.int .i64 u.kind) ∧ W.cell? ⟨wu.heap.size, 1, none⟩ = some (.slice ua un uc)))) (by kernel_rfl) ?_ (fun hHeld => ?_)
    · (try dsimp only)
      first | (with_reducible exact twoBB_set hnu hne (twoBB_set hnu hne (twoBB_set hnu hne (twoBB_set hnu hne (twoBB_set hnu hne (twoBB_set hnu hne (twoBB_set hnu hne (twoBB_set hnu hne (twoBB_set hnu hne (HK.out _ kd)))))))))) | exact HK.out _ kd | exact HK.out _ (kd.next (below_new _ _))
    refine takeW 0 (v := ?_) rfl (by kernel_rfl) (by kernel_rfl) (by kernel_rfl) (fun _ _ _ h => h) (by rfl) (by assumption) ?_ ?_
    rotate_left
    · intro w hSw
      (try dsimp only at hSw)
      go_simp
      (try with_reducible rfl)
    try simp only [Act.put, List.setIfInBounds_toArray, List.set_cons_zero, List.set_cons_succ]
    refine takeW 1 (v := ?_) rfl (by kernel_rfl) (by kernel_rfl) (by kernel_rfl) (fun _ _ _ h => h) (by rfl) (by assumption) ?_ ?_
    rotate_left
    · intro w hSw
      (try dsimp only at hSw)
      go_simp
      (try with_reducible rfl)
    try simp only [Act.put, List.setIfInBounds_toArray, List.set_cons_zero, List.set_cons_succ]
    refine takeW 2 (v := ?_) rfl (by kernel_rfl) (by kernel_rfl) (by kernel_rfl) (fun _ _ _ h => h) (by rfl) (by assumption) ?_ ?_
    rotate_left
    · intro w hSw
      (try dsimp only at hSw)
      go_simp
      (try with_reducible rfl)
    try simp only [Act.put, List.setIfInBounds_toArray, List.set_cons_zero, List.set_cons_succ]
    refine takeW 3 (v := ?_) rfl (by kernel_rfl) (by kernel_rfl) (by kernel_rfl) (fun _ _ _ h => h) (by rfl) (by assumption) ?_ ?_
    rotate_left
    · intro w hSw
      (try dsimp only at hSw)
      go_simp
      (try with_reducible rfl)
    try simp only [Act.put, List.setIfInBounds_toArray, List.set_cons_zero, List.set_cons_succ]
    refine takeW 4 (v := ?_) rfl (by kernel_rfl) (by kernel_rfl) (by kernel_rfl) (fun _ _ _ h => h) (by rfl) (by assumption) ?_ ?_
    rotate_left
    · intro w hSw
      (try dsimp only at hSw)
      go_simp
      (try with_reducible rfl)
    try simp only [Act.put, List.setIfInBounds_toArray, List.set_cons_zero, List.set_cons_succ]
    refine takeW 5 (v := ?_) rfl (by kernel_rfl) (by kernel_rfl) (by kernel_rfl) (fun _ _ _ h => h) (by rfl) (by assumption) ?_ ?_
    rotate_left
    · intro w hSw
      (try dsimp only at hSw)
      go_simp
      (try with_reducible rfl)
    try simp only [Act.put, List.setIfInBounds_toArray, List.set_cons_zero, List.set_cons_succ]
    refine takeW 6 (v := ?_) rfl (by kernel_rfl) (by kernel_rfl) (by kernel_rfl) (fun _ _ _ h => h) (by rfl) (by assumption) ?_ ?_
    rotate_left
    · intro w hSw
      (try dsimp only at hSw)
      go_simp
      (try with_reducible rfl)
    try simp only [Act.put, List.setIfInBounds_toArray, List.set_cons_zero, List.set_cons_succ]
    refine takeW 8 (v := ?_) rfl (by kernel_rfl) (by kernel_rfl) (by kernel_rfl) (fun _ _ _ h => h) (by rfl) (by assumption) ?_ ?_
    rotate_left
    · intro w hSw
      (try dsimp only at hSw)
      go_simp
      (try with_reducible rfl)
    try simp only [Act.put, List.setIfInBounds_toArray, List.set_cons_zero, List.set_cons_succ]
    refine takeW 9 (v := ?_) rfl (by kernel_rfl) (by kernel_rfl) (by kernel_rfl) (fun _ _ _ h => h) (by rfl) (by assumption) ?_ ?_
    rotate_left
    · intro w hSw
      (try dsimp only at hSw)
      go_simp
      (try with_reducible rfl)
    try simp only [Act.put, List.setIfInBounds_toArray, List.set_cons_zero, List.set_cons_succ]
    refine takeW 10 (v := ?_) rfl (by kernel_rfl) (by kernel_rfl) (by kernel_rfl) (fun _ _ _ h => h) (by rfl) (by assumption) ?_ ?_
    rotate_left
    · intro w hSw
      (try dsimp only at hSw)
      go_simp
      (try with_reducible rfl)
    try simp only [Act.put, List.setIfInBounds_toArray, List.set_cons_zero, List.set_cons_succ]
    refine takeW 11 (v := ?_) rfl (by kernel_rfl) (by kernel_rfl) (by kernel_rfl) (fun _ _ _ h => h) (by rfl) (by assumption) ?_ ?_
    rotate_left
    · intro w hSw
      (try dsimp only at hSw)
      go_simp
      (try with_reducible rfl)
    try simp only [Act.put, List.setIfInBounds_toArray, List.set_cons_zero, List.set_cons_succ]
    refine takeW 12 (v := ?_) rfl (by kernel_rfl) (by kernel_rfl) (by kernel_rfl) (fun _ _ _ h => h) (by rfl) (by assumption) ?_ ?_
    rotate_left
    · intro w hSw
      (try dsimp only at hSw)
      go_simp
      (try with_reducible rfl)
    try simp only [Act.put, List.setIfInBounds_toArray, List.set_cons_zero, List.set_cons_succ]
    refine takeW 14 (v := ?_) rfl (by kernel_rfl) (by kernel_rfl) (by kernel_rfl) (fun _ _ _ h => h) (by rfl) (by assumption) ?_ ?_
    rotate_left
    · intro w hSw
      (try dsimp only at hSw)
      go_simp
      (try with_reducible rfl)
    try simp only [Act.put, List.setIfInBounds_toArray, List.set_cons_zero, List.set_cons_succ]
    refine takeW 15 (v := ?_) rfl (by kernel_rfl) (by kernel_rfl) (by kernel_rfl) (fun _ _ _ h => h) (by rfl) (by assumption) ?_ ?_
    rotate_left
    · intro w hSw
      (try dsimp only at hSw)
      go_simp
      (try with_reducible rfl)
    try simp only [Act.put, List.setIfInBounds_toArray, List.set_cons_zero, List.set_cons_succ]
    refine takeW 16 (v := ?_) rfl (by kernel_rfl) (by kernel_rfl) (by kernel_rfl) (fun _ _ _ h => h) (by rfl) (by assumption) ?_ ?_
    rotate_left
    · intro w hSw
      (try dsimp only at hSw)
      go_simp
      (try with_reducible rfl)
    try simp only [Act.put, List.setIfInBounds_toArray, List.set_cons_zero, List.set_cons_succ]
    refine takeW 17 (v := ?_) rfl (by kernel_rfl) (by kernel_rfl) (by kernel_rfl) (fun _ _ _ h => h) (by rfl) (by assumption) ?_ ?_
    rotate_left
    · intro w hSw
      (try dsimp only at hSw)
      go_simp
      (try with_reducible rfl)
    try simp only [Act.put, List.setIfInBounds_toArray, List.set_cons_zero, List.set_cons_succ]
    refine goW 7 rfl (by kernel_rfl) (fun K hK => ?_)
    go_simp
    go_at_call 49; (with_reducible refine (CU.out _ kd).mono ?_); rintro e w4 ⟨t1, l1, rfl, ho1, hs1, d4⟩; have kd := kd.trans d4
    refine hK.out _ _ ?_ (fun hHeld => ?_)
    · (try dsimp only)
      first | (with_reducible exact twoBB_set hnu hne (twoBB_set hnu hne (twoBB_set hnu hne (twoBB_set hnu hne (twoBB_set hnu hne (twoBB_set hnu hne (twoBB_set hnu hne (twoBB_set hnu hne (twoBB_set hnu hne (HK.out _ kd)))))))))) | exact HK.out _ kd | exact HK.out _ (kd.next (below_new _ _))
    clear hK K
    try simp only [Act.put, List.setIfInBounds_toArray, List.set_cons_zero, List.set_cons_succ]
    refine goW 13 rfl (by kernel_rfl) (fun K hK => ?_)
    go_simp
    go_at_call 74; (with_reducible refine (CW.out _ kd).mono ?_); rintro e w5 ⟨a5, c5, rfl, hc5, b5⟩; have kd := kd.next b5
    refine hK.out _ _ ?_ (fun hHeld => ?_)
    · (try dsimp only)
      first | (with_reducible exact twoBB_set hnu hne (twoBB_set hnu hne (twoBB_set hnu hne (twoBB_set hnu hne (twoBB_set hnu hne (twoBB_set hnu hne (twoBB_set hnu hne (twoBB_set hnu hne (twoBB_set hnu hne (HK.out _ kd)))))))))) | exact HK.out _ kd | exact HK.out _ (kd.next (below_new _ _))
    clear hK K
    try simp only [Act.put, List.setIfInBounds_toArray, List.set_cons_zero, List.set_cons_succ]
    refine goW 18 rfl (by kernel_rfl) (fun K hK => ?_)
    go_simp
    go_at_call 49; (with_reducible refine (CX.out _ a5 c5 kd hc5).mono ?_); rintro e w6 ⟨t2, l2, rfl, ho2, hs2, d6⟩; have kd := kd.trans d6; have kd6 := kd.size
    refine hK.out _ _ ?_ (fun hHeld => ?_)
    · (try dsimp only)
      first | (with_reducible exact twoBB_set hnu hne (twoBB_set hnu hne (twoBB_set hnu hne (twoBB_set hnu hne (twoBB_set hnu hne (twoBB_set hnu hne (twoBB_set hnu hne (twoBB_set hnu hne (twoBB_set hnu hne (HK.out _ kd)))))))))) | exact HK.out _ kd | exact HK.out _ (kd.next (below_new _ _))
    clear hK K
    try simp only [Act.put, List.setIfInBounds_toArray, List.set_cons_zero, List.set_cons_succ]
    refine goW 19 rfl (by kernel_rfl) (fun K hK => ?_)
    go_simp
    go_at_call 97; (with_reducible refine (CL.out w6 t1 t2 l1 l2 ((ho1.keep (Fresh.of_below b5)).keep (d6.fresh hpW)).md ho2.md hs1 hs2).mono ?_); rintro e w7 ⟨t9, l9, rfl, ho9, hs9, b7⟩; have kd := kd.next b7; have BR := HR.out _ kd; obtain ⟨q0, q1, q2, q3, q4, q5, q6, q7, q8⟩ : _ ∧ _ ∧ _ ∧ _ ∧ _ ∧ _ ∧ _ ∧ _ ∧ _ := ⟨BR.cell 0, BR.cell 1, BR.cell 2, BR.cell 3, BR.cell 4, BR.cell 5, BR.cell 6, BR.cell 7, BR.cell 8⟩; simp at q0 q1 q2 q3 q4 q5 q6 q7 q8; obtain ⟨z0, z1, z2, z3, z4, z5, z6, z7, z8⟩ : _ ∧ _ ∧ _ ∧ _ ∧ _ ∧ _ ∧ _ ∧ _ ∧ _ := ⟨BR.free 0, BR.free 1, BR.free 2, BR.free 3, BR.free 4, BR.free 5, BR.free 6, BR.free 7, BR.free 8⟩
    refine hK.out _ _ ?_ (fun hHeld => ?_)
    · (try dsimp only)
      first | (with_reducible exact twoBB_set hnu hne (twoBB_set hnu hne (twoBB_set hnu hne (twoBB_set hnu hne (twoBB_set hnu hne (twoBB_set hnu hne (twoBB_set hnu hne (twoBB_set hnu hne (twoBB_set hnu hne (HK.out _ kd)))))))))) | exact HK.out _ kd | exact HK.out _ (kd.next (below_new _ _))
    clear hK K
    try simp only [Act.put, List.setIfInBounds_toArray, List.set_cons_zero, List.set_cons_succ]
    refine goW 20 rfl (by kernel_rfl) (fun K hK => ?_)
    go_simp
    refine hK.out _ _ ?_ (fun hHeld => ?_)
    · (try dsimp only)
      first | (with_reducible exact twoBB_set hnu hne (twoBB_set hnu hne (twoBB_set hnu hne (twoBB_set hnu hne (twoBB_set hnu hne (twoBB_set hnu hne (twoBB_set hnu hne (twoBB_set hnu hne (twoBB_set hnu hne (HK.out _ kd)))))))))) | exact HK.out _ kd | exact HK.out _ (kd.next (below_new _ _))
    clear hK K
    try simp only [Act.put, List.setIfInBounds_toArray, List.set_cons_zero, List.set_cons_succ]
    refine wpAnyH_done (by kernel_rfl) ?_ _
    refine NoPanic.normal ?_
    go_wp2_with fail
    have HD : DrawsM p (bndG d) w (.returned (.agg #[.int .i64 t9.kind, .string t9.name, .string t9.other, .int .i64 t9.n, .int .i64 t9.type.kind, .slice l9.ta l9.tn l9.tc, .int .i64 t9.res.kind, .slice l9.ra l9.rn l9.rc, .slice l9.aa l9.an l9.ac])) (putAt w7 (w.heap.size + 1) 0 (tcells t9 l9)) :=
      ⟨t9, l9, rfl, (ho9.keep (putAt_fresh (by omega) _ _ _)).base (by omega), hs9, Drew.put hC (D0.trans kd) (by omega) _ _⟩
    have HB := (put_box BR rfl t9 l9).nine
    have E := putAt_zero w7 (w.heap.size + 1) t9 l9
    rw [← E]
    obtain ⟨r0, r1, r2, r3, r4, r5, r6, r7, r8⟩ := HB
    refine bodyPost_ret (v := .agg #[.int .i64 t9.kind, .string t9.name, .string t9.other, .int .i64 t9.n, .int .i64 t9.type.kind, .slice l9.ta l9.tn l9.tc, .int .i64 t9.res.kind, .slice l9.ra l9.rn l9.rc, .slice l9.aa l9.an l9.ac]) ?_ rfl HD
    simp [results, Tryz.results71, go_sem, r0, r1, r2, r3, r4, r5, r6, r7, r8]
  have h1 : ((z : Int) == 1) = false := by simp; omega
  by_cases z2 : z = 2
  · subst z2
    go_wp2_with fail
    refine (l9Pick_any p m W0 D0.cur).mono ?_
    rintro e wu ⟨u, v, rfl, ho, hus, hfu, du⟩
    obtain ⟨ua, un, uc, rfl, -⟩ := ho.rd
    have D0z := (D0.trans du).trans (Drew.alloc (D0.trans du).cur (.cells #[.int .i64 u.kind, .slice ua un uc] 26))
    have T2z : Blk (wu.alloc (.cells #[.int .i64 u.kind, .slice ua un uc] 26)) w.heap.size 26 #[.int .i64 t.kind, .slice ta tn tc] := Blk.alloc ((du.block lT2 (by omega)).trans T2) _
    have B2z : Blk (wu.alloc (.cells #[.int .i64 u.kind, .slice ua un uc] 26)) (w.heap.size + 1) 29 #[.int .i64 0, .string ⟨#[]⟩, .string ⟨#[]⟩, .int .i64 0, .int .i64 0, .slice none 0 0, .int .i64 0, .slice none 0 0, .slice none 0 0] := Blk.alloc ((du.block lB2 (by omega)).trans B2) _
    have U2 := Blk.new wu 26 #[.int .i64 u.kind, .slice ua un uc]
    have su := du.size
    have fz : Fresh base W0 (wu.alloc (.cells #[.int .i64 u.kind, .slice ua un uc] 26)) := (du.fresh hpb).trans (Fresh.of_below (below_new wu _))
    have hU : TyA base (wu.alloc (.cells #[.int .i64 u.kind, .slice ua un uc] 26)) u ua un uc := ((TyA.of_own ho).base hbW0).keep (Fresh.of_below (below_new wu _))
    replace hctx := hctx.keep fz
    replace hT := hT.keep fz
    go_upto_region 10 with fail
    generalize wu.alloc (.cells #[.int .i64 u.kind, .slice ua un uc] 26) = Wz at D0z T2z B2z U2 hU hctx hT ⊢
    have lTz := T2z.lt
    have lBz := B2z.lt
    have lU2 := U2.lt
    have hbWz : base ≤ Wz.heap.size := by omega
    have hpWz : p < Wz.heap.size := by omega
    have s0z := D0z.size
    have hwu : w.heap.size + 1 < wu.heap.size := by omega
    clear y0 y1 T2 B2 D0 lT2 lB2 hbW0 hpW s0W fz du
    rename Drew p w Wz => D0
    rename Blk Wz w.heap.size _ _ => T2
    rename Blk Wz (w.heap.size + 1) _ _ => B2
    have lT2 := lTz
    have lB2 := lBz
    have hbW0 := hbWz
    have hpW := hpWz
    have s0W := s0z
    generalize Wz = W0 at *
    have hwr : IntKind.i64.wrap ((d : Int) - 1) = (d : Int) - 1 := IntWalk.i64_in _ (by omega)
    have CG := hide (fun (W : World) (hd : Drew p W0 W) => (GEN.out base xs a n cap t ta tn tc m W hd.cur hpb (Nat.le_trans hbW0 hd.size) (hctx.keep (hd.fresh hpb)) hn (hT.keep (hd.fresh hpb)) hf hts hm0 hm1).mono fun e w' h => DrawsM.low h hd.size)
    have HR := hide (fun (W : World) (hd : Drew p W0 W) => show Blk W (w.heap.size + 1) 29 #[.int .i64 0, .string ⟨#[]⟩, .string ⟨#[]⟩, .int .i64 0, .int .i64 0, .slice none 0 0, .int .i64 0, .slice none 0 0, .slice none 0 0] from (hd.block lB2 (by omega)).trans B2)
    have hne : w.heap.size ≠ w.heap.size + 1 := by omega
    have kd : Drew p W0 W0.drew := Drew.of_below D0.cur (below_drew W0)
    have HK := hide (fun (W : World) (hd : Drew p W0 W) => show TwoB w.heap.size t.kind ta tn tc W ∧ TwoB wu.heap.size u.kind ua un uc W from ⟨Blk.two ((hd.block lT2 (by omega)).trans T2), Blk.two ((hd.block lU2 (by omega)).trans U2)⟩)
    have CU := hide (fun (W : World) (hd : Drew p W0 W) => (GEN.out base xs a n cap u ua un uc m W hd.cur hpb (Nat.le_trans hbW0 hd.size) (hctx.keep (hd.fresh hpb)) hn (hU.keep (hd.fresh hpb)) hfu (by omega) hm0 hm1).mono fun e w' h => DrawsM.low h hd.size)
    have CW := hide (fun (W : World) (hd : Drew p W0 W) => l9With_any base xs a n cap nm u ua un uc m W (hctx.keep (hd.fresh hpb)) (by omega) hnm ⟨by omega, by omega⟩ (hU.keep (hd.fresh hpb)) (Nat.le_trans hbW0 hd.size))
    have CX := hide (fun (W : World) (a' : Option Addr) (cap' : Nat) (hd : Drew p W0 W) (hc : CtxR base W (xs ++ [⟨nm, u, m⟩]) a' (n + 1) cap') => (GEN.out base (xs ++ [⟨nm, u, m⟩]) a' (n + 1) cap' t ta tn tc m W hd.cur hpb (Nat.le_trans hbW0 hd.size) hc (by omega) (hT.keep (hd.fresh hpb)) hf hts hm0 hm1).mono fun e w' h => DrawsM.low h hd.size)
    have CL := hide (fun (W : World) (hd : Drew p W0 W) (t1 : Tm) (l1 : Lt) (h1 : Md W t1 l1) (w1 : t1.wt ≤ bndG (d - 1)) => (l5Lam_any nm u ua un uc t1 l1 W (by omega) (hU.keep (hd.fresh hpb)).rd (by have := u.size_eq; omega) h1 (by omega)).mono fun e w' h => h.w (N := 110 + bndG (d - 1)) (by rw [lamM_wt]; have := u.size_eq; omega))
    have CN := hide (fun (W : World) (t1 t2 : Tm) (l1 l2 : Lt) (h1 : Md W t1 l1) (h2 : Md W t2 l2) (w1 : t1.wt ≤ 110 + bndG (d - 1)) (w2 : t2.wt ≤ bndG (d - 1)) => (l5Node_any 7 [t1, t2] (some ⟨W.heap.size, 0, none⟩) 2 2 _ (by simp [i64]) (Mds_two h1 h2) (by simp only [Tm.wts]; omega)).mono fun e w' h => h.w (N := bndG d) (by rw [nodeM_wt]; simp only [Tm.wts]; have := hbg.out; omega))
    have hnu : wu.heap.size ≠ w.heap.size + 1 := by omega
    refine wp_region_noPanic ?_
    refine wp_region_held_drew (S := (fun W => (W.cell? ⟨w.heap.size, 0, none⟩ = some (.int .i64 t.kind) ∧ W.cell? ⟨w.heap.size, 1, none⟩ = some (.slice ta tn tc)) ∧ (W.cell? ⟨wu.heap.size, 0, none⟩ = some (.int .i64 u.kind) ∧ W.cell? ⟨wu.heap.size, 1, none⟩ = some (.slice ua un uc)))) (by kernel_rfl) ?_ (fun hHeld => ?_)
    · (try dsimp only)
      first | (with_reducible exact twoBB_set hnu hne (twoBB_set hnu hne (twoBB_set hnu hne (twoBB_set hnu hne (twoBB_set hnu hne (twoBB_set hnu hne (twoBB_set hnu hne (twoBB_set hnu hne (twoBB_set hnu hne (HK.out _ kd)))))))))) | exact HK.out _ kd | exact HK.out _ (kd.next (below_new _ _))
    refine takeW 0 (v := ?_) rfl (by kernel_rfl) (by kernel_rfl) (by kernel_rfl) (fun _ _ _ h => h) (by rfl) (by assumption) ?_ ?_
    rotate_left
    · intro w hSw
      (try dsimp only at hSw)
      go_simp
      (try with_reducible rfl)
    try simp only [Act.put, List.setIfInBounds_toArray, List.set_cons_zero, List.set_cons_succ]
    refine takeW 1 (v := ?_) rfl (by kernel_rfl) (by kernel_rfl) (by kernel_rfl) (fun _ _ _ h => h) (by rfl) (by assumption) ?_ ?_
    rotate_left
    · intro w hSw
      (try dsimp only at hSw)
      go_simp
      (try with_reducible rfl)
    try simp only [Act.put, List.setIfInBounds_toArray, List.set_cons_zero, List.set_cons_succ]
    refine takeW 2 (v := ?_) rfl (by kernel_rfl) (by kernel_rfl) (by kernel_rfl) (fun _ _ _ h => h) (by rfl) (by assumption) ?_ ?_
    rotate_left
    · intro w hSw
      (try dsimp only at hSw)
      go_simp
      (try with_reducible rfl)
    try simp only [Act.put, List.setIfInBounds_toArray, List.set_cons_zero, List.set_cons_succ]
    refine takeW 3 (v := ?_) rfl (by kernel_rfl) (by kernel_rfl) (by kernel_rfl) (fun _ _ _ h => h) (by rfl) (by assumption) ?_ ?_
    rotate_left
    · intro w hSw
      (try dsimp only at hSw)
      go_simp
      (try with_reducible rfl)
    try simp only [Act.put, List.setIfInBounds_toArray, List.set_cons_zero, List.set_cons_succ]
    refine takeW 4 (v := ?_) rfl (by kernel_rfl) (by kernel_rfl) (by kernel_rfl) (fun _ _ _ h => h) (by rfl) (by assumption) ?_ ?_
    rotate_left
    · intro w hSw
      (try dsimp only at hSw)
      go_simp
      (try with_reducible rfl)
    try simp only [Act.put, List.setIfInBounds_toArray, List.set_cons_zero, List.set_cons_succ]
    refine takeW 5 (v := ?_) rfl (by kernel_rfl) (by kernel_rfl) (by kernel_rfl) (fun _ _ _ h => h) (by rfl) (by assumption) ?_ ?_
    rotate_left
    · intro w hSw
      (try dsimp only at hSw)
      go_simp
      (try with_reducible rfl)
    try simp only [Act.put, List.setIfInBounds_toArray, List.set_cons_zero, List.set_cons_succ]
    refine takeW 6 (v := ?_) rfl (by kernel_rfl) (by kernel_rfl) (by kernel_rfl) (fun _ _ _ h => h) (by rfl) (by assumption) ?_ ?_
    rotate_left
    · intro w hSw
      (try dsimp only at hSw)
      go_simp
      (try with_reducible rfl)
    try simp only [Act.put, List.setIfInBounds_toArray, List.set_cons_zero, List.set_cons_succ]
    refine takeW 8 (v := ?_) rfl (by kernel_rfl) (by kernel_rfl) (by kernel_rfl) (fun _ _ _ h => h) (by rfl) (by assumption) ?_ ?_
    rotate_left
    · intro w hSw
      (try dsimp only at hSw)
      go_simp
      (try with_reducible rfl)
    try simp only [Act.put, List.setIfInBounds_toArray, List.set_cons_zero, List.set_cons_succ]
    refine takeW 9 (v := ?_) rfl (by kernel_rfl) (by kernel_rfl) (by kernel_rfl) (fun _ _ _ h => h) (by rfl) (by assumption) ?_ ?_
    rotate_left
    · intro w hSw
      (try dsimp only at hSw)
      go_simp
      (try with_reducible rfl)
    try simp only [Act.put, List.setIfInBounds_toArray, List.set_cons_zero, List.set_cons_succ]
    refine takeW 10 (v := ?_) rfl (by kernel_rfl) (by kernel_rfl) (by kernel_rfl) (fun _ _ _ h => h) (by rfl) (by assumption) ?_ ?_
    rotate_left
    · intro w hSw
      (try dsimp only at hSw)
      go_simp
      (try with_reducible rfl)
    try simp only [Act.put, List.setIfInBounds_toArray, List.set_cons_zero, List.set_cons_succ]
    refine takeW 11 (v := ?_) rfl (by kernel_rfl) (by kernel_rfl) (by kernel_rfl) (fun _ _ _ h => h) (by rfl) (by assumption) ?_ ?_
    rotate_left
    · intro w hSw
      (try dsimp only at hSw)
      go_simp
      (try with_reducible rfl)
    try simp only [Act.put, List.setIfInBounds_toArray, List.set_cons_zero, List.set_cons_succ]
    refine takeW 14 (v := ?_) rfl (by kernel_rfl) (by kernel_rfl) (by kernel_rfl) (fun _ _ _ h => h) (by rfl) (by assumption) ?_ ?_
    rotate_left
    · intro w hSw
      (try dsimp only at hSw)
      go_simp
      (try with_reducible rfl)
    try simp only [Act.put, List.setIfInBounds_toArray, List.set_cons_zero, List.set_cons_succ]
    refine takeW 15 (v := ?_) rfl (by kernel_rfl) (by kernel_rfl) (by kernel_rfl) (fun _ _ _ h => h) (by rfl) (by assumption) ?_ ?_
    rotate_left
    · intro w hSw
      (try dsimp only at hSw)
      go_simp
      (try with_reducible rfl)
    try simp only [Act.put, List.setIfInBounds_toArray, List.set_cons_zero, List.set_cons_succ]
    refine takeW 16 (v := ?_) rfl (by kernel_rfl) (by kernel_rfl) (by kernel_rfl) (fun _ _ _ h => h) (by rfl) (by assumption) ?_ ?_
    rotate_left
    · intro w hSw
      (try dsimp only at hSw)
      go_simp
      (try with_reducible rfl)
    try simp only [Act.put, List.setIfInBounds_toArray, List.set_cons_zero, List.set_cons_succ]
    refine takeW 17 (v := ?_) rfl (by kernel_rfl) (by kernel_rfl) (by kernel_rfl) (fun _ _ _ h => h) (by rfl) (by assumption) ?_ ?_
    rotate_left
    · intro w hSw
      (try dsimp only at hSw)
      go_simp
      (try with_reducible rfl)
    try simp only [Act.put, List.setIfInBounds_toArray, List.set_cons_zero, List.set_cons_succ]
    refine takeW 18 (v := ?_) rfl (by kernel_rfl) (by kernel_rfl) (by kernel_rfl) (fun _ _ _ h => h) (by rfl) (by assumption) ?_ ?_
    rotate_left
    · intro w hSw
      (try dsimp only at hSw)
      go_simp
      (try with_reducible rfl)
    try simp only [Act.put, List.setIfInBounds_toArray, List.set_cons_zero, List.set_cons_succ]
    refine takeW 19 (v := ?_) rfl (by kernel_rfl) (by kernel_rfl) (by kernel_rfl) (fun _ _ _ h => h) (by rfl) (by assumption) ?_ ?_
    rotate_left
    · intro w hSw
      (try dsimp only at hSw)
      go_simp
      (try with_reducible rfl)
    try simp only [Act.put, List.setIfInBounds_toArray, List.set_cons_zero, List.set_cons_succ]
    refine goW 7 rfl (by kernel_rfl) (fun K hK => ?_)
    go_simp
    go_at_call 74; (with_reducible refine (CW.out _ kd).mono ?_); rintro e w3 ⟨a5, c5, rfl, hc5, b3⟩; have kd := kd.next b3
    refine hK.out _ _ ?_ (fun hHeld => ?_)
    · (try dsimp only)
      first | (with_reducible exact twoBB_set hnu hne (twoBB_set hnu hne (twoBB_set hnu hne (twoBB_set hnu hne (twoBB_set hnu hne (twoBB_set hnu hne (twoBB_set hnu hne (twoBB_set hnu hne (twoBB_set hnu hne (HK.out _ kd)))))))))) | exact HK.out _ kd | exact HK.out _ (kd.next (below_new _ _))
    clear hK K
    try simp only [Act.put, List.setIfInBounds_toArray, List.set_cons_zero, List.set_cons_succ]
    refine goW 12 rfl (by kernel_rfl) (fun K hK => ?_)
    go_simp
    go_at_call 49; (with_reducible refine (CX.out _ a5 c5 kd hc5).mono ?_); rintro e w4 ⟨t1, l1, rfl, ho1, hs1, d4⟩; have kd := kd.trans d4; have sk4 := kd.size
    refine hK.out _ _ ?_ (fun hHeld => ?_)
    · (try dsimp only)
      first | (with_reducible exact twoBB_set hnu hne (twoBB_set hnu hne (twoBB_set hnu hne (twoBB_set hnu hne (twoBB_set hnu hne (twoBB_set hnu hne (twoBB_set hnu hne (twoBB_set hnu hne (twoBB_set hnu hne (HK.out _ kd)))))))))) | exact HK.out _ kd | exact HK.out _ (kd.next (below_new _ _))
    clear hK K
    try simp only [Act.put, List.setIfInBounds_toArray, List.set_cons_zero, List.set_cons_succ]
    refine goW 13 rfl (by kernel_rfl) (fun K hK => ?_)
    go_simp
    go_at_call 73; (with_reducible refine (CL.out w4 kd t1 l1 ho1.md hs1).mono ?_); rintro e w5 ⟨t2, l2, rfl, ho2, hs2, b5⟩; replace ho2 := ho2.base sk4; have kd := kd.next b5
    refine hK.out _ _ ?_ (fun hHeld => ?_)
    · (try dsimp only)
      first | (with_reducible exact twoBB_set hnu hne (twoBB_set hnu hne (twoBB_set hnu hne (twoBB_set hnu hne (twoBB_set hnu hne (twoBB_set hnu hne (twoBB_set hnu hne (twoBB_set hnu hne (twoBB_set hnu hne (HK.out _ kd)))))))))) | exact HK.out _ kd | exact HK.out _ (kd.next (below_new _ _))
    clear hK K
    try simp only [Act.put, List.setIfInBounds_toArray, List.set_cons_zero, List.set_cons_succ]
    refine goW 20 rfl (by kernel_rfl) (fun K hK => ?_)
    go_simp
    go_at_call 49; (with_reducible refine (CU.out _ kd).mono ?_); rintro e w6 ⟨t3, l3, rfl, ho3, hs3, d6⟩; have kd := kd.trans d6; have kd6 := kd.size
    refine hK.out _ _ ?_ (fun hHeld => ?_)
    · (try dsimp only)
      first | (with_reducible exact twoBB_set hnu hne (twoBB_set hnu hne (twoBB_set hnu hne (twoBB_set hnu hne (twoBB_set hnu hne (twoBB_set hnu hne (twoBB_set hnu hne (twoBB_set hnu hne (twoBB_set hnu hne (HK.out _ kd)))))))))) | exact HK.out _ kd | exact HK.out _ (kd.next (below_new _ _))
    clear hK K
    try simp only [Act.put, List.setIfInBounds_toArray, List.set_cons_zero, List.set_cons_succ]
    refine goW 21 rfl (by kernel_rfl) (fun K hK => ?_)
    go_simp
    refine hK.out _ _ ?_ (fun hHeld => ?_)
    · (try dsimp only)
      first | (with_reducible exact twoBB_set hnu hne (twoBB_set hnu hne (twoBB_set hnu hne (twoBB_set hnu hne (twoBB_set hnu hne (twoBB_set hnu hne (twoBB_set hnu hne (twoBB_set hnu hne (twoBB_set hnu hne (HK.out _ kd)))))))))) | exact HK.out _ kd | exact HK.out _ (kd.next (below_new _ _))
    clear hK K
    try simp only [Act.put, List.setIfInBounds_toArray, List.set_cons_zero, List.set_cons_succ]
    refine goW 22 rfl (by kernel_rfl) (fun K hK => ?_)
    go_simp
    go_at_call 76; (with_reducible refine (CN.out w6 t2 t3 l2 l3 (ho2.keep (d6.fresh hpW)).md ho3.md hs2 hs3).mono ?_); rintro e w7 ⟨t9, l9, rfl, ho9, hs9, b7⟩; replace ho9 := ho9.base (below_new w6 _).size; have kd := (kd.next (below_new _ _)).next b7; have BR := HR.out _ kd; obtain ⟨q0, q1, q2, q3, q4, q5, q6, q7, q8⟩ : _ ∧ _ ∧ _ ∧ _ ∧ _ ∧ _ ∧ _ ∧ _ ∧ _ := ⟨BR.cell 0, BR.cell 1, BR.cell 2, BR.cell 3, BR.cell 4, BR.cell 5, BR.cell 6, BR.cell 7, BR.cell 8⟩; simp at q0 q1 q2 q3 q4 q5 q6 q7 q8; obtain ⟨z0, z1, z2, z3, z4, z5, z6, z7, z8⟩ : _ ∧ _ ∧ _ ∧ _ ∧ _ ∧ _ ∧ _ ∧ _ ∧ _ := ⟨BR.free 0, BR.free 1, BR.free 2, BR.free 3, BR.free 4, BR.free 5, BR.free 6, BR.free 7, BR.free 8⟩
    refine hK.out _ _ ?_ (fun hHeld => ?_)
    · (try dsimp only)
      first | (with_reducible exact twoBB_set hnu hne (twoBB_set hnu hne (twoBB_set hnu hne (twoBB_set hnu hne (twoBB_set hnu hne (twoBB_set hnu hne (twoBB_set hnu hne (twoBB_set hnu hne (twoBB_set hnu hne (HK.out _ kd)))))))))) | exact HK.out _ kd | exact HK.out _ (kd.next (below_new _ _))
    clear hK K
    try simp only [Act.put, List.setIfInBounds_toArray, List.set_cons_zero, List.set_cons_succ]
    refine goW 23 rfl (by kernel_rfl) (fun K hK => ?_)
    go_simp
    refine hK.out _ _ ?_ (fun hHeld => ?_)
    · (try dsimp only)
      first | (with_reducible exact twoBB_set hnu hne (twoBB_set hnu hne (twoBB_set hnu hne (twoBB_set hnu hne (twoBB_set hnu hne (twoBB_set hnu hne (twoBB_set hnu hne (twoBB_set hnu hne (twoBB_set hnu hne (HK.out _ kd)))))))))) | exact HK.out _ kd | exact HK.out _ (kd.next (below_new _ _))
    clear hK K
    try simp only [Act.put, List.setIfInBounds_toArray, List.set_cons_zero, List.set_cons_succ]
    refine wpAnyH_done (by kernel_rfl) ?_ _
    refine NoPanic.normal ?_
    go_wp2_with fail
    have HD : DrawsM p (bndG d) w (.returned (.agg #[.int .i64 t9.kind, .string t9.name, .string t9.other, .int .i64 t9.n, .int .i64 t9.type.kind, .slice l9.ta l9.tn l9.tc, .int .i64 t9.res.kind, .slice l9.ra l9.rn l9.rc, .slice l9.aa l9.an l9.ac])) (putAt w7 (w.heap.size + 1) 0 (tcells t9 l9)) :=
      ⟨t9, l9, rfl, (ho9.keep (putAt_fresh (by omega) _ _ _)).base (by omega), hs9, Drew.put hC (D0.trans kd) (by omega) _ _⟩
    have HB := (put_box BR rfl t9 l9).nine
    have E := putAt_zero w7 (w.heap.size + 1) t9 l9
    rw [← E]
    obtain ⟨r0, r1, r2, r3, r4, r5, r6, r7, r8⟩ := HB
    refine bodyPost_ret (v := .agg #[.int .i64 t9.kind, .string t9.name, .string t9.other, .int .i64 t9.n, .int .i64 t9.type.kind, .slice l9.ta l9.tn l9.tc, .int .i64 t9.res.kind, .slice l9.ra l9.rn l9.rc, .slice l9.aa l9.an l9.ac]) ?_ rfl HD
    simp [results, Tryz.results71, go_sem, r0, r1, r2, r3, r4, r5, r6, r7, r8]
  have h2 : ((z : Int) == 2) = false := by simp; omega
  by_cases z3 : z = 3
  · subst z3
    have CM := hide (l9Most_any t ta tn tc W0 hT.rd hf (by omega))
    go_wp2_with fail
    (with_reducible refine CM.out.mono ?_)
    rintro e wm ⟨r, rfl, hr, bm⟩
    have D0z := D0.next bm
    have T2z := T2.under bm
    have B2z := B2.under bm
    replace hctx := hctx.keep (Fresh.of_below bm)
    replace hT := hT.keep (Fresh.of_below bm)
    have sm := bm.size
    clear y0 y1
    obtain ⟨y0, y1⟩ := T2z.two
    have lTz := T2z.lt
    have lBz := B2z.lt
    have hbWz : base ≤ wm.heap.size := by omega
    have hpWz : p < wm.heap.size := by omega
    have s0z := D0z.size
    clear T2 B2 D0 lT2 lB2 hbW0 hpW s0W bm
    rename Drew p w wm => D0
    rename Blk wm w.heap.size _ _ => T2
    rename Blk wm (w.heap.size + 1) _ _ => B2
    have lT2 := lTz
    have lB2 := lBz
    have hbW0 := hbWz
    have hpW := hpWz
    have s0W := s0z
    generalize wm = W0 at *
    by_cases hlv : m + (r : Int) < 2
    · have hd3 : decide (m + (r : Int) < 2) = true := by simp; omega
      have hwq : IntKind.i64.wrap (m + (r : Int)) = m + (r : Int) := IntWalk.i64_in _ (by omega)
      go_upto_region 13 with fail
      have hwr : IntKind.i64.wrap ((d : Int) - 1) = (d : Int) - 1 := IntWalk.i64_in _ (by omega)
      have CG := hide (fun (W : World) (hd : Drew p W0 W) => (GEN.out base xs a n cap t ta tn tc m W hd.cur hpb (Nat.le_trans hbW0 hd.size) (hctx.keep (hd.fresh hpb)) hn (hT.keep (hd.fresh hpb)) hf hts hm0 hm1).mono fun e w' h => DrawsM.low h hd.size)
      have HR := hide (fun (W : World) (hd : Drew p W0 W) => show Blk W (w.heap.size + 1) 29 #[.int .i64 0, .string ⟨#[]⟩, .string ⟨#[]⟩, .int .i64 0, .int .i64 0, .slice none 0 0, .int .i64 0, .slice none 0 0, .slice none 0 0] from (hd.block lB2 (by omega)).trans B2)
      have hne : w.heap.size ≠ w.heap.size + 1 := by omega
      have kd : Drew p W0 W0.drew := Drew.of_below D0.cur (below_drew W0)
      have HK := hide (fun (W : World) (hd : Drew p W0 W) => show TwoB w.heap.size t.kind ta tn tc W from Blk.two ((hd.block lT2 (by omega)).trans T2))
      have CS := hide (fun (W : World) (hd : Drew p W0 W) => safeCtx_any base xs a n cap m W (hctx.keep (hd.fresh hpb)) (by omega))
      have CC := hide (fun (W : World) (hd : Drew p W0 W) => l3Code_any t _ _ W (hT.keep (hd.fresh hpb)).rd (by have := t.size_eq; omega))
      have CX := hide (fun (W : World) (ys : List (Rc Int)) (a' : Option Addr) (n' cap' : Nat) (va : Option Addr) (vn vc : Nat) (hd : Drew p W0 W) (hn2 : n' ≤ n) (hc : CtxR base W ys a' n' cap') (hv : TyA base W ⟨4, [t]⟩ va vn vc) => (GEN.out base ys a' n' cap' ⟨4, [t]⟩ va vn vc m W hd.cur hpb (Nat.le_trans hbW0 hd.size) hc (by omega) hv (code_formed hf) (by rw [Ty.size_one]; omega) hm0 hm1).mono fun e w' h => DrawsM.low h hd.size)
      have CN := hide (fun (W : World) (t1 : Tm) (l1 : Lt) (h1 : Md W t1 l1) (w1 : t1.wt ≤ bndG (d - 1)) => (l5Node_any 12 [t1] (some ⟨W.heap.size, 0, none⟩) 1 1 _ (by simp [i64]) (Mds_one h1) (by simp only [Tm.wts]; omega)).mono fun e w' h => h.w (N := bndG d) (by rw [nodeM_wt]; simp only [Tm.wts]; have := hbg.out; omega))
      refine wp_region_noPanic ?_
      refine wp_region_held_drew (S := (fun W => (W.cell? ⟨w.heap.size, 0, none⟩ = some (.int .i64 t.kind) ∧ W.cell? ⟨w.heap.size, 1, none⟩ = some (.slice ta tn tc)))) (by kernel_rfl) ?_ (fun hHeld => ?_)
      · (try dsimp only)
        first | (with_reducible exact twoB_set hne (twoB_set hne (twoB_set hne (twoB_set hne (twoB_set hne (twoB_set hne (twoB_set hne (twoB_set hne (twoB_set hne (HK.out _ kd)))))))))) | exact HK.out _ kd | exact HK.out _ (kd.next (below_new _ _))
      refine takeW 0 (v := ?_) rfl (by kernel_rfl) (by kernel_rfl) (by kernel_rfl) (fun _ _ _ h => h) (by rfl) (by assumption) ?_ ?_
      rotate_left
      · intro w hSw
        (try dsimp only at hSw)
        go_simp
        (try with_reducible rfl)
      try simp only [Act.put, List.setIfInBounds_toArray, List.set_cons_zero, List.set_cons_succ]
      refine takeW 1 (v := ?_) rfl (by kernel_rfl) (by kernel_rfl) (by kernel_rfl) (fun _ _ _ h => h) (by rfl) (by assumption) ?_ ?_
      rotate_left
      · intro w hSw
        (try dsimp only at hSw)
        go_simp
        (try with_reducible rfl)
      try simp only [Act.put, List.setIfInBounds_toArray, List.set_cons_zero, List.set_cons_succ]
      refine takeW 2 (v := ?_) rfl (by kernel_rfl) (by kernel_rfl) (by kernel_rfl) (fun _ _ _ h => h) (by rfl) (by assumption) ?_ ?_
      rotate_left
      · intro w hSw
        (try dsimp only at hSw)
        go_simp
        (try with_reducible rfl)
      try simp only [Act.put, List.setIfInBounds_toArray, List.set_cons_zero, List.set_cons_succ]
      refine takeW 4 (v := ?_) rfl (by kernel_rfl) (by kernel_rfl) (by kernel_rfl) (fun _ _ _ h => h) (by rfl) (by assumption) ?_ ?_
      rotate_left
      · intro w hSw
        (try dsimp only at hSw)
        go_simp
        (try with_reducible rfl)
      try simp only [Act.put, List.setIfInBounds_toArray, List.set_cons_zero, List.set_cons_succ]
      refine takeW 6 (v := ?_) rfl (by kernel_rfl) (by kernel_rfl) (by kernel_rfl) (fun _ _ _ h => h) (by rfl) (by assumption) ?_ ?_
      rotate_left
      · intro w hSw
        (try dsimp only at hSw)
        go_simp
        (try with_reducible rfl)
      try simp only [Act.put, List.setIfInBounds_toArray, List.set_cons_zero, List.set_cons_succ]
      refine takeW 7 (v := ?_) rfl (by kernel_rfl) (by kernel_rfl) (by kernel_rfl) (fun _ _ _ h => h) (by rfl) (by assumption) ?_ ?_
      rotate_left
      · intro w hSw
        (try dsimp only at hSw)
        go_simp
        (try with_reducible rfl)
      try simp only [Act.put, List.setIfInBounds_toArray, List.set_cons_zero, List.set_cons_succ]
      refine takeW 8 (v := ?_) rfl (by kernel_rfl) (by kernel_rfl) (by kernel_rfl) (fun _ _ _ h => h) (by rfl) (by assumption) ?_ ?_
      rotate_left
      · intro w hSw
        (try dsimp only at hSw)
        go_simp
        (try with_reducible rfl)
      try simp only [Act.put, List.setIfInBounds_toArray, List.set_cons_zero, List.set_cons_succ]
      refine goW 3 rfl (by kernel_rfl) (fun K hK => ?_)
      go_simp
      go_at_call 99; (with_reducible refine (CS.out _ kd).mono ?_); have skd := kd.size; rintro e w3 ⟨ys, a5, n5, c5, rfl, hn5, hc5, b3⟩; have kd := kd.next b3; replace hc5 := hc5.base (Nat.le_trans hbW0 skd)
      refine hK.out _ _ ?_ (fun hHeld => ?_)
      · (try dsimp only)
        first | (with_reducible exact twoB_set hne (twoB_set hne (twoB_set hne (twoB_set hne (twoB_set hne (twoB_set hne (twoB_set hne (twoB_set hne (twoB_set hne (HK.out _ kd)))))))))) | exact HK.out _ kd | exact HK.out _ (kd.next (below_new _ _))
      clear hK K
      try simp only [Act.put, List.setIfInBounds_toArray, List.set_cons_zero, List.set_cons_succ]
      refine goW 5 rfl (by kernel_rfl) (fun K hK => ?_)
      go_simp
      go_at_call 47; (with_reducible refine (CC.out _ kd).mono ?_); rintro e w4 ⟨v4, rfl, ho4, b4⟩; have sk3 := kd.size; obtain ⟨va, vn, vc, rfl, -⟩ := ho4.rd; have hv4 := (TyA.of_own ho4).base (Nat.le_trans hbW0 sk3); have kd := kd.next b4
      refine hK.out _ _ ?_ (fun hHeld => ?_)
      · (try dsimp only)
        first | (with_reducible exact twoB_set hne (twoB_set hne (twoB_set hne (twoB_set hne (twoB_set hne (twoB_set hne (twoB_set hne (twoB_set hne (twoB_set hne (HK.out _ kd)))))))))) | exact HK.out _ kd | exact HK.out _ (kd.next (below_new _ _))
      clear hK K
      try simp only [Act.put, List.setIfInBounds_toArray, List.set_cons_zero, List.set_cons_succ]
      refine goW 9 rfl (by kernel_rfl) (fun K hK => ?_)
      go_simp
      go_at_call 49; (with_reducible refine (CX.out _ ys a5 n5 c5 va vn vc kd hn5 (hc5.keep (Fresh.of_below b4)) hv4).mono ?_); rintro e w6 ⟨t1, l1, rfl, ho1, hs1, d6⟩; have kd := kd.trans d6; have kd6 := kd.size
      refine hK.out _ _ ?_ (fun hHeld => ?_)
      · (try dsimp only)
        first | (with_reducible exact twoB_set hne (twoB_set hne (twoB_set hne (twoB_set hne (twoB_set hne (twoB_set hne (twoB_set hne (twoB_set hne (twoB_set hne (HK.out _ kd)))))))))) | exact HK.out _ kd | exact HK.out _ (kd.next (below_new _ _))
      clear hK K
      try simp only [Act.put, List.setIfInBounds_toArray, List.set_cons_zero, List.set_cons_succ]
      refine goW 10 rfl (by kernel_rfl) (fun K hK => ?_)
      go_simp
      refine hK.out _ _ ?_ (fun hHeld => ?_)
      · (try dsimp only)
        first | (with_reducible exact twoB_set hne (twoB_set hne (twoB_set hne (twoB_set hne (twoB_set hne (twoB_set hne (twoB_set hne (twoB_set hne (twoB_set hne (HK.out _ kd)))))))))) | exact HK.out _ kd | exact HK.out _ (kd.next (below_new _ _))
      clear hK K
      try simp only [Act.put, List.setIfInBounds_toArray, List.set_cons_zero, List.set_cons_succ]
      refine goW 11 rfl (by kernel_rfl) (fun K hK => ?_)
      go_simp
      go_at_call 76; (with_reducible refine (CN.out w6 t1 l1 ho1.md hs1).mono ?_); rintro e w7 ⟨t9, l9, rfl, ho9, hs9, b7⟩; replace ho9 := ho9.base (below_new w6 _).size; have kd := (kd.next (below_new _ _)).next b7; have BR := HR.out _ kd; obtain ⟨q0, q1, q2, q3, q4, q5, q6, q7, q8⟩ : _ ∧ _ ∧ _ ∧ _ ∧ _ ∧ _ ∧ _ ∧ _ ∧ _ := ⟨BR.cell 0, BR.cell 1, BR.cell 2, BR.cell 3, BR.cell 4, BR.cell 5, BR.cell 6, BR.cell 7, BR.cell 8⟩; simp at q0 q1 q2 q3 q4 q5 q6 q7 q8; obtain ⟨z0, z1, z2, z3, z4, z5, z6, z7, z8⟩ : _ ∧ _ ∧ _ ∧ _ ∧ _ ∧ _ ∧ _ ∧ _ ∧ _ := ⟨BR.free 0, BR.free 1, BR.free 2, BR.free 3, BR.free 4, BR.free 5, BR.free 6, BR.free 7, BR.free 8⟩
      refine hK.out _ _ ?_ (fun hHeld => ?_)
      · (try dsimp only)
        first | (with_reducible exact twoB_set hne (twoB_set hne (twoB_set hne (twoB_set hne (twoB_set hne (twoB_set hne (twoB_set hne (twoB_set hne (twoB_set hne (HK.out _ kd)))))))))) | exact HK.out _ kd | exact HK.out _ (kd.next (below_new _ _))
      clear hK K
      try simp only [Act.put, List.setIfInBounds_toArray, List.set_cons_zero, List.set_cons_succ]
      refine goW 12 rfl (by kernel_rfl) (fun K hK => ?_)
      go_simp
      refine hK.out _ _ ?_ (fun hHeld => ?_)
      · (try dsimp only)
        first | (with_reducible exact twoB_set hne (twoB_set hne (twoB_set hne (twoB_set hne (twoB_set hne (twoB_set hne (twoB_set hne (twoB_set hne (twoB_set hne (HK.out _ kd)))))))))) | exact HK.out _ kd | exact HK.out _ (kd.next (below_new _ _))
      clear hK K
      try simp only [Act.put, List.setIfInBounds_toArray, List.set_cons_zero, List.set_cons_succ]
      refine wpAnyH_done (by kernel_rfl) ?_ _
      refine NoPanic.normal ?_
      go_wp2_with fail
      have HD : DrawsM p (bndG d) w (.returned (.agg #[.int .i64 t9.kind, .string t9.name, .string t9.other, .int .i64 t9.n, .int .i64 t9.type.kind, .slice l9.ta l9.tn l9.tc, .int .i64 t9.res.kind, .slice l9.ra l9.rn l9.rc, .slice l9.aa l9.an l9.ac])) (putAt w7 (w.heap.size + 1) 0 (tcells t9 l9)) :=
        ⟨t9, l9, rfl, (ho9.keep (putAt_fresh (by omega) _ _ _)).base (by omega), hs9, Drew.put hC (D0.trans kd) (by omega) _ _⟩
      have HB := (put_box BR rfl t9 l9).nine
      have E := putAt_zero w7 (w.heap.size + 1) t9 l9
      rw [← E]
      obtain ⟨r0, r1, r2, r3, r4, r5, r6, r7, r8⟩ := HB
      refine bodyPost_ret (v := .agg #[.int .i64 t9.kind, .string t9.name, .string t9.other, .int .i64 t9.n, .int .i64 t9.type.kind, .slice l9.ta l9.tn l9.tc, .int .i64 t9.res.kind, .slice l9.ra l9.rn l9.rc, .slice l9.aa l9.an l9.ac]) ?_ rfl HD
      simp [results, Tryz.results71, go_sem, r0, r1, r2, r3, r4, r5, r6, r7, r8]
    · have hd3 : decide (m + (r : Int) < 2) = false := by simp; omega
      have hwq : IntKind.i64.wrap (m + (r : Int)) = m + (r : Int) := IntWalk.i64_in _ (by omega)
      by_cases hmp : 0 < m
      · have hg : decide (m > 0) = true := by simp; omega
        have hwr : IntKind.i64.wrap ((d : Int) - 1) = (d : Int) - 1 := IntWalk.i64_in _ (by omega)
        have hwm : IntKind.i64.wrap (m - 1) = m - 1 := IntWalk.i64_in _ (by omega)
        have CC := hide (l3Code_any t _ _ W0 hT.rd (by have := t.size_eq; omega))
        go_wp2_with fail
        (with_reducible refine CC.out.mono ?_)
        rintro e w4 ⟨v4, rfl, ho4, b4⟩
        obtain ⟨va, vn, vc, rfl, -⟩ := ho4.rd
        have hv4 := (TyA.of_own ho4).base hbW0
        have D4 := D0.next b4
        have s4 := b4.size
        have CX := hide (GEN.out base xs a n cap ⟨4, [t]⟩ va vn vc (m - 1) w4 D4.cur hpb (by omega) (hctx.keep (Fresh.of_below b4)) hn hv4 (code_formed hf) (by rw [Ty.size_one]; omega) (by omega) (by omega))
        go_wp2_with fail
        (with_reducible refine CX.out.mono ?_)
        rintro e w6 ⟨t1, l1, rfl, ho1, hs1, d6⟩
        have s6 := d6.size
        have CN := hide ((l5Node_any 11 [t1] (some ⟨w6.heap.size, 0, none⟩) 1 1 _ (by simp [i64]) (Mds_one ho1.md) (by simp only [Tm.wts]; omega)).mono fun e w' h => h.w (N := bndG d) (by rw [nodeM_wt]; simp only [Tm.wts]; have := hbg.out; omega))
        have B6 : Blk w6 (w.heap.size + 1) 29 #[.int .i64 0, .string ⟨#[]⟩, .string ⟨#[]⟩, .int .i64 0, .int .i64 0, .slice none 0 0, .int .i64 0, .slice none 0 0, .slice none 0 0] := (d6.block (by omega) (by omega)).trans (B2.under b4)
        go_wp2_with fail
        (with_reducible refine CN.out.mono ?_)
        rintro e w7 ⟨t9, l9, rfl, ho9, hs9, b7⟩
        replace ho9 := ho9.base (below_new w6 _).size
        have BR := (B6.alloc (.cells #[.int .i64 t1.kind, .string t1.name, .string t1.other, .int .i64 t1.n, .int .i64 t1.type.kind, .slice l1.ta l1.tn l1.tc, .int .i64 t1.res.kind, .slice l1.ra l1.rn l1.rc, .slice l1.aa l1.an l1.ac] 29)).under b7
        have kd : Drew p W0 w7 := ((Drew.of_below D0.cur b4).trans d6).next (below_next (below_new w6 (.cells #[.int .i64 t1.kind, .string t1.name, .string t1.other, .int .i64 t1.n, .int .i64 t1.type.kind, .slice l1.ta l1.tn l1.tc, .int .i64 t1.res.kind, .slice l1.ra l1.rn l1.rc, .slice l1.aa l1.an l1.ac] 29)) b7)
        obtain ⟨q0, q1, q2, q3, q4, q5, q6, q7, q8⟩ : _ ∧ _ ∧ _ ∧ _ ∧ _ ∧ _ ∧ _ ∧ _ ∧ _ := ⟨BR.cell 0, BR.cell 1, BR.cell 2, BR.cell 3, BR.cell 4, BR.cell 5, BR.cell 6, BR.cell 7, BR.cell 8⟩
        simp at q0 q1 q2 q3 q4 q5 q6 q7 q8
        obtain ⟨z0, z1, z2, z3, z4, z5, z6, z7, z8⟩ : _ ∧ _ ∧ _ ∧ _ ∧ _ ∧ _ ∧ _ ∧ _ ∧ _ := ⟨BR.free 0, BR.free 1, BR.free 2, BR.free 3, BR.free 4, BR.free 5, BR.free 6, BR.free 7, BR.free 8⟩
        go_wp2_with fail
        have HD : DrawsM p (bndG d) w (.returned (.agg #[.int .i64 t9.kind, .string t9.name, .string t9.other, .int .i64 t9.n, .int .i64 t9.type.kind, .slice l9.ta l9.tn l9.tc, .int .i64 t9.res.kind, .slice l9.ra l9.rn l9.rc, .slice l9.aa l9.an l9.ac])) (putAt w7 (w.heap.size + 1) 0 (tcells t9 l9)) :=
          ⟨t9, l9, rfl, (ho9.keep (putAt_fresh (by omega) _ _ _)).base (by omega), hs9, Drew.put hC (D0.trans kd) (by omega) _ _⟩
        have HB := (put_box BR rfl t9 l9).nine
        have E := putAt_zero w7 (w.heap.size + 1) t9 l9
        rw [← E]
        obtain ⟨r0, r1, r2, r3, r4, r5, r6, r7, r8⟩ := HB
        refine bodyPost_ret (v := .agg #[.int .i64 t9.kind, .string t9.name, .string t9.other, .int .i64 t9.n, .int .i64 t9.type.kind, .slice l9.ta l9.tn l9.tc, .int .i64 t9.res.kind, .slice l9.ra l9.rn l9.rc, .slice l9.aa l9.an l9.ac]) ?_ rfl HD
        simp [results, Tryz.results71, go_sem, r0, r1, r2, r3, r4, r5, r6, r7, r8]
      · have hg : decide (m > 0) = false := by simp; omega
        have CS := hide (l9Small_any p t base ta tn tc m W0 D0.cur hpb hbW0 hT hf (by omega) (by omega) (by omega))
        go_wp2_with fail
        (with_reducible refine CS.out.mono ?_)
        rintro e w7 ⟨t9, l9, rfl, ho9, hs9', kd⟩
        have hs9 : t9.wt ≤ bndG d := by have := hbg.out; omega
        have BR : Blk w7 (w.heap.size + 1) 29 #[.int .i64 0, .string ⟨#[]⟩, .string ⟨#[]⟩, .int .i64 0, .int .i64 0, .slice none 0 0, .int .i64 0, .slice none 0 0, .slice none 0 0] := (kd.block lB2 (by omega)).trans B2
        obtain ⟨q0, q1, q2, q3, q4, q5, q6, q7, q8⟩ : _ ∧ _ ∧ _ ∧ _ ∧ _ ∧ _ ∧ _ ∧ _ ∧ _ := ⟨BR.cell 0, BR.cell 1, BR.cell 2, BR.cell 3, BR.cell 4, BR.cell 5, BR.cell 6, BR.cell 7, BR.cell 8⟩
        simp at q0 q1 q2 q3 q4 q5 q6 q7 q8
        obtain ⟨z0, z1, z2, z3, z4, z5, z6, z7, z8⟩ : _ ∧ _ ∧ _ ∧ _ ∧ _ ∧ _ ∧ _ ∧ _ ∧ _ := ⟨BR.free 0, BR.free 1, BR.free 2, BR.free 3, BR.free 4, BR.free 5, BR.free 6, BR.free 7, BR.free 8⟩
        go_wp2_with fail
        have HD : DrawsM p (bndG d) w (.returned (.agg #[.int .i64 t9.kind, .string t9.name, .string t9.other, .int .i64 t9.n, .int .i64 t9.type.kind, .slice l9.ta l9.tn l9.tc, .int .i64 t9.res.kind, .slice l9.ra l9.rn l9.rc, .slice l9.aa l9.an l9.ac])) (putAt w7 (w.heap.size + 1) 0 (tcells t9 l9)) :=
          ⟨t9, l9, rfl, (ho9.keep (putAt_fresh (by omega) _ _ _)).base (by omega), hs9, Drew.put hC (D0.trans kd) (by omega) _ _⟩
        have HB := (put_box BR rfl t9 l9).nine
        have E := putAt_zero w7 (w.heap.size + 1) t9 l9
        rw [← E]
        obtain ⟨r0, r1, r2, r3, r4, r5, r6, r7, r8⟩ := HB
        refine bodyPost_ret (v := .agg #[.int .i64 t9.kind, .string t9.name, .string t9.other, .int .i64 t9.n, .int .i64 t9.type.kind, .slice l9.ta l9.tn l9.tc, .int .i64 t9.res.kind, .slice l9.ra l9.rn l9.rc, .slice l9.aa l9.an l9.ac]) ?_ rfl HD
        simp [results, Tryz.results71, go_sem, r0, r1, r2, r3, r4, r5, r6, r7, r8]
  have h3 : ((z : Int) == 3) = false := by simp; omega
  by_cases hmp : 0 < m
  · have hg : decide (m > 0) = true := by simp; omega
    have hwr : IntKind.i64.wrap ((d : Int) - 1) = (d : Int) - 1 := IntWalk.i64_in _ (by omega)
    have hwm : IntKind.i64.wrap (m - 1) = m - 1 := IntWalk.i64_in _ (by omega)
    have CC := hide (l3Code_any t _ _ W0 hT.rd (by have := t.size_eq; omega))
    go_wp2_with fail
    (with_reducible refine CC.out.mono ?_)
    rintro e w4 ⟨v4, rfl, ho4, b4⟩
    obtain ⟨va, vn, vc, rfl, -⟩ := ho4.rd
    have hv4 := (TyA.of_own ho4).base hbW0
    have D4 := D0.next b4
    have s4 := b4.size
    have CX := hide (GEN.out base xs a n cap ⟨4, [t]⟩ va vn vc (m - 1) w4 D4.cur hpb (by omega) (hctx.keep (Fresh.of_below b4)) hn hv4 (code_formed hf) (by rw [Ty.size_one]; omega) (by omega) (by omega))
    go_wp2_with fail
    (with_reducible refine CX.out.mono ?_)
    rintro e w6 ⟨t1, l1, rfl, ho1, hs1, d6⟩
    have s6 := d6.size
    have CN := hide ((l5Node_any 11 [t1] (some ⟨w6.heap.size, 0, none⟩) 1 1 _ (by simp [i64]) (Mds_one ho1.md) (by simp only [Tm.wts]; omega)).mono fun e w' h => h.w (N := bndG d) (by rw [nodeM_wt]; simp only [Tm.wts]; have := hbg.out; omega))
    have B6 : Blk w6 (w.heap.size + 1) 29 #[.int .i64 0, .string ⟨#[]⟩, .string ⟨#[]⟩, .int .i64 0, .int .i64 0, .slice none 0 0, .int .i64 0, .slice none 0 0, .slice none 0 0] := (d6.block (by omega) (by omega)).trans (B2.under b4)
    go_wp2_with fail
    (with_reducible refine CN.out.mono ?_)
    rintro e w7 ⟨t9, l9, rfl, ho9, hs9, b7⟩
    replace ho9 := ho9.base (below_new w6 _).size
    have BR := (B6.alloc (.cells #[.int .i64 t1.kind, .string t1.name, .string t1.other, .int .i64 t1.n, .int .i64 t1.type.kind, .slice l1.ta l1.tn l1.tc, .int .i64 t1.res.kind, .slice l1.ra l1.rn l1.rc, .slice l1.aa l1.an l1.ac] 29)).under b7
    have kd : Drew p W0 w7 := ((Drew.of_below D0.cur b4).trans d6).next (below_next (below_new w6 (.cells #[.int .i64 t1.kind, .string t1.name, .string t1.other, .int .i64 t1.n, .int .i64 t1.type.kind, .slice l1.ta l1.tn l1.tc, .int .i64 t1.res.kind, .slice l1.ra l1.rn l1.rc, .slice l1.aa l1.an l1.ac] 29)) b7)
    obtain ⟨q0, q1, q2, q3, q4, q5, q6, q7, q8⟩ : _ ∧ _ ∧ _ ∧ _ ∧ _ ∧ _ ∧ _ ∧ _ ∧ _ := ⟨BR.cell 0, BR.cell 1, BR.cell 2, BR.cell 3, BR.cell 4, BR.cell 5, BR.cell 6, BR.cell 7, BR.cell 8⟩
    simp at q0 q1 q2 q3 q4 q5 q6 q7 q8
    obtain ⟨z0, z1, z2, z3, z4, z5, z6, z7, z8⟩ : _ ∧ _ ∧ _ ∧ _ ∧ _ ∧ _ ∧ _ ∧ _ ∧ _ := ⟨BR.free 0, BR.free 1, BR.free 2, BR.free 3, BR.free 4, BR.free 5, BR.free 6, BR.free 7, BR.free 8⟩
    go_wp2_with fail
    have HD : DrawsM p (bndG d) w (.returned (.agg #[.int .i64 t9.kind, .string t9.name, .string t9.other, .int .i64 t9.n, .int .i64 t9.type.kind, .slice l9.ta l9.tn l9.tc, .int .i64 t9.res.kind, .slice l9.ra l9.rn l9.rc, .slice l9.aa l9.an l9.ac])) (putAt w7 (w.heap.size + 1) 0 (tcells t9 l9)) :=
      ⟨t9, l9, rfl, (ho9.keep (putAt_fresh (by omega) _ _ _)).base (by omega), hs9, Drew.put hC (D0.trans kd) (by omega) _ _⟩
    have HB := (put_box BR rfl t9 l9).nine
    have E := putAt_zero w7 (w.heap.size + 1) t9 l9
    rw [← E]
    obtain ⟨r0, r1, r2, r3, r4, r5, r6, r7, r8⟩ := HB
    refine bodyPost_ret (v := .agg #[.int .i64 t9.kind, .string t9.name, .string t9.other, .int .i64 t9.n, .int .i64 t9.type.kind, .slice l9.ta l9.tn l9.tc, .int .i64 t9.res.kind, .slice l9.ra l9.rn l9.rc, .slice l9.aa l9.an l9.ac]) ?_ rfl HD
    simp [results, Tryz.results71, go_sem, r0, r1, r2, r3, r4, r5, r6, r7, r8]
  · have hg : decide (m > 0) = false := by simp; omega
    have CS := hide (l9Small_any p t base ta tn tc m W0 D0.cur hpb hbW0 hT hf (by omega) (by omega) (by omega))
    go_wp2_with fail
    (with_reducible refine CS.out.mono ?_)
    rintro e w7 ⟨t9, l9, rfl, ho9, hs9', kd⟩
    have hs9 : t9.wt ≤ bndG d := by have := hbg.out; omega
    have BR : Blk w7 (w.heap.size + 1) 29 #[.int .i64 0, .string ⟨#[]⟩, .string ⟨#[]⟩, .int .i64 0, .int .i64 0, .slice none 0 0, .int .i64 0, .slice none 0 0, .slice none 0 0] := (kd.block lB2 (by omega)).trans B2
    obtain ⟨q0, q1, q2, q3, q4, q5, q6, q7, q8⟩ : _ ∧ _ ∧ _ ∧ _ ∧ _ ∧ _ ∧ _ ∧ _ ∧ _ := ⟨BR.cell 0, BR.cell 1, BR.cell 2, BR.cell 3, BR.cell 4, BR.cell 5, BR.cell 6, BR.cell 7, BR.cell 8⟩
    simp at q0 q1 q2 q3 q4 q5 q6 q7 q8
    obtain ⟨z0, z1, z2, z3, z4, z5, z6, z7, z8⟩ : _ ∧ _ ∧ _ ∧ _ ∧ _ ∧ _ ∧ _ ∧ _ ∧ _ := ⟨BR.free 0, BR.free 1, BR.free 2, BR.free 3, BR.free 4, BR.free 5, BR.free 6, BR.free 7, BR.free 8⟩
    go_wp2_with fail
    have HD : DrawsM p (bndG d) w (.returned (.agg #[.int .i64 t9.kind, .string t9.name, .string t9.other, .int .i64 t9.n, .int .i64 t9.type.kind, .slice l9.ta l9.tn l9.tc, .int .i64 t9.res.kind, .slice l9.ra l9.rn l9.rc, .slice l9.aa l9.an l9.ac])) (putAt w7 (w.heap.size + 1) 0 (tcells t9 l9)) :=
      ⟨t9, l9, rfl, (ho9.keep (putAt_fresh (by omega) _ _ _)).base (by omega), hs9, Drew.put hC (D0.trans kd) (by omega) _ _⟩
    have HB := (put_box BR rfl t9 l9).nine
    have E := putAt_zero w7 (w.heap.size + 1) t9 l9
    rw [← E]
    obtain ⟨r0, r1, r2, r3, r4, r5, r6, r7, r8⟩ := HB
    refine bodyPost_ret (v := .agg #[.int .i64 t9.kind, .string t9.name, .string t9.other, .int .i64 t9.n, .int .i64 t9.type.kind, .slice l9.ta l9.tn l9.tc, .int .i64 t9.res.kind, .slice l9.ra l9.rn l9.rc, .slice l9.aa l9.an l9.ac]) ?_ rfl HD
    simp [results, Tryz.results71, go_sem, r0, r1, r2, r3, r4, r5, r6, r7, r8]
end Go.Proofs.YtklifieahcoljaaGreat
