/-
  The walk of l9Base: an operation of a base type.
-/
import Derived.Test.YtklifieahcoljaaGreatKnownM
import Derived.Test.YtklifieahcoljaaGreatSafeM
import Derived.Test.YtklifieahcoljaaGreatHand
namespace Go.Proofs.YtklifieahcoljaaGreat
open Go.RowKit
set_option maxRecDepth 100000
set_option linter.unusedVariables false
set_option linter.unusedSimpArgs false

/-- How heavy a generated term of a depth may be. -/
def bndG : Nat → Nat
  | 0 => 600
  | 1 => 600
  | d + 2 => 600 + 3 * (1 + bndG (d + 1))
theorem bndG_step (d : Nat) (h : 2 ≤ d) : bndG d = 600 + 3 * (1 + bndG (d - 1)) := by
  match d, h with
  | d + 2, _ => simp only [bndG]; rfl
theorem TyA.nil (base : Nat) (w : World) (k : Int) (hk : i64 k) : TyA base w ⟨k, []⟩ none 0 0 := ⟨[], TyAt.nil base w k hk⟩
/-- What l9Gen says at a depth. -/
abbrev GenC (p : Nat) (e : Int) (D B : Nat) : Prop := ∀ (base : Nat) (xs : List (Rc Int)) (a : Option Addr) (n cap : Nat) (t : Ty) (ta : Option Addr) (tn tc : Nat) (m : Int) (w : World), Cur w p → p < base → base ≤ w.heap.size → CtxR base w xs a n cap → n + D ≤ 100 →
  TyA base w t ta tn tc → t.all Ty.formed = true → t.size + D ≤ 100 → 0 ≤ m → m + D ≤ 100 → Calls Tryz.prog 49 #[.pointer (some ⟨p, 0, none⟩), .slice a n cap, .agg #[.int .i64 t.kind, .slice ta tn tc], .int .i64 m, .int .i64 e] w (DrawsM p B w)
theorem l1Pick_sm (p g : Nat) (xs : List ByteArray) (B : Nat) (w : World) (h : Cur w p) (hB : Blk w g 9 (xs.map Value.string).toArray) (hg : p < g) (hs : ∀ x ∈ xs, x.size ≤ B ∧ x.size ≤ 1000) (hn : 0 < xs.length ∧ xs.length ≤ 1000) :
    Calls Tryz.prog 41 #[.pointer (some ⟨p, 0, none⟩), .slice (some ⟨g, 0, none⟩) xs.length xs.length] w fun e w' => ∃ z : ByteArray, e = .returned (.string z) ∧ z.size ≤ B ∧ Drew p w w' := by
  refine (l1Pick_any p g xs.length 9 _ w h hB hg (by simp) hn.1 (by omega) (strs_of xs fun x hx => (hs x hx).2)).mono ?_
  rintro e w' ⟨z, rfl, -, ⟨j, hj⟩, hd⟩
  refine ⟨z, rfl, ?_, hd⟩
  have hj2 : (xs.map Value.string)[j]? = some (.string z) := by simpa using hj
  rw [List.getElem?_map] at hj2
  cases hx : xs[j]? with
  | none => rw [hx] at hj2; cases hj2
  | some x =>
    rw [hx] at hj2
    have e : Value.string x = .string z := by simpa using hj2
    injection e with e
    subst e
    exact (hs x (List.mem_of_getElem? hx)).1
theorem op2_wt (op : ByteArray) (t1 t2 : Tm) {N B : Nat} (ho : op.size ≤ N) (h : N + (1 + t1.wt + (1 + t2.wt)) ≤ B) : Tm.wt { nodeM 4 [t1, t2] with name := op } ≤ B := by
  have h1 := wt_name (nodeM 4 [t1, t2]) op
  rw [nodeM_wt, Tm.wts, Tm.wts, Tm.wts] at h1
  exact Nat.le_trans h1 (by omega)
theorem op1_wt (op : ByteArray) (t1 : Tm) {N B : Nat} (ho : op.size ≤ N) (h : N + (1 + t1.wt) ≤ B) : Tm.wt { nodeM 4 [t1] with name := op } ≤ B := by
  have h1 := wt_name (nodeM 4 [t1]) op
  rw [nodeM_wt, Tm.wts, Tm.wts] at h1
  exact Nat.le_trans h1 (by omega)

abbrev Two (b : Nat) (k : Int) (W : World) : Prop := W.cell? ⟨b, 0, none⟩ = some (.int .i64 k) ∧ W.cell? ⟨b, 1, none⟩ = some (.slice none 0 0)
theorem two_set {b M i : Nat} {k : Int} {W : World} {v : Value} (hne : b ≠ M) (h : Two b k W) : Two b k (W.setCell ⟨M, i, none⟩ v) :=
  ⟨(same_set (p := ⟨M, i, none⟩) hne v 0).trans h.1, (same_set (p := ⟨M, i, none⟩) hne v 1).trans h.2⟩
/-- What a draw gives, its blocks from a lower place on. -/
theorem DrawsM.low {p N base : Nat} {w w' : World} {e : Ending} (h : DrawsM p N w e w') (hb : base ≤ w.heap.size) : ∃ (t : Tm) (l : Lt), e = .returned (.agg #[.int .i64 t.kind, .string t.name, .string t.other, .int .i64 t.n, .int .i64 t.type.kind, .slice l.ta l.tn l.tc, .int .i64 t.res.kind, .slice l.ra l.rn l.rc, .slice l.aa l.an l.ac]) ∧ OwnM base w' t l ∧ t.wt ≤ N ∧ Drew p w w' := by
  obtain ⟨t, l, he, ho, hs, hd⟩ := h
  exact ⟨t, l, he, ho.base hb, hs, hd⟩

set_option maxHeartbeats 12800000 in
theorem l9Base_of (p d : Nat) (hd2 : 2 ≤ d) (hd5 : d ≤ 5) (hG : bndG (d - 1) ≤ 200000) (GEN : GenC p ((d : Int) - 1) (d - 1) (bndG (d - 1))) (base : Nat) (xs : List (Rc Int)) (a : Option Addr) (n cap : Nat) (t : Ty) (ta : Option Addr) (tn tc : Nat) (m : Int) (w : World) (hC : Cur w p) (hpb : p < base) (hbw : base ≤ w.heap.size) (hctx : CtxR base w xs a n cap) (hn' : n + d ≤ 100) (hm0 : 0 ≤ m) (hm1' : m + d ≤ 100) :
    Calls Tryz.prog 72 #[.pointer (some ⟨p, 0, none⟩), .slice a n cap, .agg #[.int .i64 t.kind, .slice ta tn tc], .int .i64 m, .int .i64 (d : Int)] w (DrawsM p (bndG d) w) := by
  have hbg := hide (bndG_step d hd2)
  have hn : n + (d - 1) ≤ 100 := by omega
  have hm1 : m + ((d - 1 : Nat) : Int) ≤ 100 := by omega
  replace GEN := hide GEN
  have hlt := hC.lt
  have d0 := (Drew.alloc hC (.cells #[.int .i64 t.kind, .slice ta tn tc] 26)).trans (Drew.alloc (Drew.alloc hC (.cells #[.int .i64 t.kind, .slice ta tn tc] 26)).cur (.cells #[.int .i64 0, .string ⟨#[]⟩, .string ⟨#[]⟩, .int .i64 0, .int .i64 0, .slice none 0 0, .int .i64 0, .slice none 0 0, .slice none 0 0] 29))
  have T0 := (Blk.new w 26 #[.int .i64 t.kind, .slice ta tn tc]).alloc (.cells #[.int .i64 0, .string ⟨#[]⟩, .string ⟨#[]⟩, .int .i64 0, .int .i64 0, .slice none 0 0, .int .i64 0, .slice none 0 0, .slice none 0 0] 29)
  have B0 := Blk.new2 w (.cells #[.int .i64 t.kind, .slice ta tn tc] 26) 29 #[.int .i64 0, .string ⟨#[]⟩, .string ⟨#[]⟩, .int .i64 0, .int .i64 0, .slice none 0 0, .int .i64 0, .slice none 0 0, .slice none 0 0]
  go_enter Tryz.func72, Tryz.ntmps72
  go_wp2_with fail
  refine (l3Int_eq _).mono ?_
  rintro e w1 ⟨rfl, b1⟩
  have D1 := (d0.next b1).trans (Drew.alloc (d0.next b1).cur (.cells #[.int .i64 1, .slice none 0 0] 26))
  have T1 := (T0.under b1).alloc (.cells #[.int .i64 1, .slice none 0 0] 26)
  have B1 := (B0.under b1).alloc (.cells #[.int .i64 1, .slice none 0 0] 26)
  have X1 := Blk.new w1 26 #[.int .i64 1, .slice none 0 0]
  have s1 := b1.size
  simp at s1
  go_upto_region 2 with fail
  generalize hW1 : w1.alloc (.cells #[.int .i64 1, .slice none 0 0] 26) = w1' at D1 T1 B1 X1 ⊢
  have s1' : w1'.heap.size = w1.heap.size + 1 := by rw [← hW1]; simp
  clear hW1
  go_wp2_with fail
  refine (l3Bool_eq _).mono ?_
  rintro e w2 ⟨rfl, b2⟩
  have D0 := (D1.next b2).trans (Drew.alloc (D1.next b2).cur (.cells #[.int .i64 2, .slice none 0 0] 26))
  have T2 := (T1.under b2).alloc (.cells #[.int .i64 2, .slice none 0 0] 26)
  have B2 := (B1.under b2).alloc (.cells #[.int .i64 2, .slice none 0 0] 26)
  have Y1 := (X1.under b2).alloc (.cells #[.int .i64 2, .slice none 0 0] 26)
  have X2 := Blk.new w2 26 #[.int .i64 2, .slice none 0 0]
  have s2 := b2.size
  clear d0 T0 B0 D1 T1 B1 X1
  have X1 := Y1
  clear Y1
  go_upto_region 3 with fail
  generalize w2.alloc (.cells #[.int .i64 2, .slice none 0 0] 26) = W0 at D0 T2 B2 X1 X2 ⊢
  have lX1 := X1.lt
  have lX2 := X2.lt
  have lB2 := B2.lt
  have hbW0 : base ≤ W0.heap.size := Nat.le_trans hbw D0.size
  have hpW : p < W0.heap.size := by omega
  have s0W := D0.size
  replace hctx := hctx.keep (D0.fresh hpb)
  obtain ⟨y0, y1⟩ := T2.two
  by_cases k1 : t.kind = 1
  · have g1 : (t.kind == 1) = true := beq_iff_eq.2 k1
    go_upto_region 4 with fail
    have b0 : Below W0.heap.size W0 (W0.alloc (.cells #[.string ⟨#[43]⟩, .string ⟨#[42]⟩, .string ⟨#[45]⟩, .string ⟨#[43]⟩] 9)).drew := below_next (below_new _ _) (below_drew _)
    have kd1 : Drew p W0 (W0.alloc (.cells #[.string ⟨#[43]⟩, .string ⟨#[42]⟩, .string ⟨#[45]⟩, .string ⟨#[43]⟩] 9)).drew := Drew.of_below D0.cur b0
    have CP : Hid (Calls Tryz.prog 41 #[.pointer (some ⟨p, 0, none⟩), .slice (some ⟨W0.heap.size, 0, none⟩) 4 4] (W0.alloc (.cells #[.string ⟨#[43]⟩, .string ⟨#[42]⟩, .string ⟨#[45]⟩, .string ⟨#[43]⟩] 9)).drew fun e w' => ∃ z : ByteArray, e = .returned (.string z) ∧ z.size ≤ 100 ∧ Drew p (W0.alloc (.cells #[.string ⟨#[43]⟩, .string ⟨#[42]⟩, .string ⟨#[45]⟩, .string ⟨#[43]⟩] 9)).drew w') :=
      l1Pick_sm p W0.heap.size [⟨#[43]⟩, ⟨#[42]⟩, ⟨#[45]⟩, ⟨#[43]⟩] 100 _ kd1.cur ((Blk.new W0 _ _).under (below_drew _)) hpW (by decide) (by decide)
    have CG := hide (fun (W : World) (hd : Drew p W0 W) => (GEN.out base xs a n cap ⟨1, []⟩ none 0 0 m W hd.cur hpb (Nat.le_trans hbW0 hd.size) (hctx.keep (hd.fresh hpb)) hn (TyA.nil _ _ _ (by simp [i64])) (by decide) (by simp [Ty.size, Ty.sizes]; omega) hm0 hm1).mono fun e w' h => DrawsM.low h hd.size)
    have CO := hide (fun (W : World) (op : ByteArray) (t1 t2 : Tm) (l1 l2 : Lt) (ho : op.size ≤ 100) (h1 : Md W t1 l1) (h2 : Md W t2 l2) (w1 : t1.wt ≤ bndG (d - 1)) (w2 : t2.wt ≤ bndG (d - 1)) => (l5Op_any op [t1, t2] (some ⟨W.heap.size, 0, none⟩) 2 2 _ (by omega) (Mds_two h1 h2) (by simp only [Tm.wts]; omega)).mono fun e w' h => h.w (N := bndG d) (op2_wt op t1 t2 ho (by have := hbg.out; omega)))
    have HK := hide (fun (W : World) (hd : Drew p W0 W) => show Two w1.heap.size 1 W from Blk.two ((hd.block lX1 (by omega)).trans X1))
    have HR := hide (fun (W : World) (hd : Drew p W0 W) => show Blk W (w.heap.size + 1) 29 #[.int .i64 0, .string ⟨#[]⟩, .string ⟨#[]⟩, .int .i64 0, .int .i64 0, .slice none 0 0, .int .i64 0, .slice none 0 0, .slice none 0 0] from (hd.block lB2 (by omega)).trans B2)
    have hne : w1.heap.size ≠ w.heap.size + 1 := by omega
    have kd : Drew p W0 W0.drew := Drew.of_below D0.cur (below_drew W0)
    have hwr : IntKind.i64.wrap ((d : Int) - 1) = (d : Int) - 1 := IntWalk.i64_in _ (by omega)
    refine wp_region_noPanic ?_
    refine wp_region_held_drew (S := (fun W => W.cell? ⟨w1.heap.size, 0, none⟩ = some (.int .i64 1) ∧ W.cell? ⟨w1.heap.size, 1, none⟩ = some (.slice none 0 0))) (by kernel_rfl) ?_ (fun hHeld => ?_)
    · (try dsimp only)
      first | (with_reducible exact two_set hne (two_set hne (two_set hne (two_set hne (two_set hne (two_set hne (two_set hne (two_set hne (two_set hne (HK.out _ kd)))))))))) | exact HK.out _ kd | exact HK.out _ kd1 | exact HK.out _ (kd.next (below_new _ _))
    refine takeW 0 (v := ?_) rfl (by kernel_rfl) (by kernel_rfl) (by kernel_rfl) (fun _ _ _ h => h) (by rfl) (by assumption) ?_ ?_
    rotate_left
    · intro w hSw
      (try dsimp only at hSw)
      go_simp
      (try with_reducible rfl)
    try simp only [Act.put, List.setIfInBounds_toArray, List.set_cons_zero, List.set_cons_succ]
    refine takeW 3 (v := ?_) rfl (by kernel_rfl) (by kernel_rfl) (by kernel_rfl) (fun _ _ _ h => h) (by rfl) (by assumption) ?_ ?_
    rotate_left
    · intro w hSw
      (try dsimp only at hSw)
      go_simp
      (try with_reducible rfl)
    try simp only [Act.put, List.setIfInBounds_toArray, List.set_cons_zero, List.set_cons_succ]
    refine takeW 4 (v := ?_) rfl (by kernel_rfl) (by kernel_rfl) (by kernel_rfl) (fun _ _ _ h => h) (by rfl) (by assumption) ?_ ?_
    rotate_left
    · intro w hSw
      (try dsimp only at hSw)
      go_simp
      (try with_reducible rfl)
    try simp only [Act.put, List.setIfInBounds_toArray, List.set_cons_zero, List.set_cons_succ]
    refine takeW 5 (v := ?_) rfl (by kernel_rfl) (by kernel_rfl) (by kernel_rfl) (fun _ _ _ h => h) (by rfl) (by assumption) ?_ ?_
    rotate_left
    · intro w hSw
      (try dsimp only at hSw)
      go_simp
      (try with_reducible rfl)
    try simp only [Act.put, List.setIfInBounds_toArray, List.set_cons_zero, List.set_cons_succ]
    refine takeW 6 (v := ?_) rfl (by kernel_rfl) (by kernel_rfl) (by kernel_rfl) (fun _ _ _ h => h) (by rfl) (by assumption) ?_ ?_
    rotate_left
    · intro w hSw
      (try dsimp only at hSw)
      go_simp
      (try with_reducible rfl)
    try simp only [Act.put, List.setIfInBounds_toArray, List.set_cons_zero, List.set_cons_succ]
    refine takeW 7 (v := ?_) rfl (by kernel_rfl) (by kernel_rfl) (by kernel_rfl) (fun _ _ _ h => h) (by rfl) (by assumption) ?_ ?_
    rotate_left
    · intro w hSw
      (try dsimp only at hSw)
      go_simp
      (try with_reducible rfl)
    try simp only [Act.put, List.setIfInBounds_toArray, List.set_cons_zero, List.set_cons_succ]
    refine takeW 8 (v := ?_) rfl (by kernel_rfl) (by kernel_rfl) (by kernel_rfl) (fun _ _ _ h => h) (by rfl) (by assumption) ?_ ?_
    rotate_left
    · intro w hSw
      (try dsimp only at hSw)
      go_simp
      (try with_reducible rfl)
    try simp only [Act.put, List.setIfInBounds_toArray, List.set_cons_zero, List.set_cons_succ]
    refine takeW 10 (v := ?_) rfl (by kernel_rfl) (by kernel_rfl) (by kernel_rfl) (fun _ _ _ h => h) (by rfl) (by assumption) ?_ ?_
    rotate_left
    · intro w hSw
      (try dsimp only at hSw)
      go_simp
      (try with_reducible rfl)
    try simp only [Act.put, List.setIfInBounds_toArray, List.set_cons_zero, List.set_cons_succ]
    refine takeW 11 (v := ?_) rfl (by kernel_rfl) (by kernel_rfl) (by kernel_rfl) (fun _ _ _ h => h) (by rfl) (by assumption) ?_ ?_
    rotate_left
    · intro w hSw
      (try dsimp only at hSw)
      go_simp
      (try with_reducible rfl)
    try simp only [Act.put, List.setIfInBounds_toArray, List.set_cons_zero, List.set_cons_succ]
    refine takeW 12 (v := ?_) rfl (by kernel_rfl) (by kernel_rfl) (by kernel_rfl) (fun _ _ _ h => h) (by rfl) (by assumption) ?_ ?_
    rotate_left
    · intro w hSw
      (try dsimp only at hSw)
      go_simp
      (try with_reducible rfl)
    try simp only [Act.put, List.setIfInBounds_toArray, List.set_cons_zero, List.set_cons_succ]
    refine takeW 13 (v := ?_) rfl (by kernel_rfl) (by kernel_rfl) (by kernel_rfl) (fun _ _ _ h => h) (by rfl) (by assumption) ?_ ?_
    rotate_left
    · intro w hSw
      (try dsimp only at hSw)
      go_simp
      (try with_reducible rfl)
    try simp only [Act.put, List.setIfInBounds_toArray, List.set_cons_zero, List.set_cons_succ]
    refine takeW 14 (v := ?_) rfl (by kernel_rfl) (by kernel_rfl) (by kernel_rfl) (fun _ _ _ h => h) (by rfl) (by assumption) ?_ ?_
    rotate_left
    · intro w hSw
      (try dsimp only at hSw)
      go_simp
      (try with_reducible rfl)
    try simp only [Act.put, List.setIfInBounds_toArray, List.set_cons_zero, List.set_cons_succ]
    refine takeW 15 (v := ?_) rfl (by kernel_rfl) (by kernel_rfl) (by kernel_rfl) (fun _ _ _ h => h) (by rfl) (by assumption) ?_ ?_
    rotate_left
    · intro w hSw
      (try dsimp only at hSw)
      go_simp
      (try with_reducible rfl)
    try simp only [Act.put, List.setIfInBounds_toArray, List.set_cons_zero, List.set_cons_succ]
    refine goW 1 rfl (by kernel_rfl) (fun K hK => ?_)
    go_simp
    refine hK.out _ _ ?_ (fun hHeld => ?_)
    · (try dsimp only)
      first | (with_reducible exact two_set hne (two_set hne (two_set hne (two_set hne (two_set hne (two_set hne (two_set hne (two_set hne (two_set hne (HK.out _ kd)))))))))) | exact HK.out _ kd | exact HK.out _ kd1 | exact HK.out _ (kd.next (below_new _ _))
    clear hK K
    try simp only [Act.put, List.setIfInBounds_toArray, List.set_cons_zero, List.set_cons_succ]
    refine goW 2 rfl (by kernel_rfl) (fun K hK => ?_)
    go_simp
    go_at_call 41; (with_reducible refine CP.out.mono ?_); rintro e w3 ⟨op, rfl, hop, d3⟩; have kd := kd1.trans d3
    refine hK.out _ _ ?_ (fun hHeld => ?_)
    · (try dsimp only)
      first | (with_reducible exact two_set hne (two_set hne (two_set hne (two_set hne (two_set hne (two_set hne (two_set hne (two_set hne (two_set hne (HK.out _ kd)))))))))) | exact HK.out _ kd | exact HK.out _ kd1 | exact HK.out _ (kd.next (below_new _ _))
    clear hK K
    try simp only [Act.put, List.setIfInBounds_toArray, List.set_cons_zero, List.set_cons_succ]
    refine goW 9 rfl (by kernel_rfl) (fun K hK => ?_)
    go_simp
    go_at_call 49; (with_reducible refine (CG.out _ kd).mono ?_); rintro e w4 ⟨t1, l1, rfl, ho1, hs1, d4⟩; have kd := kd.trans d4
    refine hK.out _ _ ?_ (fun hHeld => ?_)
    · (try dsimp only)
      first | (with_reducible exact two_set hne (two_set hne (two_set hne (two_set hne (two_set hne (two_set hne (two_set hne (two_set hne (two_set hne (HK.out _ kd)))))))))) | exact HK.out _ kd | exact HK.out _ kd1 | exact HK.out _ (kd.next (below_new _ _))
    clear hK K
    try simp only [Act.put, List.setIfInBounds_toArray, List.set_cons_zero, List.set_cons_succ]
    refine goW 16 rfl (by kernel_rfl) (fun K hK => ?_)
    go_simp
    go_at_call 49; (with_reducible refine (CG.out _ kd).mono ?_); rintro e w5 ⟨t2, l2, rfl, ho2, hs2, d5⟩; have kd := kd.trans d5; have kd5 := kd
    refine hK.out _ _ ?_ (fun hHeld => ?_)
    · (try dsimp only)
      first | (with_reducible exact two_set hne (two_set hne (two_set hne (two_set hne (two_set hne (two_set hne (two_set hne (two_set hne (two_set hne (HK.out _ kd)))))))))) | exact HK.out _ kd | exact HK.out _ kd1 | exact HK.out _ (kd.next (below_new _ _))
    clear hK K
    try simp only [Act.put, List.setIfInBounds_toArray, List.set_cons_zero, List.set_cons_succ]
    refine goW 17 rfl (by kernel_rfl) (fun K hK => ?_)
    go_simp
    refine hK.out _ _ ?_ (fun hHeld => ?_)
    · (try dsimp only)
      first | (with_reducible exact two_set hne (two_set hne (two_set hne (two_set hne (two_set hne (two_set hne (two_set hne (two_set hne (two_set hne (HK.out _ kd)))))))))) | exact HK.out _ kd | exact HK.out _ kd1 | exact HK.out _ (kd.next (below_new _ _))
    clear hK K
    try simp only [Act.put, List.setIfInBounds_toArray, List.set_cons_zero, List.set_cons_succ]
    refine goW 18 rfl (by kernel_rfl) (fun K hK => ?_)
    go_simp
    go_at_call 100; (with_reducible refine (CO.out w5 op t1 t2 l1 l2 hop (ho1.keep (d5.fresh hpW)).md ho2.md hs1 hs2).mono ?_); rintro e w6 ⟨t3, l3, rfl, ho3, hs3, b6⟩; have kd := (kd.next (below_new _ _)).next b6; have BR := HR.out _ kd; obtain ⟨q0, q1, q2, q3, q4, q5, q6, q7, q8⟩ : _ ∧ _ ∧ _ ∧ _ ∧ _ ∧ _ ∧ _ ∧ _ ∧ _ := ⟨BR.cell 0, BR.cell 1, BR.cell 2, BR.cell 3, BR.cell 4, BR.cell 5, BR.cell 6, BR.cell 7, BR.cell 8⟩; simp at q0 q1 q2 q3 q4 q5 q6 q7 q8; obtain ⟨z0, z1, z2, z3, z4, z5, z6, z7, z8⟩ : _ ∧ _ ∧ _ ∧ _ ∧ _ ∧ _ ∧ _ ∧ _ ∧ _ := ⟨BR.free 0, BR.free 1, BR.free 2, BR.free 3, BR.free 4, BR.free 5, BR.free 6, BR.free 7, BR.free 8⟩
    refine hK.out _ _ ?_ (fun hHeld => ?_)
    · (try dsimp only)
      first | (with_reducible exact two_set hne (two_set hne (two_set hne (two_set hne (two_set hne (two_set hne (two_set hne (two_set hne (two_set hne (HK.out _ kd)))))))))) | exact HK.out _ kd | exact HK.out _ kd1 | exact HK.out _ (kd.next (below_new _ _))
    clear hK K
    try simp only [Act.put, List.setIfInBounds_toArray, List.set_cons_zero, List.set_cons_succ]
    refine goW 19 rfl (by kernel_rfl) (fun K hK => ?_)
    go_simp
    refine hK.out _ _ ?_ (fun hHeld => ?_)
    · (try dsimp only)
      first | (with_reducible exact two_set hne (two_set hne (two_set hne (two_set hne (two_set hne (two_set hne (two_set hne (two_set hne (two_set hne (HK.out _ kd)))))))))) | exact HK.out _ kd | exact HK.out _ kd1 | exact HK.out _ (kd.next (below_new _ _))
    clear hK K
    try simp only [Act.put, List.setIfInBounds_toArray, List.set_cons_zero, List.set_cons_succ]
    refine wpAnyH_done (by kernel_rfl) ?_ _
    refine NoPanic.normal ?_
    go_wp2_with fail
    have hs5 : w.heap.size + 1 < w5.heap.size := by have := kd5.size; omega
    have D9 := D0.trans kd
    have HD : DrawsM p (bndG d) w (.returned (.agg #[.int .i64 t3.kind, .string t3.name, .string t3.other, .int .i64 t3.n, .int .i64 t3.type.kind, .slice l3.ta l3.tn l3.tc, .int .i64 t3.res.kind, .slice l3.ra l3.rn l3.rc, .slice l3.aa l3.an l3.ac])) (putAt w6 (w.heap.size + 1) 0 (tcells t3 l3)) :=
      ⟨t3, l3, rfl, (ho3.keep (putAt_fresh (by simp; omega) _ _ _)).base (by simp; omega), hs3, Drew.put hC D9 (by omega) _ _⟩
    have HB := (put_box BR rfl t3 l3).nine
    have E := putAt_zero w6 (w.heap.size + 1) t3 l3
    rw [← E]
    obtain ⟨r0, r1, r2, r3, r4, r5, r6, r7, r8⟩ := HB
    refine bodyPost_ret (v := .agg #[.int .i64 t3.kind, .string t3.name, .string t3.other, .int .i64 t3.n, .int .i64 t3.type.kind, .slice l3.ta l3.tn l3.tc, .int .i64 t3.res.kind, .slice l3.ra l3.rn l3.rc, .slice l3.aa l3.an l3.ac]) ?_ rfl HD
    simp [results, Tryz.results72, go_sem, r0, r1, r2, r3, r4, r5, r6, r7, r8]
  · have g1 : (t.kind == 1) = false := beq_eq_false_iff_ne.2 k1
    go_wp2_with fail
    refine (l1Below_any p 4 _ D0.cur (by omega)).mono ?_
    rintro e wz ⟨z, rfl, -, -, dz⟩
    have X1z : Blk wz w1.heap.size _ _ := (dz.block lX1 (by omega)).trans X1
    have X2z : Blk wz w2.heap.size _ _ := (dz.block lX2 (by omega)).trans X2
    have B2z : Blk wz (w.heap.size + 1) _ _ := (dz.block lB2 (by omega)).trans B2
    have D0z := D0.trans dz
    have sz := dz.size
    replace hctx := hctx.keep (dz.fresh hpb)
    have hbWz : base ≤ wz.heap.size := Nat.le_trans hbW0 sz
    clear y0 y1 T2 X1 X2 B2 D0 hbW0 lX1 lX2 lB2 dz s0W hpW
    have lX1 := X1z.lt
    have lX2 := X2z.lt
    have lB2 := B2z.lt
    have hpW : p < wz.heap.size := by omega
    have s0W := D0z.size
    rename Blk wz w1.heap.size _ _ => X1
    rename Blk wz w2.heap.size _ _ => X2
    rename Blk wz (w.heap.size + 1) _ _ => B2
    rename Drew p w wz => D0
    rename base ≤ wz.heap.size => hbW0
    generalize wz = W0 at *
    by_cases z0 : z = 0
    · subst z0
      obtain ⟨v0, v1⟩ := X2.two
      have hwr : IntKind.i64.wrap ((d : Int) - 1) = (d : Int) - 1 := IntWalk.i64_in _ (by omega)
      have CG := hide (GEN.out base xs a n cap ⟨2, []⟩ none 0 0 m W0 D0.cur hpb hbW0 hctx hn (TyA.nil _ _ _ (by simp [i64])) (by decide) (by simp [Ty.size, Ty.sizes]; omega) hm0 hm1)
      go_wp2_with fail
      (with_reducible refine CG.out.mono ?_)
      rintro e w4 ⟨t1, l1, rfl, ho1, hs1, d4⟩
      have s4 := d4.size
      have CO := hide ((l5Op_any ⟨#[33]⟩ [t1] (some ⟨w4.heap.size, 0, none⟩) 1 1 _ (by decide) (Mds_one ho1.md) (by simp only [Tm.wts]; omega)).mono fun e w' h => h.w (N := bndG d) (op1_wt (N := 100) ⟨#[33]⟩ t1 (by decide) (by have := hbg.out; omega)))
      have B4 : Blk w4 (w.heap.size + 1) 29 #[.int .i64 0, .string ⟨#[]⟩, .string ⟨#[]⟩, .int .i64 0, .int .i64 0, .slice none 0 0, .int .i64 0, .slice none 0 0, .slice none 0 0] := (d4.block lB2 (by omega)).trans B2
      go_wp2_with fail
      (with_reducible refine CO.out.mono ?_)
      rintro e w6 ⟨t3, l3, rfl, ho3, hs3, b6⟩
      have BR := (B4.alloc (.cells #[.int .i64 t1.kind, .string t1.name, .string t1.other, .int .i64 t1.n, .int .i64 t1.type.kind, .slice l1.ta l1.tn l1.tc, .int .i64 t1.res.kind, .slice l1.ra l1.rn l1.rc, .slice l1.aa l1.an l1.ac] 29)).under b6
      have D9 := (D0.trans d4).next (below_next (below_new w4 (.cells #[.int .i64 t1.kind, .string t1.name, .string t1.other, .int .i64 t1.n, .int .i64 t1.type.kind, .slice l1.ta l1.tn l1.tc, .int .i64 t1.res.kind, .slice l1.ra l1.rn l1.rc, .slice l1.aa l1.an l1.ac] 29)) b6)
      obtain ⟨q0, q1, q2, q3, q4, q5, q6, q7, q8⟩ : _ ∧ _ ∧ _ ∧ _ ∧ _ ∧ _ ∧ _ ∧ _ ∧ _ := ⟨BR.cell 0, BR.cell 1, BR.cell 2, BR.cell 3, BR.cell 4, BR.cell 5, BR.cell 6, BR.cell 7, BR.cell 8⟩
      simp at q0 q1 q2 q3 q4 q5 q6 q7 q8
      obtain ⟨z0, z1, z2, z3, z4, z5, z6, z7, z8⟩ : _ ∧ _ ∧ _ ∧ _ ∧ _ ∧ _ ∧ _ ∧ _ ∧ _ := ⟨BR.free 0, BR.free 1, BR.free 2, BR.free 3, BR.free 4, BR.free 5, BR.free 6, BR.free 7, BR.free 8⟩
      go_wp2_with fail
      have HD : DrawsM p (bndG d) w (.returned (.agg #[.int .i64 t3.kind, .string t3.name, .string t3.other, .int .i64 t3.n, .int .i64 t3.type.kind, .slice l3.ta l3.tn l3.tc, .int .i64 t3.res.kind, .slice l3.ra l3.rn l3.rc, .slice l3.aa l3.an l3.ac])) (putAt w6 (w.heap.size + 1) 0 (tcells t3 l3)) :=
        ⟨t3, l3, rfl, (ho3.keep (putAt_fresh (by simp; omega) _ _ _)).base (by simp; omega), hs3, Drew.put hC D9 (by omega) _ _⟩
      have HB := (put_box BR rfl t3 l3).nine
      have E := putAt_zero w6 (w.heap.size + 1) t3 l3
      rw [← E]
      obtain ⟨r0, r1, r2, r3, r4, r5, r6, r7, r8⟩ := HB
      refine bodyPost_ret (v := .agg #[.int .i64 t3.kind, .string t3.name, .string t3.other, .int .i64 t3.n, .int .i64 t3.type.kind, .slice l3.ta l3.tn l3.tc, .int .i64 t3.res.kind, .slice l3.ra l3.rn l3.rc, .slice l3.aa l3.an l3.ac]) ?_ rfl HD
      simp [results, Tryz.results72, go_sem, r0, r1, r2, r3, r4, r5, r6, r7, r8]
    have h0 : ((z : Int) == 0) = false := by simp; omega
    by_cases z1 : z = 1
    · subst z1
      go_upto_region 9 with fail
      have b0 : Below W0.heap.size W0 (W0.alloc (.cells #[.string ⟨#[38]⟩, .string ⟨#[124]⟩] 9)).drew := below_next (below_new _ _) (below_drew _)
      have kd1 : Drew p W0 (W0.alloc (.cells #[.string ⟨#[38]⟩, .string ⟨#[124]⟩] 9)).drew := Drew.of_below D0.cur b0
      have CP : Hid (Calls Tryz.prog 41 #[.pointer (some ⟨p, 0, none⟩), .slice (some ⟨W0.heap.size, 0, none⟩) 2 2] (W0.alloc (.cells #[.string ⟨#[38]⟩, .string ⟨#[124]⟩] 9)).drew fun e w' => ∃ z : ByteArray, e = .returned (.string z) ∧ z.size ≤ 100 ∧ Drew p (W0.alloc (.cells #[.string ⟨#[38]⟩, .string ⟨#[124]⟩] 9)).drew w') :=
        l1Pick_sm p W0.heap.size [⟨#[38]⟩, ⟨#[124]⟩] 100 _ kd1.cur ((Blk.new W0 _ _).under (below_drew _)) hpW (by decide) (by decide)
      have CG := hide (fun (W : World) (hd : Drew p W0 W) => (GEN.out base xs a n cap ⟨2, []⟩ none 0 0 m W hd.cur hpb (Nat.le_trans hbW0 hd.size) (hctx.keep (hd.fresh hpb)) hn (TyA.nil _ _ _ (by simp [i64])) (by decide) (by simp [Ty.size, Ty.sizes]; omega) hm0 hm1).mono fun e w' h => DrawsM.low h hd.size)
      have CO := hide (fun (W : World) (op : ByteArray) (t1 t2 : Tm) (l1 l2 : Lt) (ho : op.size ≤ 100) (h1 : Md W t1 l1) (h2 : Md W t2 l2) (w1 : t1.wt ≤ bndG (d - 1)) (w2 : t2.wt ≤ bndG (d - 1)) => (l5Op_any op [t1, t2] (some ⟨W.heap.size, 0, none⟩) 2 2 _ (by omega) (Mds_two h1 h2) (by simp only [Tm.wts]; omega)).mono fun e w' h => h.w (N := bndG d) (op2_wt op t1 t2 ho (by have := hbg.out; omega)))
      have HK := hide (fun (W : World) (hd : Drew p W0 W) => show Two w2.heap.size 2 W from Blk.two ((hd.block lX2 (by omega)).trans X2))
      have HR := hide (fun (W : World) (hd : Drew p W0 W) => show Blk W (w.heap.size + 1) 29 #[.int .i64 0, .string ⟨#[]⟩, .string ⟨#[]⟩, .int .i64 0, .int .i64 0, .slice none 0 0, .int .i64 0, .slice none 0 0, .slice none 0 0] from (hd.block lB2 (by omega)).trans B2)
      have hne : w2.heap.size ≠ w.heap.size + 1 := by omega
      have kd : Drew p W0 W0.drew := Drew.of_below D0.cur (below_drew W0)
      have hwr : IntKind.i64.wrap ((d : Int) - 1) = (d : Int) - 1 := IntWalk.i64_in _ (by omega)
      refine wp_region_noPanic ?_
      refine wp_region_held_drew (S := (fun W => W.cell? ⟨w2.heap.size, 0, none⟩ = some (.int .i64 2) ∧ W.cell? ⟨w2.heap.size, 1, none⟩ = some (.slice none 0 0))) (by kernel_rfl) ?_ (fun hHeld => ?_)
      · (try dsimp only)
        first | (with_reducible exact two_set hne (two_set hne (two_set hne (two_set hne (two_set hne (two_set hne (two_set hne (two_set hne (two_set hne (HK.out _ kd)))))))))) | exact HK.out _ kd | exact HK.out _ kd1 | exact HK.out _ (kd.next (below_new _ _))
      refine takeW 0 (v := ?_) rfl (by kernel_rfl) (by kernel_rfl) (by kernel_rfl) (fun _ _ _ h => h) (by rfl) (by assumption) ?_ ?_
      rotate_left
      · intro w hSw
        (try dsimp only at hSw)
        go_simp
        (try with_reducible rfl)
      try simp only [Act.put, List.setIfInBounds_toArray, List.set_cons_zero, List.set_cons_succ]
      refine takeW 3 (v := ?_) rfl (by kernel_rfl) (by kernel_rfl) (by kernel_rfl) (fun _ _ _ h => h) (by rfl) (by assumption) ?_ ?_
      rotate_left
      · intro w hSw
        (try dsimp only at hSw)
        go_simp
        (try with_reducible rfl)
      try simp only [Act.put, List.setIfInBounds_toArray, List.set_cons_zero, List.set_cons_succ]
      refine takeW 4 (v := ?_) rfl (by kernel_rfl) (by kernel_rfl) (by kernel_rfl) (fun _ _ _ h => h) (by rfl) (by assumption) ?_ ?_
      rotate_left
      · intro w hSw
        (try dsimp only at hSw)
        go_simp
        (try with_reducible rfl)
      try simp only [Act.put, List.setIfInBounds_toArray, List.set_cons_zero, List.set_cons_succ]
      refine takeW 5 (v := ?_) rfl (by kernel_rfl) (by kernel_rfl) (by kernel_rfl) (fun _ _ _ h => h) (by rfl) (by assumption) ?_ ?_
      rotate_left
      · intro w hSw
        (try dsimp only at hSw)
        go_simp
        (try with_reducible rfl)
      try simp only [Act.put, List.setIfInBounds_toArray, List.set_cons_zero, List.set_cons_succ]
      refine takeW 6 (v := ?_) rfl (by kernel_rfl) (by kernel_rfl) (by kernel_rfl) (fun _ _ _ h => h) (by rfl) (by assumption) ?_ ?_
      rotate_left
      · intro w hSw
        (try dsimp only at hSw)
        go_simp
        (try with_reducible rfl)
      try simp only [Act.put, List.setIfInBounds_toArray, List.set_cons_zero, List.set_cons_succ]
      refine takeW 7 (v := ?_) rfl (by kernel_rfl) (by kernel_rfl) (by kernel_rfl) (fun _ _ _ h => h) (by rfl) (by assumption) ?_ ?_
      rotate_left
      · intro w hSw
        (try dsimp only at hSw)
        go_simp
        (try with_reducible rfl)
      try simp only [Act.put, List.setIfInBounds_toArray, List.set_cons_zero, List.set_cons_succ]
      refine takeW 8 (v := ?_) rfl (by kernel_rfl) (by kernel_rfl) (by kernel_rfl) (fun _ _ _ h => h) (by rfl) (by assumption) ?_ ?_
      rotate_left
      · intro w hSw
        (try dsimp only at hSw)
        go_simp
        (try with_reducible rfl)
      try simp only [Act.put, List.setIfInBounds_toArray, List.set_cons_zero, List.set_cons_succ]
      refine takeW 10 (v := ?_) rfl (by kernel_rfl) (by kernel_rfl) (by kernel_rfl) (fun _ _ _ h => h) (by rfl) (by assumption) ?_ ?_
      rotate_left
      · intro w hSw
        (try dsimp only at hSw)
        go_simp
        (try with_reducible rfl)
      try simp only [Act.put, List.setIfInBounds_toArray, List.set_cons_zero, List.set_cons_succ]
      refine takeW 11 (v := ?_) rfl (by kernel_rfl) (by kernel_rfl) (by kernel_rfl) (fun _ _ _ h => h) (by rfl) (by assumption) ?_ ?_
      rotate_left
      · intro w hSw
        (try dsimp only at hSw)
        go_simp
        (try with_reducible rfl)
      try simp only [Act.put, List.setIfInBounds_toArray, List.set_cons_zero, List.set_cons_succ]
      refine takeW 12 (v := ?_) rfl (by kernel_rfl) (by kernel_rfl) (by kernel_rfl) (fun _ _ _ h => h) (by rfl) (by assumption) ?_ ?_
      rotate_left
      · intro w hSw
        (try dsimp only at hSw)
        go_simp
        (try with_reducible rfl)
      try simp only [Act.put, List.setIfInBounds_toArray, List.set_cons_zero, List.set_cons_succ]
      refine takeW 13 (v := ?_) rfl (by kernel_rfl) (by kernel_rfl) (by kernel_rfl) (fun _ _ _ h => h) (by rfl) (by assumption) ?_ ?_
      rotate_left
      · intro w hSw
        (try dsimp only at hSw)
        go_simp
        (try with_reducible rfl)
      try simp only [Act.put, List.setIfInBounds_toArray, List.set_cons_zero, List.set_cons_succ]
      refine takeW 14 (v := ?_) rfl (by kernel_rfl) (by kernel_rfl) (by kernel_rfl) (fun _ _ _ h => h) (by rfl) (by assumption) ?_ ?_
      rotate_left
      · intro w hSw
        (try dsimp only at hSw)
        go_simp
        (try with_reducible rfl)
      try simp only [Act.put, List.setIfInBounds_toArray, List.set_cons_zero, List.set_cons_succ]
      refine takeW 15 (v := ?_) rfl (by kernel_rfl) (by kernel_rfl) (by kernel_rfl) (fun _ _ _ h => h) (by rfl) (by assumption) ?_ ?_
      rotate_left
      · intro w hSw
        (try dsimp only at hSw)
        go_simp
        (try with_reducible rfl)
      try simp only [Act.put, List.setIfInBounds_toArray, List.set_cons_zero, List.set_cons_succ]
      refine goW 1 rfl (by kernel_rfl) (fun K hK => ?_)
      go_simp
      refine hK.out _ _ ?_ (fun hHeld => ?_)
      · (try dsimp only)
        first | (with_reducible exact two_set hne (two_set hne (two_set hne (two_set hne (two_set hne (two_set hne (two_set hne (two_set hne (two_set hne (HK.out _ kd)))))))))) | exact HK.out _ kd | exact HK.out _ kd1 | exact HK.out _ (kd.next (below_new _ _))
      clear hK K
      try simp only [Act.put, List.setIfInBounds_toArray, List.set_cons_zero, List.set_cons_succ]
      refine goW 2 rfl (by kernel_rfl) (fun K hK => ?_)
      go_simp
      go_at_call 41; (with_reducible refine CP.out.mono ?_); rintro e w3 ⟨op, rfl, hop, d3⟩; have kd := kd1.trans d3
      refine hK.out _ _ ?_ (fun hHeld => ?_)
      · (try dsimp only)
        first | (with_reducible exact two_set hne (two_set hne (two_set hne (two_set hne (two_set hne (two_set hne (two_set hne (two_set hne (two_set hne (HK.out _ kd)))))))))) | exact HK.out _ kd | exact HK.out _ kd1 | exact HK.out _ (kd.next (below_new _ _))
      clear hK K
      try simp only [Act.put, List.setIfInBounds_toArray, List.set_cons_zero, List.set_cons_succ]
      refine goW 9 rfl (by kernel_rfl) (fun K hK => ?_)
      go_simp
      go_at_call 49; (with_reducible refine (CG.out _ kd).mono ?_); rintro e w4 ⟨t1, l1, rfl, ho1, hs1, d4⟩; have kd := kd.trans d4
      refine hK.out _ _ ?_ (fun hHeld => ?_)
      · (try dsimp only)
        first | (with_reducible exact two_set hne (two_set hne (two_set hne (two_set hne (two_set hne (two_set hne (two_set hne (two_set hne (two_set hne (HK.out _ kd)))))))))) | exact HK.out _ kd | exact HK.out _ kd1 | exact HK.out _ (kd.next (below_new _ _))
      clear hK K
      try simp only [Act.put, List.setIfInBounds_toArray, List.set_cons_zero, List.set_cons_succ]
      refine goW 16 rfl (by kernel_rfl) (fun K hK => ?_)
      go_simp
      go_at_call 49; (with_reducible refine (CG.out _ kd).mono ?_); rintro e w5 ⟨t2, l2, rfl, ho2, hs2, d5⟩; have kd := kd.trans d5; have kd5 := kd
      refine hK.out _ _ ?_ (fun hHeld => ?_)
      · (try dsimp only)
        first | (with_reducible exact two_set hne (two_set hne (two_set hne (two_set hne (two_set hne (two_set hne (two_set hne (two_set hne (two_set hne (HK.out _ kd)))))))))) | exact HK.out _ kd | exact HK.out _ kd1 | exact HK.out _ (kd.next (below_new _ _))
      clear hK K
      try simp only [Act.put, List.setIfInBounds_toArray, List.set_cons_zero, List.set_cons_succ]
      refine goW 17 rfl (by kernel_rfl) (fun K hK => ?_)
      go_simp
      refine hK.out _ _ ?_ (fun hHeld => ?_)
      · (try dsimp only)
        first | (with_reducible exact two_set hne (two_set hne (two_set hne (two_set hne (two_set hne (two_set hne (two_set hne (two_set hne (two_set hne (HK.out _ kd)))))))))) | exact HK.out _ kd | exact HK.out _ kd1 | exact HK.out _ (kd.next (below_new _ _))
      clear hK K
      try simp only [Act.put, List.setIfInBounds_toArray, List.set_cons_zero, List.set_cons_succ]
      refine goW 18 rfl (by kernel_rfl) (fun K hK => ?_)
      go_simp
      go_at_call 100; (with_reducible refine (CO.out w5 op t1 t2 l1 l2 hop (ho1.keep (d5.fresh hpW)).md ho2.md hs1 hs2).mono ?_); rintro e w6 ⟨t3, l3, rfl, ho3, hs3, b6⟩; have kd := (kd.next (below_new _ _)).next b6; have BR := HR.out _ kd; obtain ⟨q0, q1, q2, q3, q4, q5, q6, q7, q8⟩ : _ ∧ _ ∧ _ ∧ _ ∧ _ ∧ _ ∧ _ ∧ _ ∧ _ := ⟨BR.cell 0, BR.cell 1, BR.cell 2, BR.cell 3, BR.cell 4, BR.cell 5, BR.cell 6, BR.cell 7, BR.cell 8⟩; simp at q0 q1 q2 q3 q4 q5 q6 q7 q8; obtain ⟨z0, z1, z2, z3, z4, z5, z6, z7, z8⟩ : _ ∧ _ ∧ _ ∧ _ ∧ _ ∧ _ ∧ _ ∧ _ ∧ _ := ⟨BR.free 0, BR.free 1, BR.free 2, BR.free 3, BR.free 4, BR.free 5, BR.free 6, BR.free 7, BR.free 8⟩
      refine hK.out _ _ ?_ (fun hHeld => ?_)
      · (try dsimp only)
        first | (with_reducible exact two_set hne (two_set hne (two_set hne (two_set hne (two_set hne (two_set hne (two_set hne (two_set hne (two_set hne (HK.out _ kd)))))))))) | exact HK.out _ kd | exact HK.out _ kd1 | exact HK.out _ (kd.next (below_new _ _))
      clear hK K
      try simp only [Act.put, List.setIfInBounds_toArray, List.set_cons_zero, List.set_cons_succ]
      refine goW 19 rfl (by kernel_rfl) (fun K hK => ?_)
      go_simp
      refine hK.out _ _ ?_ (fun hHeld => ?_)
      · (try dsimp only)
        first | (with_reducible exact two_set hne (two_set hne (two_set hne (two_set hne (two_set hne (two_set hne (two_set hne (two_set hne (two_set hne (HK.out _ kd)))))))))) | exact HK.out _ kd | exact HK.out _ kd1 | exact HK.out _ (kd.next (below_new _ _))
      clear hK K
      try simp only [Act.put, List.setIfInBounds_toArray, List.set_cons_zero, List.set_cons_succ]
      refine wpAnyH_done (by kernel_rfl) ?_ _
      refine NoPanic.normal ?_
      go_wp2_with fail
      have hs5 : w.heap.size + 1 < w5.heap.size := by have := kd5.size; omega
      have D9 := D0.trans kd
      have HD : DrawsM p (bndG d) w (.returned (.agg #[.int .i64 t3.kind, .string t3.name, .string t3.other, .int .i64 t3.n, .int .i64 t3.type.kind, .slice l3.ta l3.tn l3.tc, .int .i64 t3.res.kind, .slice l3.ra l3.rn l3.rc, .slice l3.aa l3.an l3.ac])) (putAt w6 (w.heap.size + 1) 0 (tcells t3 l3)) :=
        ⟨t3, l3, rfl, (ho3.keep (putAt_fresh (by simp; omega) _ _ _)).base (by simp; omega), hs3, Drew.put hC D9 (by omega) _ _⟩
      have HB := (put_box BR rfl t3 l3).nine
      have E := putAt_zero w6 (w.heap.size + 1) t3 l3
      rw [← E]
      obtain ⟨r0, r1, r2, r3, r4, r5, r6, r7, r8⟩ := HB
      refine bodyPost_ret (v := .agg #[.int .i64 t3.kind, .string t3.name, .string t3.other, .int .i64 t3.n, .int .i64 t3.type.kind, .slice l3.ta l3.tn l3.tc, .int .i64 t3.res.kind, .slice l3.ra l3.rn l3.rc, .slice l3.aa l3.an l3.ac]) ?_ rfl HD
      simp [results, Tryz.results72, go_sem, r0, r1, r2, r3, r4, r5, r6, r7, r8]
    have h1 : ((z : Int) == 1) = false := by simp; omega
    go_upto_region 10 with fail
    have b0 : Below W0.heap.size W0 (W0.alloc (.cells #[.string ⟨#[61]⟩, .string ⟨#[60]⟩] 9)).drew := below_next (below_new _ _) (below_drew _)
    have kd1 : Drew p W0 (W0.alloc (.cells #[.string ⟨#[61]⟩, .string ⟨#[60]⟩] 9)).drew := Drew.of_below D0.cur b0
    have CP : Hid (Calls Tryz.prog 41 #[.pointer (some ⟨p, 0, none⟩), .slice (some ⟨W0.heap.size, 0, none⟩) 2 2] (W0.alloc (.cells #[.string ⟨#[61]⟩, .string ⟨#[60]⟩] 9)).drew fun e w' => ∃ z : ByteArray, e = .returned (.string z) ∧ z.size ≤ 100 ∧ Drew p (W0.alloc (.cells #[.string ⟨#[61]⟩, .string ⟨#[60]⟩] 9)).drew w') :=
      l1Pick_sm p W0.heap.size [⟨#[61]⟩, ⟨#[60]⟩] 100 _ kd1.cur ((Blk.new W0 _ _).under (below_drew _)) hpW (by decide) (by decide)
    have CG := hide (fun (W : World) (hd : Drew p W0 W) => (GEN.out base xs a n cap ⟨1, []⟩ none 0 0 m W hd.cur hpb (Nat.le_trans hbW0 hd.size) (hctx.keep (hd.fresh hpb)) hn (TyA.nil _ _ _ (by simp [i64])) (by decide) (by simp [Ty.size, Ty.sizes]; omega) hm0 hm1).mono fun e w' h => DrawsM.low h hd.size)
    have CO := hide (fun (W : World) (op : ByteArray) (t1 t2 : Tm) (l1 l2 : Lt) (ho : op.size ≤ 100) (h1 : Md W t1 l1) (h2 : Md W t2 l2) (w1 : t1.wt ≤ bndG (d - 1)) (w2 : t2.wt ≤ bndG (d - 1)) => (l5Op_any op [t1, t2] (some ⟨W.heap.size, 0, none⟩) 2 2 _ (by omega) (Mds_two h1 h2) (by simp only [Tm.wts]; omega)).mono fun e w' h => h.w (N := bndG d) (op2_wt op t1 t2 ho (by have := hbg.out; omega)))
    have HK := hide (fun (W : World) (hd : Drew p W0 W) => show Two w1.heap.size 1 W from Blk.two ((hd.block lX1 (by omega)).trans X1))
    have HR := hide (fun (W : World) (hd : Drew p W0 W) => show Blk W (w.heap.size + 1) 29 #[.int .i64 0, .string ⟨#[]⟩, .string ⟨#[]⟩, .int .i64 0, .int .i64 0, .slice none 0 0, .int .i64 0, .slice none 0 0, .slice none 0 0] from (hd.block lB2 (by omega)).trans B2)
    have hne : w1.heap.size ≠ w.heap.size + 1 := by omega
    have kd : Drew p W0 W0.drew := Drew.of_below D0.cur (below_drew W0)
    have hwr : IntKind.i64.wrap ((d : Int) - 1) = (d : Int) - 1 := IntWalk.i64_in _ (by omega)
    refine wp_region_noPanic ?_
    refine wp_region_held_drew (S := (fun W => W.cell? ⟨w1.heap.size, 0, none⟩ = some (.int .i64 1) ∧ W.cell? ⟨w1.heap.size, 1, none⟩ = some (.slice none 0 0))) (by kernel_rfl) ?_ (fun hHeld => ?_)
    · (try dsimp only)
      first | (with_reducible exact two_set hne (two_set hne (two_set hne (two_set hne (two_set hne (two_set hne (two_set hne (two_set hne (two_set hne (HK.out _ kd)))))))))) | exact HK.out _ kd | exact HK.out _ kd1 | exact HK.out _ (kd.next (below_new _ _))
    refine takeW 0 (v := ?_) rfl (by kernel_rfl) (by kernel_rfl) (by kernel_rfl) (fun _ _ _ h => h) (by rfl) (by assumption) ?_ ?_
    rotate_left
    · intro w hSw
      (try dsimp only at hSw)
      go_simp
      (try with_reducible rfl)
    try simp only [Act.put, List.setIfInBounds_toArray, List.set_cons_zero, List.set_cons_succ]
    refine takeW 3 (v := ?_) rfl (by kernel_rfl) (by kernel_rfl) (by kernel_rfl) (fun _ _ _ h => h) (by rfl) (by assumption) ?_ ?_
    rotate_left
    · intro w hSw
      (try dsimp only at hSw)
      go_simp
      (try with_reducible rfl)
    try simp only [Act.put, List.setIfInBounds_toArray, List.set_cons_zero, List.set_cons_succ]
    refine takeW 4 (v := ?_) rfl (by kernel_rfl) (by kernel_rfl) (by kernel_rfl) (fun _ _ _ h => h) (by rfl) (by assumption) ?_ ?_
    rotate_left
    · intro w hSw
      (try dsimp only at hSw)
      go_simp
      (try with_reducible rfl)
    try simp only [Act.put, List.setIfInBounds_toArray, List.set_cons_zero, List.set_cons_succ]
    refine takeW 5 (v := ?_) rfl (by kernel_rfl) (by kernel_rfl) (by kernel_rfl) (fun _ _ _ h => h) (by rfl) (by assumption) ?_ ?_
    rotate_left
    · intro w hSw
      (try dsimp only at hSw)
      go_simp
      (try with_reducible rfl)
    try simp only [Act.put, List.setIfInBounds_toArray, List.set_cons_zero, List.set_cons_succ]
    refine takeW 6 (v := ?_) rfl (by kernel_rfl) (by kernel_rfl) (by kernel_rfl) (fun _ _ _ h => h) (by rfl) (by assumption) ?_ ?_
    rotate_left
    · intro w hSw
      (try dsimp only at hSw)
      go_simp
      (try with_reducible rfl)
    try simp only [Act.put, List.setIfInBounds_toArray, List.set_cons_zero, List.set_cons_succ]
    refine takeW 7 (v := ?_) rfl (by kernel_rfl) (by kernel_rfl) (by kernel_rfl) (fun _ _ _ h => h) (by rfl) (by assumption) ?_ ?_
    rotate_left
    · intro w hSw
      (try dsimp only at hSw)
      go_simp
      (try with_reducible rfl)
    try simp only [Act.put, List.setIfInBounds_toArray, List.set_cons_zero, List.set_cons_succ]
    refine takeW 8 (v := ?_) rfl (by kernel_rfl) (by kernel_rfl) (by kernel_rfl) (fun _ _ _ h => h) (by rfl) (by assumption) ?_ ?_
    rotate_left
    · intro w hSw
      (try dsimp only at hSw)
      go_simp
      (try with_reducible rfl)
    try simp only [Act.put, List.setIfInBounds_toArray, List.set_cons_zero, List.set_cons_succ]
    refine takeW 10 (v := ?_) rfl (by kernel_rfl) (by kernel_rfl) (by kernel_rfl) (fun _ _ _ h => h) (by rfl) (by assumption) ?_ ?_
    rotate_left
    · intro w hSw
      (try dsimp only at hSw)
      go_simp
      (try with_reducible rfl)
    try simp only [Act.put, List.setIfInBounds_toArray, List.set_cons_zero, List.set_cons_succ]
    refine takeW 11 (v := ?_) rfl (by kernel_rfl) (by kernel_rfl) (by kernel_rfl) (fun _ _ _ h => h) (by rfl) (by assumption) ?_ ?_
    rotate_left
    · intro w hSw
      (try dsimp only at hSw)
      go_simp
      (try with_reducible rfl)
    try simp only [Act.put, List.setIfInBounds_toArray, List.set_cons_zero, List.set_cons_succ]
    refine takeW 12 (v := ?_) rfl (by kernel_rfl) (by kernel_rfl) (by kernel_rfl) (fun _ _ _ h => h) (by rfl) (by assumption) ?_ ?_
    rotate_left
    · intro w hSw
      (try dsimp only at hSw)
      go_simp
      (try with_reducible rfl)
    try simp only [Act.put, List.setIfInBounds_toArray, List.set_cons_zero, List.set_cons_succ]
    refine takeW 13 (v := ?_) rfl (by kernel_rfl) (by kernel_rfl) (by kernel_rfl) (fun _ _ _ h => h) (by rfl) (by assumption) ?_ ?_
    rotate_left
    · intro w hSw
      (try dsimp only at hSw)
      go_simp
      (try with_reducible rfl)
    try simp only [Act.put, List.setIfInBounds_toArray, List.set_cons_zero, List.set_cons_succ]
    refine takeW 14 (v := ?_) rfl (by kernel_rfl) (by kernel_rfl) (by kernel_rfl) (fun _ _ _ h => h) (by rfl) (by assumption) ?_ ?_
    rotate_left
    · intro w hSw
      (try dsimp only at hSw)
      go_simp
      (try with_reducible rfl)
    try simp only [Act.put, List.setIfInBounds_toArray, List.set_cons_zero, List.set_cons_succ]
    refine takeW 15 (v := ?_) rfl (by kernel_rfl) (by kernel_rfl) (by kernel_rfl) (fun _ _ _ h => h) (by rfl) (by assumption) ?_ ?_
    rotate_left
    · intro w hSw
      (try dsimp only at hSw)
      go_simp
      (try with_reducible rfl)
    try simp only [Act.put, List.setIfInBounds_toArray, List.set_cons_zero, List.set_cons_succ]
    refine goW 1 rfl (by kernel_rfl) (fun K hK => ?_)
    go_simp
    refine hK.out _ _ ?_ (fun hHeld => ?_)
    · (try dsimp only)
      first | (with_reducible exact two_set hne (two_set hne (two_set hne (two_set hne (two_set hne (two_set hne (two_set hne (two_set hne (two_set hne (HK.out _ kd)))))))))) | exact HK.out _ kd | exact HK.out _ kd1 | exact HK.out _ (kd.next (below_new _ _))
    clear hK K
    try simp only [Act.put, List.setIfInBounds_toArray, List.set_cons_zero, List.set_cons_succ]
    refine goW 2 rfl (by kernel_rfl) (fun K hK => ?_)
    go_simp
    go_at_call 41; (with_reducible refine CP.out.mono ?_); rintro e w3 ⟨op, rfl, hop, d3⟩; have kd := kd1.trans d3
    refine hK.out _ _ ?_ (fun hHeld => ?_)
    · (try dsimp only)
      first | (with_reducible exact two_set hne (two_set hne (two_set hne (two_set hne (two_set hne (two_set hne (two_set hne (two_set hne (two_set hne (HK.out _ kd)))))))))) | exact HK.out _ kd | exact HK.out _ kd1 | exact HK.out _ (kd.next (below_new _ _))
    clear hK K
    try simp only [Act.put, List.setIfInBounds_toArray, List.set_cons_zero, List.set_cons_succ]
    refine goW 9 rfl (by kernel_rfl) (fun K hK => ?_)
    go_simp
    go_at_call 49; (with_reducible refine (CG.out _ kd).mono ?_); rintro e w4 ⟨t1, l1, rfl, ho1, hs1, d4⟩; have kd := kd.trans d4
    refine hK.out _ _ ?_ (fun hHeld => ?_)
    · (try dsimp only)
      first | (with_reducible exact two_set hne (two_set hne (two_set hne (two_set hne (two_set hne (two_set hne (two_set hne (two_set hne (two_set hne (HK.out _ kd)))))))))) | exact HK.out _ kd | exact HK.out _ kd1 | exact HK.out _ (kd.next (below_new _ _))
    clear hK K
    try simp only [Act.put, List.setIfInBounds_toArray, List.set_cons_zero, List.set_cons_succ]
    refine goW 16 rfl (by kernel_rfl) (fun K hK => ?_)
    go_simp
    go_at_call 49; (with_reducible refine (CG.out _ kd).mono ?_); rintro e w5 ⟨t2, l2, rfl, ho2, hs2, d5⟩; have kd := kd.trans d5; have kd5 := kd
    refine hK.out _ _ ?_ (fun hHeld => ?_)
    · (try dsimp only)
      first | (with_reducible exact two_set hne (two_set hne (two_set hne (two_set hne (two_set hne (two_set hne (two_set hne (two_set hne (two_set hne (HK.out _ kd)))))))))) | exact HK.out _ kd | exact HK.out _ kd1 | exact HK.out _ (kd.next (below_new _ _))
    clear hK K
    try simp only [Act.put, List.setIfInBounds_toArray, List.set_cons_zero, List.set_cons_succ]
    refine goW 17 rfl (by kernel_rfl) (fun K hK => ?_)
    go_simp
    refine hK.out _ _ ?_ (fun hHeld => ?_)
    · (try dsimp only)
      first | (with_reducible exact two_set hne (two_set hne (two_set hne (two_set hne (two_set hne (two_set hne (two_set hne (two_set hne (two_set hne (HK.out _ kd)))))))))) | exact HK.out _ kd | exact HK.out _ kd1 | exact HK.out _ (kd.next (below_new _ _))
    clear hK K
    try simp only [Act.put, List.setIfInBounds_toArray, List.set_cons_zero, List.set_cons_succ]
    refine goW 18 rfl (by kernel_rfl) (fun K hK => ?_)
    go_simp
    go_at_call 100; (with_reducible refine (CO.out w5 op t1 t2 l1 l2 hop (ho1.keep (d5.fresh hpW)).md ho2.md hs1 hs2).mono ?_); rintro e w6 ⟨t3, l3, rfl, ho3, hs3, b6⟩; have kd := (kd.next (below_new _ _)).next b6; have BR := HR.out _ kd; obtain ⟨q0, q1, q2, q3, q4, q5, q6, q7, q8⟩ : _ ∧ _ ∧ _ ∧ _ ∧ _ ∧ _ ∧ _ ∧ _ ∧ _ := ⟨BR.cell 0, BR.cell 1, BR.cell 2, BR.cell 3, BR.cell 4, BR.cell 5, BR.cell 6, BR.cell 7, BR.cell 8⟩; simp at q0 q1 q2 q3 q4 q5 q6 q7 q8; obtain ⟨z0, z1, z2, z3, z4, z5, z6, z7, z8⟩ : _ ∧ _ ∧ _ ∧ _ ∧ _ ∧ _ ∧ _ ∧ _ ∧ _ := ⟨BR.free 0, BR.free 1, BR.free 2, BR.free 3, BR.free 4, BR.free 5, BR.free 6, BR.free 7, BR.free 8⟩
    refine hK.out _ _ ?_ (fun hHeld => ?_)
    · (try dsimp only)
      first | (with_reducible exact two_set hne (two_set hne (two_set hne (two_set hne (two_set hne (two_set hne (two_set hne (two_set hne (two_set hne (HK.out _ kd)))))))))) | exact HK.out _ kd | exact HK.out _ kd1 | exact HK.out _ (kd.next (below_new _ _))
    clear hK K
    try simp only [Act.put, List.setIfInBounds_toArray, List.set_cons_zero, List.set_cons_succ]
    refine goW 19 rfl (by kernel_rfl) (fun K hK => ?_)
    go_simp
    refine hK.out _ _ ?_ (fun hHeld => ?_)
    · (try dsimp only)
      first | (with_reducible exact two_set hne (two_set hne (two_set hne (two_set hne (two_set hne (two_set hne (two_set hne (two_set hne (two_set hne (HK.out _ kd)))))))))) | exact HK.out _ kd | exact HK.out _ kd1 | exact HK.out _ (kd.next (below_new _ _))
    clear hK K
    try simp only [Act.put, List.setIfInBounds_toArray, List.set_cons_zero, List.set_cons_succ]
    refine wpAnyH_done (by kernel_rfl) ?_ _
    refine NoPanic.normal ?_
    go_wp2_with fail
    have hs5 : w.heap.size + 1 < w5.heap.size := by have := kd5.size; omega
    have D9 := D0.trans kd
    have HD : DrawsM p (bndG d) w (.returned (.agg #[.int .i64 t3.kind, .string t3.name, .string t3.other, .int .i64 t3.n, .int .i64 t3.type.kind, .slice l3.ta l3.tn l3.tc, .int .i64 t3.res.kind, .slice l3.ra l3.rn l3.rc, .slice l3.aa l3.an l3.ac])) (putAt w6 (w.heap.size + 1) 0 (tcells t3 l3)) :=
      ⟨t3, l3, rfl, (ho3.keep (putAt_fresh (by simp; omega) _ _ _)).base (by simp; omega), hs3, Drew.put hC D9 (by omega) _ _⟩
    have HB := (put_box BR rfl t3 l3).nine
    have E := putAt_zero w6 (w.heap.size + 1) t3 l3
    rw [← E]
    obtain ⟨r0, r1, r2, r3, r4, r5, r6, r7, r8⟩ := HB
    refine bodyPost_ret (v := .agg #[.int .i64 t3.kind, .string t3.name, .string t3.other, .int .i64 t3.n, .int .i64 t3.type.kind, .slice l3.ta l3.tn l3.tc, .int .i64 t3.res.kind, .slice l3.ra l3.rn l3.rc, .slice l3.aa l3.an l3.ac]) ?_ rfl HD
    simp [results, Tryz.results72, go_sem, r0, r1, r2, r3, r4, r5, r6, r7, r8]
end Go.Proofs.YtklifieahcoljaaGreat
