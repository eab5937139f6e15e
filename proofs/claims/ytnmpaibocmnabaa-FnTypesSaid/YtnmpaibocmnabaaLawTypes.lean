/-
  The law FnTypes: sizes and depths of types are those of their parts, and erased types are plain. No condition.
-/
import Derived.Test.YtnmpaibocmnabaaDrawEq
import Derived.Test.YtnmpaibocmnabaaEqualTy
import Derived.Test.YtnmpaibocmnabaaPlainTy
import Derived.Test.YtnmpaibocmnabaaBaseTy
import Derived.Test.YtnmpaibocmnabaaEraseI
import Derived.Test.YtnmpaibocmnabaaTyLaw
import Derived.Test.YtnmpaibocmnabaaHand
namespace Go.Proofs.Ytnmpaibocmnabaa.fnTypes
open Go.RowKit
set_option maxRecDepth 100000
set_option linter.unusedVariables false
set_option linter.unusedSimpArgs false

theorem depth_take (xs : List Ty) (k : Nat) (h : k < xs.length) (h' : Ty.depths (xs.take k) < xs[k].depth) : Ty.depths (xs.take (k + 1)) = xs[k].depth := by
  rw [Ty.depths_take xs k h]; omega
theorem depth_stay (xs : List Ty) (k : Nat) (h : k < xs.length) (h' : ¬ Ty.depths (xs.take k) < xs[k].depth) : Ty.depths (xs.take (k + 1)) = Ty.depths (xs.take k) := by
  rw [Ty.depths_take xs k h]; omega

theorem eqSelf (t : Ty) (a : Option Addr) (n c : Nat) (a' : Option Addr) (n' c' : Nat) (w : World) (h : Rd w t (.int .i64 t.kind) (.slice a n c)) (h' : Rd w t (.int .i64 t.kind) (.slice a' n' c')) :
    Calls Try.prog 29 #[.agg #[.int .i64 t.kind, .slice a n c], .agg #[.int .i64 t.kind, .slice a' n' c']] w fun e w' => e = .returned (.bool true) ∧ Below w.heap.size w w' := by
  have := implEqualType_any t t _ _ _ _ w h h'
  rw [Ty.beq_self] at this
  exact this
theorem eqE {t u : Ty} (hu : t = u) (w : World) (c0 c1 d0 d1 : Value) (h : Rd w t c0 c1) (h' : Rd w u d0 d1) :
    Calls Try.prog 29 #[.agg #[c0, c1], .agg #[d0, d1]] w fun e w' => e = .returned (.bool true) ∧ Below w.heap.size w w' := by
  have := implEqualType_any t u _ _ _ _ w h h'
  rw [(Ty.beq_iff t u).2 hu] at this
  exact this
theorem plainE {t : Ty} (hep : t.plain = (t.valid && t.all Ty.nocode)) (hv : t.valid = true ∧ t.all Ty.nocode = true) (w : World) (c0 c1 : Value) (h : Rd w t c0 c1) (hz : Ty.sizes t.args ≤ 1048576) :
    Calls Try.prog 33 #[.agg #[c0, c1]] w fun e w' => e = .returned (.bool true) ∧ Below w.heap.size w w' := by
  have := implIsPlainType_any t _ _ w h hz
  rw [hep, hv.1, hv.2] at this
  exact this
theorem plain_nocode {b c : Bool} (h : (b && c) = true) : c = true := by
  cases c
  · simp at h
  · rfl

set_option maxHeartbeats 6400000 in
theorem walk (a : Option Addr) (n cap : Nat) (w : World) (h : Rbs w a n cap) :
    Calls Try.prog 6 #[.slice a n cap] w fun e w' => e = .returned (.bool true) ∧ Below w.heap.size w w' := by
  have hn : n ≤ 9223372036854775807 := by obtain ⟨h2, h3, _⟩ := h; unfold maxLen at h3; omega
  by_cases hbig : n ≤ 1048576
  · have hd : decide ((n : Int) > 1048576) = false := by simp; omega
    have CB := big_any a n cap w hn
    rw [hd] at CB
    replace CB := hide CB
    have HR := hide h
    clear h
    go_enter Try.func6, Try.ntmps6
    go_wp2_with (go_at_call 21; (with_reducible refine CB.out.mono ?_); rintro e w0 ⟨rfl, rfl⟩)
    refine (drawIsValidType_any a n cap _ HR.out).mono ?_
    rintro e w1 ⟨t, v, rfl, ho, hs, b1⟩
    obtain ⟨va, vn, vc, rfl, hr⟩ := ho.rd
    have hz := Ty.sizes_of_size hs
    have R1 := HR.out.below b1
    have X1 := Blk.new w1 42 #[.int .i64 t.kind, .slice va vn vc]
    have r1 : Rd (w1.alloc (.cells #[.int .i64 t.kind, .slice va vn vc] 42)) t _ _ := hr.below (below_new _ _)
    have k1 : Below w.heap.size w (w1.alloc (.cells #[.int .i64 t.kind, .slice va vn vc] 42)) := below_next b1 (below_new _ _)
    have R2 := R1.below (below_new w1 (.cells #[.int .i64 t.kind, .slice va vn vc] 42))
    obtain ⟨_, _, _, -, e2, -, hds⟩ := r1.shape
    injection e2 with q1 q2 q3
    subst q1 q2 q3
    have hvn := hide hds.1
    have hnl : vn ≤ 200 := by have := Ty.length_le_sizes t.args; have := hvn.out; omega
    go_wp2_with fail
    generalize w1.alloc (.cells #[.int .i64 t.kind, .slice va vn vc] 42) = W1 at X1 r1 k1 R2 hds ⊢
    have lX1 := X1.lt
    go_loopw [4, 5, 6] (fun s d i wr => ∃ k : Nat, k ≤ vn ∧ i = .int .i64 k ∧ (∃ z : Int, s = .int .i64 z ∧ 0 ≤ z ∧ z ≤ 1000 ∧ Hid (z = 1 + Ty.sizes (t.args.take k))) ∧ (∃ y : Int, d = .int .i64 y ∧ Hid (y = Ty.depths (t.args.take k))) ∧ Below W1.heap.size W1 wr) (fun _ _ i _ => vn - (intOf i).toNat)
    case atStart => exact ⟨0, by omega, rfl, ⟨1, rfl, by omega, by omega, by simp [Hid, Ty.sizes]⟩, ⟨0, rfl, by simp [Hid, Ty.depths]⟩, Below.refl _ _⟩
    case round =>
      obtain ⟨k, hk, rfl, ⟨z, rfl, hz0, hz1, HZ⟩, ⟨y, rfl, HY⟩, hb⟩ := hrel
      have hsz := hb.size
      have HX := hide (X1.under hb)
      obtain ⟨x0, x1⟩ := HX.out.two
      by_cases hkn : k < vn
      · have hkx : k < t.args.length := by rw [← hvn.out]; exact hkn
        have hzs : Ty.sizes t.args[k].args ≤ 1048576 := by
          have h1 := Ty.sizes_take t.args k hkx
          have h2 := Ty.sizes_take_le t.args (k + 1)
          omega
        have hzk : z + (1 + Ty.sizes t.args[k].args) ≤ 1000 := by
          have h1 := Ty.sizes_take t.args k hkx
          have h2 := Ty.sizes_take_le t.args (k + 1)
          have h3 := HZ.out
          omega
        obtain ⟨b, off, d0, d1, rfl, hlt, q0, q1, hrd⟩ := (hds.below hb).get k hkx
        obtain ⟨da, dn, dc, rfl, rfl, -, -⟩ := hrd.shape
        have CS := implSizeOfType_any t.args[k] _ _ wr hrd hzs
        have hse : ((t.args[k].size : Nat) : Int) = 1 + Ty.sizes t.args[k].args := by rw [Ty.size_eq]; omega
        rw [hse] at CS
        have CD := fun (W : World) (hW : Below wr.heap.size wr W) => implDepthOfType_any t.args[k] _ _ W (hrd.below hW) hzs
        obtain ⟨dp, hdp⟩ : ∃ dp : Int, dp = (t.args[k].depth : Int) := ⟨_, rfl⟩
        rw [← hdp] at CD
        replace CS := hide CS
        replace CD := hide CD
        have HDP := hide hdp
        have F := hide (fun (W : World) (hW : Below wr.heap.size wr W) => (⟨(HX.out.under hW).two.1, (HX.out.under hW).two.2, (hW.cell (p := ⟨b, off + k * 2, none⟩) hlt).trans q0, (hW.cell (p := ⟨b, off + k * 2 + 1, none⟩) hlt).trans q1⟩ : W.cell? ⟨w1.heap.size, 0, none⟩ = _ ∧ W.cell? ⟨w1.heap.size, 1, none⟩ = _ ∧ W.cell? ⟨b, off + k * 2, none⟩ = _ ∧ W.cell? ⟨b, off + k * 2 + 1, none⟩ = _))
        have hs1 := hide (Ty.sizes_take t.args k hkx)
        have hdt := hide (Ty.depths_take t.args k hkx)
        clear hse hdp
        by_cases hgt : y < dp
        · go_wp2_with fail
          refine CS.out.mono ?_
          rintro e w2 ⟨rfl, b2⟩
          obtain ⟨f0, f1, f2, f3⟩ := F.out _ b2
          clear x0 x1 q0 q1
          go_wp2_with fail
          refine (CD.out _ b2).mono ?_
          rintro e w3 ⟨rfl, b3⟩
          have b23 := below_next b2 b3
          clear f0 f1 f2 f3
          obtain ⟨f0, f1, f2, f3⟩ := F.out _ b23
          go_wp2_with fail
          refine (CD.out _ b23).mono ?_
          rintro e w4 ⟨rfl, b4⟩
          go_wp2_with fail
          go_roundw
          case rel =>
            refine ⟨k + 1, by omega, by go_num, ⟨_, rfl, by omega, by omega, ?_⟩, ⟨_, rfl, ?_⟩, below_next hb (below_next b23 b4)⟩
            · have := HZ.out; have := hs1.out; unfold Hid; omega
            · have := HY.out; have := hdt.out; have := HDP.out; unfold Hid; omega
          case measure => simp [intOf]; omega
        · go_wp2_with fail
          refine CS.out.mono ?_
          rintro e w2 ⟨rfl, b2⟩
          obtain ⟨f0, f1, f2, f3⟩ := F.out _ b2
          clear x0 x1 q0 q1
          go_wp2_with fail
          refine (CD.out _ b2).mono ?_
          rintro e w3 ⟨rfl, b3⟩
          have b23 := below_next b2 b3
          go_wp2_with fail
          go_roundw
          case rel =>
            refine ⟨k + 1, by omega, by go_num, ⟨_, rfl, by omega, by omega, ?_⟩, ⟨_, rfl, ?_⟩, below_next hb b23⟩
            · have := HZ.out; have := hs1.out; unfold Hid; omega
            · have := HY.out; have := hdt.out; have := HDP.out; unfold Hid; omega
          case measure => simp [intOf]; omega
      · have hzt : Hid (z = (t.size : Int)) := by
          have := HZ.out
          rw [List.take_of_length_le (by have := hvn.out; omega)] at this
          unfold Hid
          rw [t.size_eq]
          omega
        have hyt : Hid (y + 1 = (t.depth : Int)) := by
          have := HY.out
          rw [List.take_of_length_le (by have := hvn.out; omega)] at this
          unfold Hid
          rw [t.depth_eq]
          omega
        have hyb : 0 ≤ y ∧ y ≤ 300 := by
          have h1 := t.depth_le_size
          have h2 := hyt.out
          have h3 := HY.out
          omega
        go_wp2_with fail
        refine (drawEqualType_any a n cap _ (R2.below hb)).mono ?_
        rintro e w2 ⟨x, u, xa, ya, xn, xc, yn, yc, rfl, hx, hu, hxs, hus, b2⟩
        have XX := HX.out.under b2
        have hT2 := (r1.below hb).below b2
        have Y3 := (Blk.new w2 42 #[.int .i64 x.kind, .slice xa xn xc]).alloc (.cells #[.int .i64 u.kind, .slice ya yn yc] 42)
        have Z3 := Blk.new2 w2 (.cells #[.int .i64 x.kind, .slice xa xn xc] 42) 42 #[.int .i64 u.kind, .slice ya yn yc]
        have X3 := (XX.alloc (.cells #[.int .i64 x.kind, .slice xa xn xc] 42)).alloc (.cells #[.int .i64 u.kind, .slice ya yn yc] 42)
        have b3 : Below w2.heap.size w2 ((w2.alloc (.cells #[.int .i64 x.kind, .slice xa xn xc] 42)).alloc (.cells #[.int .i64 u.kind, .slice ya yn yc] 42)) := (by repeat (first | exact Below.refl _ _ | assumption | refine Below.drew ?_ | refine below_drewN ?_ _ | refine Below.alloc ?_ (by first | omega | (simp; done) | (simp; omega)) _ | refine Below.setCell ?_ (by first | omega | (simp; done) | (simp; omega)) _))
        have hT3 := hT2.below b3
        have hx3 := hx.below b3
        have hu3 := hu.below b3
        have lXX := XX.lt
        have k3 := below_next (below_next k1 (below_next hb b2)) b3
        clear x0 x1
        obtain ⟨x0, x1⟩ := XX.two
        go_wp2_with fail
        generalize (w2.alloc (.cells #[.int .i64 x.kind, .slice xa xn xc] 42)).alloc (.cells #[.int .i64 u.kind, .slice ya yn yc] 42) = W3 at Y3 Z3 X3 hT3 hx3 hu3 k3 ⊢
        refine (implEraseType_any t _ _ _ hT3 (by omega)).mono ?_
        rintro e w4 ⟨d0, d1, fe, rfl, hE4, -, -, b4⟩
        obtain ⟨ea, en, ec, rfl, rfl, -, -⟩ := hE4.rd.shape
        have E5 := Blk.new w4 42 #[.int .i64 t.erase.kind, .slice ea en ec]
        have X5 := (X3.under b4).alloc (.cells #[.int .i64 t.erase.kind, .slice ea en ec] 42)
        have Y5 := (Y3.under b4).alloc (.cells #[.int .i64 t.erase.kind, .slice ea en ec] 42)
        have Z5 := (Z3.under b4).alloc (.cells #[.int .i64 t.erase.kind, .slice ea en ec] 42)
        have b5 := below_new w4 (.cells #[.int .i64 t.erase.kind, .slice ea en ec] 42)
        have hT5 := (hT3.below b4).below b5
        have hx5 := (hx3.below b4).below b5
        have hu5 := (hu3.below b4).below b5
        have hE5 := hE4.rd.below b5
        have k5 := below_next (below_next k3 b4) b5
        clear x0 x1
        go_wp2_with fail
        generalize w4.alloc (.cells #[.int .i64 t.erase.kind, .slice ea en ec] 42) = W5 at E5 X5 Y5 Z5 hT5 hx5 hu5 hE5 k5 ⊢
        have CS := fun (W : World) (hW : Below W5.heap.size W5 W) => implSizeOfType_any t _ _ W (hT5.below hW) (by omega)
        have CD := fun (W : World) (hW : Below W5.heap.size W5 W) => implDepthOfType_any t _ _ W (hT5.below hW) (by omega)
        have CV := fun (W : World) (hW : Below W5.heap.size W5 W) => implIsValidType_any t _ _ W (hT5.below hW) (by omega)
        have CW := fun (W : World) (hW : Below W5.heap.size W5 W) => specIsValidType_any t _ _ W (hT5.below hW)
        have CE := fun (W : World) (hW : Below W5.heap.size W5 W) => implEqualType_any x u _ _ _ _ W (hx5.below hW) (hu5.below hW)
        have CF := fun (W : World) (hW : Below W5.heap.size W5 W) => specEqualType_any x u _ _ _ _ W (hx5.below hW) (hu5.below hW)
        have CB1 := fun (W : World) (hW : Below W5.heap.size W5 W) => implIsBase_any t _ _ W (hT5.below hW)
        have CB2 := fun (W : World) (hW : Below W5.heap.size W5 W) => specIsBase_any t _ _ W (hT5.below hW)
        have CP := fun (W : World) (hW : Below W5.heap.size W5 W) => implIsPlainType_any t _ _ W (hT5.below hW) (by omega)
        have CQ := fun (W : World) (hW : Below W5.heap.size W5 W) => specIsPlainType_any t _ _ W (hT5.below hW) (by omega)
        rw [← hzt.out] at CS
        rw [← hyt.out] at CD
        have HV := t.erase_valid
        have HP := t.plain_erase
        have hpv : t.plain = (t.valid && t.all Ty.nocode) := rfl
        have hep : t.erase.plain = (t.erase.valid && t.erase.all Ty.nocode) := rfl
        obtain ⟨bv, hbv⟩ : ∃ b, t.valid = b := ⟨_, rfl⟩
        obtain ⟨be, hbe⟩ : ∃ b, x.beq u = b := ⟨_, rfl⟩
        obtain ⟨bb, hbb⟩ : ∃ b, t.base = b := ⟨_, rfl⟩
        obtain ⟨bp, hbp⟩ : ∃ b, t.plain = b := ⟨_, rfl⟩
        rw [hbv] at CV CW HV hpv
        rw [hbe] at CE CF
        rw [hbb] at CB1 CB2
        rw [hbp] at CP CQ hpv
        have g1 : (z != z) = false := by simp
        have g2 : (y + 1 != y + 1) = false := by simp
        have g3 : (bv != bv) = false := by simp
        have g4 : (be != be) = false := by simp
        have g5 : (bb != bb) = false := by simp
        have g6 : (bp != bp) = false := by simp
        have g7 : IntKind.i64.wrap (y + 1) = y + 1 := IntWalk.i64_in _ (by omega)
        have HS := hide (fun (W : World) (hW : Below W5.heap.size W5 W) => (⟨(X5.under hW).two, (Y5.under hW).two, (Z5.under hW).two⟩ : (W.cell? ⟨w1.heap.size, 0, none⟩ = some (.int .i64 t.kind) ∧ W.cell? ⟨w1.heap.size, 1, none⟩ = some (.slice va vn vc)) ∧ (W.cell? ⟨w2.heap.size, 0, none⟩ = some (.int .i64 x.kind) ∧ W.cell? ⟨w2.heap.size, 1, none⟩ = some (.slice xa xn xc)) ∧
          W.cell? ⟨w2.heap.size + 1, 0, none⟩ = some (.int .i64 u.kind) ∧ W.cell? ⟨w2.heap.size + 1, 1, none⟩ = some (.slice ya yn yc)))
        have HTC := hide (show _ ∧ _ ∧ _ ∧ _ from ⟨HV, HP, hpv, hep⟩)
        replace CS := hide CS
        replace CD := hide CD
        replace CV := hide CV
        replace CW := hide CW
        replace CE := hide CE
        replace CF := hide CF
        replace CB1 := hide CB1
        replace CB2 := hide CB2
        replace CP := hide CP
        replace CQ := hide CQ
        have kb := below_drew W5
        clear HV HP hpv hep hbv hbe hbb hbp hxs hus
        go_region_held3 (fun W => (W.cell? ⟨w1.heap.size, 0, none⟩ = some (.int .i64 t.kind) ∧ W.cell? ⟨w1.heap.size, 1, none⟩ = some (.slice va vn vc)) ∧ (W.cell? ⟨w2.heap.size, 0, none⟩ = some (.int .i64 x.kind) ∧ W.cell? ⟨w2.heap.size, 1, none⟩ = some (.slice xa xn xc)) ∧
            W.cell? ⟨w2.heap.size + 1, 0, none⟩ = some (.int .i64 u.kind) ∧ W.cell? ⟨w2.heap.size + 1, 1, none⟩ = some (.slice ya yn yc))
          (exact HS.out _ kb)
          (first
            | (go_at_call 23; (with_reducible refine (CS.out _ kb).mono ?_); rintro e w6 ⟨rfl, b6⟩; have kb := below_next kb b6)
            | (go_at_call 24; (with_reducible refine (CD.out _ kb).mono ?_); rintro e w6 ⟨rfl, b6⟩; have kb := below_next kb b6)
            | (go_at_call 27; (with_reducible refine (CV.out _ kb).mono ?_); rintro e w6 ⟨rfl, b6⟩; have kb := below_next kb b6)
            | (go_at_call 28; (with_reducible refine (CW.out _ kb).mono ?_); rintro e w6 ⟨rfl, b6⟩; have kb := below_next kb b6)
            | (go_at_call 29; (with_reducible refine (CE.out _ kb).mono ?_); rintro e w6 ⟨rfl, b6⟩; have kb := below_next kb b6)
            | (go_at_call 30; (with_reducible refine (CF.out _ kb).mono ?_); rintro e w6 ⟨rfl, b6⟩; have kb := below_next kb b6)
            | (go_at_call 31; (with_reducible refine (CB1.out _ kb).mono ?_); rintro e w6 ⟨rfl, b6⟩; have kb := below_next kb b6)
            | (go_at_call 32; (with_reducible refine (CB2.out _ kb).mono ?_); rintro e w6 ⟨rfl, b6⟩; have kb := below_next kb b6)
            | (go_at_call 33; (with_reducible refine (CP.out _ kb).mono ?_); rintro e w6 ⟨rfl, b6⟩; have kb := below_next kb b6)
            | (go_at_call 34; (with_reducible refine (CQ.out _ kb).mono ?_); rintro e w6 ⟨rfl, b6⟩; have kb := below_next kb b6))
        obtain ⟨HV, HP, hpv, hep⟩ := HTC.out
        have hT6 := hT5.below kb
        have hE6 := hE5.below kb
        have X6 := X5.under kb
        have E6 := E5.under kb
        have k6 := below_next k5 kb
        have CV6 := fun (W : World) (hW : Below w6.heap.size w6 W) => CV.out W (below_next kb hW)
        have CP6 := fun (W : World) (hW : Below w6.heap.size w6 W) => CP.out W (below_next kb hW)
        have CSE := fun (W : World) (hW : Below w6.heap.size w6 W) => specEraseType_any t _ _ W (hT6.below hW) (by omega)
        have hze : Ty.sizes t.erase.args ≤ 1048576 := by have := t.erase_sizes; have := Ty.sizes_of_size hs; omega
        have CEE := fun (W : World) (hW : Below w6.heap.size w6 W) => implEraseType_any t.erase _ _ W (hE6.below hW) hze
        rw [Ty.erase_erase] at CEE
        have HS6 := hide (fun (W : World) (hW : Below w6.heap.size w6 W) => (⟨(X6.under hW).two, (E6.under hW).two⟩ : (W.cell? ⟨w1.heap.size, 0, none⟩ = some (.int .i64 t.kind) ∧ W.cell? ⟨w1.heap.size, 1, none⟩ = some (.slice va vn vc)) ∧ W.cell? ⟨w4.heap.size, 0, none⟩ = some (.int .i64 t.erase.kind) ∧ W.cell? ⟨w4.heap.size, 1, none⟩ = some (.slice ea en ec)))
        have CPE := fun (hv : bv = true) (W : World) (hW : Below w6.heap.size w6 W) => plainE hep (HV hv) W _ _ (hE6.below hW) hze
        have CET := fun (hp : bp = true) (W : World) (hW : Below w6.heap.size w6 W) => eqE (HP (plain_nocode (hpv.symm.trans hp))) W _ _ _ _ (hE6.below hW) (hT6.below hW)
        have hno : bv = false → bp = true → False := fun h1 h2 => by rw [h1, h2] at hpv; simp at hpv
        have HET := hide (fun (W : World) (hW : Below w6.heap.size w6 W) => hE6.below hW)
        replace CV6 := hide CV6
        replace CP6 := hide CP6
        replace CSE := hide CSE
        replace CEE := hide CEE
        replace CPE := hide CPE
        replace CET := hide CET
        clear HV HP hpv hep HTC HS CS CD CV CW CE CF CB1 CB2 CP CQ hT6 hE6 hze
        have kc : Below w6.heap.size w6 w6.drew := below_drew w6
        cases bv with
        | false =>
          cases bp with
          | true => exact (hno rfl rfl).elim
          | false =>
            clear hno
            go_wp2_with fail
            refine wp_region_noPanic ?_
            refine wp_region_held_drew (S := (fun W => (W.cell? ⟨w1.heap.size, 0, none⟩ = some (.int .i64 t.kind) ∧ W.cell? ⟨w1.heap.size, 1, none⟩ = some (.slice va vn vc)) ∧ W.cell? ⟨w4.heap.size, 0, none⟩ = some (.int .i64 t.erase.kind) ∧ W.cell? ⟨w4.heap.size, 1, none⟩ = some (.slice ea en ec))) (by kernel_rfl) ?_ (fun hHeld => ?_)
            · (try dsimp only)
              exact HS6.out _ kc
            refine takeW 0 (v := ?_) rfl (by kernel_rfl) (by kernel_rfl) (by kernel_rfl) (fun _ _ _ h => h) (by rfl) (by assumption) ?_ ?_
            rotate_left
            · intro w hSw
              (try dsimp only at hSw)
              go_simp
              (try with_reducible rfl)
            try simp only [Act.put, List.setIfInBounds_toArray, List.set_cons_zero, List.set_cons_succ]
            refine takeW 1 (v := ?_) rfl (by kernel_rfl) (by kernel_rfl) (by kernel_rfl) (fun _ _ _ h => h) (by rfl) (by assumption) ?_ ?_
            rotate_left
            · intro w hSw
              (try dsimp only at hSw)
              go_simp
              (try with_reducible rfl)
            try simp only [Act.put, List.setIfInBounds_toArray, List.set_cons_zero, List.set_cons_succ]
            refine goW 2 rfl (by kernel_rfl) (fun K hK => ?_)
            go_simp
            go_at_call 35; (with_reducible refine (CSE.out _ kc).mono ?_); rintro e w7 ⟨s0, s1, fs, rfl, hs7, -, -, b7⟩; obtain ⟨sa, sn, sc, rfl, rfl, -, -⟩ := hs7.rd.shape; have kc := below_next kc b7
            refine hK.out _ _ ?_ (fun hHeld => ?_)
            · (try dsimp only)
              exact HS6.out _ kc
            clear hK K
            try simp only [Act.put, List.setIfInBounds_toArray, List.set_cons_zero, List.set_cons_succ]
            refine goW 3 rfl (by kernel_rfl) (fun K hK => ?_)
            go_simp
            go_at_call 29; (with_reducible refine (eqSelf t.erase ea en ec sa sn sc _ (HET.out _ kc) hs7.rd).mono ?_); rintro e w8 ⟨rfl, b8⟩; have kc := below_next kc b8
            refine hK.out _ _ ?_ (fun hHeld => ?_)
            · (try dsimp only)
              exact HS6.out _ kc
            clear hK K
            try simp only [Act.put, List.setIfInBounds_toArray, List.set_cons_zero, List.set_cons_succ]
            refine takeW 4 (v := ?_) rfl (by kernel_rfl) (by kernel_rfl) (by kernel_rfl) (fun _ _ _ h => h) (by rfl) (by assumption) ?_ ?_
            rotate_left
            · intro w hSw
              (try dsimp only at hSw)
              go_simp
              (try with_reducible rfl)
            try simp only [Act.put, List.setIfInBounds_toArray, List.set_cons_zero, List.set_cons_succ]
            refine takeW 5 (v := ?_) rfl (by kernel_rfl) (by kernel_rfl) (by kernel_rfl) (fun _ _ _ h => h) (by rfl) (by assumption) ?_ ?_
            rotate_left
            · intro w hSw
              (try dsimp only at hSw)
              go_simp
              (try with_reducible rfl)
            try simp only [Act.put, List.setIfInBounds_toArray, List.set_cons_zero, List.set_cons_succ]
            refine takeW 7 (v := ?_) rfl (by kernel_rfl) (by kernel_rfl) (by kernel_rfl) (fun _ _ _ h => h) (by rfl) (by assumption) ?_ ?_
            rotate_left
            · intro w hSw
              (try dsimp only at hSw)
              go_simp
              (try with_reducible rfl)
            try simp only [Act.put, List.setIfInBounds_toArray, List.set_cons_zero, List.set_cons_succ]
            refine goW 6 rfl (by kernel_rfl) (fun K hK => ?_)
            go_simp
            go_at_call 26; (with_reducible refine (CEE.out _ kc).mono ?_); rintro e w9 ⟨r0, r1, fr, rfl, hr9, -, -, b9⟩; obtain ⟨ra, rn, rc, rfl, rfl, -, -⟩ := hr9.rd.shape; have kc := below_next kc b9
            refine hK.out _ _ ?_ (fun hHeld => ?_)
            · (try dsimp only)
              exact HS6.out _ kc
            clear hK K
            try simp only [Act.put, List.setIfInBounds_toArray, List.set_cons_zero, List.set_cons_succ]
            refine goW 8 rfl (by kernel_rfl) (fun K hK => ?_)
            go_simp
            go_at_call 29; (with_reducible refine (eqSelf t.erase ra rn rc ea en ec _ hr9.rd (HET.out _ kc)).mono ?_); rintro e w10 ⟨rfl, b10⟩; have kc := below_next kc b10
            refine hK.out _ _ ?_ (fun hHeld => ?_)
            · (try dsimp only)
              exact HS6.out _ kc
            clear hK K
            try simp only [Act.put, List.setIfInBounds_toArray, List.set_cons_zero, List.set_cons_succ]
            refine takeW 9 (v := ?_) rfl (by kernel_rfl) (by kernel_rfl) (by kernel_rfl) (fun _ _ _ h => h) (by rfl) (by assumption) ?_ ?_
            rotate_left
            · intro w hSw
              (try dsimp only at hSw)
              go_simp
              (try with_reducible rfl)
            try simp only [Act.put, List.setIfInBounds_toArray, List.set_cons_zero, List.set_cons_succ]
            refine takeW 10 (v := ?_) rfl (by kernel_rfl) (by kernel_rfl) (by kernel_rfl) (fun _ _ _ h => h) (by rfl) (by assumption) ?_ ?_
            rotate_left
            · intro w hSw
              (try dsimp only at hSw)
              go_simp
              (try with_reducible rfl)
            try simp only [Act.put, List.setIfInBounds_toArray, List.set_cons_zero, List.set_cons_succ]
            refine takeW 11 (v := ?_) rfl (by kernel_rfl) (by kernel_rfl) (by kernel_rfl) (fun _ _ _ h => h) (by rfl) (by assumption) ?_ ?_
            rotate_left
            · intro w hSw
              (try dsimp only at hSw)
              go_simp
              (try with_reducible rfl)
            try simp only [Act.put, List.setIfInBounds_toArray, List.set_cons_zero, List.set_cons_succ]
            refine goW 12 rfl (by kernel_rfl) (fun K hK => ?_)
            go_simp
            go_at_call 27; (with_reducible refine (CV6.out _ kc).mono ?_); rintro e w11 ⟨rfl, b11⟩; have kc := below_next kc b11
            refine hK.out _ _ ?_ (fun hHeld => ?_)
            · (try dsimp only)
              exact HS6.out _ kc
            clear hK K
            try simp only [Act.put, List.setIfInBounds_toArray, List.set_cons_zero, List.set_cons_succ]
            refine takeW 13 (v := ?_) rfl (by kernel_rfl) (by kernel_rfl) (by kernel_rfl) (fun _ _ _ h => h) (by rfl) (by assumption) ?_ ?_
            rotate_left
            · intro w hSw
              (try dsimp only at hSw)
              go_simp
              (try with_reducible rfl)
            try simp only [Act.put, List.setIfInBounds_toArray, List.set_cons_zero, List.set_cons_succ]
            refine takeW 14 (v := ?_) rfl (by kernel_rfl) (by kernel_rfl) (by kernel_rfl) (fun _ _ _ h => h) (by rfl) (by assumption) ?_ ?_
            rotate_left
            · intro w hSw
              (try dsimp only at hSw)
              go_simp
              (try with_reducible rfl)
            try simp only [Act.put, List.setIfInBounds_toArray, List.set_cons_zero, List.set_cons_succ]
            refine skipW 15 rfl (by kernel_rfl) (by kernel_rfl) (by kernel_rfl) (fun _ _ _ h => h) (by rfl) (by assumption) ?_
            try simp only [Act.put, List.setIfInBounds_toArray, List.set_cons_zero, List.set_cons_succ]
            refine skipW 16 rfl (by kernel_rfl) (by kernel_rfl) (by kernel_rfl) (fun _ _ _ h => h) (by rfl) (by assumption) ?_
            try simp only [Act.put, List.setIfInBounds_toArray, List.set_cons_zero, List.set_cons_succ]
            refine takeW 17 (v := ?_) rfl (by kernel_rfl) (by kernel_rfl) (by kernel_rfl) (fun _ _ _ h => h) (by rfl) (by assumption) ?_ ?_
            rotate_left
            · intro w hSw
              (try dsimp only at hSw)
              go_simp
              (try with_reducible rfl)
            try simp only [Act.put, List.setIfInBounds_toArray, List.set_cons_zero, List.set_cons_succ]
            refine takeW 18 (v := ?_) rfl (by kernel_rfl) (by kernel_rfl) (by kernel_rfl) (fun _ _ _ h => h) (by rfl) (by assumption) ?_ ?_
            rotate_left
            · intro w hSw
              (try dsimp only at hSw)
              go_simp
              (try with_reducible rfl)
            try simp only [Act.put, List.setIfInBounds_toArray, List.set_cons_zero, List.set_cons_succ]
            refine takeW 19 (v := ?_) rfl (by kernel_rfl) (by kernel_rfl) (by kernel_rfl) (fun _ _ _ h => h) (by rfl) (by assumption) ?_ ?_
            rotate_left
            · intro w hSw
              (try dsimp only at hSw)
              go_simp
              (try with_reducible rfl)
            try simp only [Act.put, List.setIfInBounds_toArray, List.set_cons_zero, List.set_cons_succ]
            refine takeW 20 (v := ?_) rfl (by kernel_rfl) (by kernel_rfl) (by kernel_rfl) (fun _ _ _ h => h) (by rfl) (by assumption) ?_ ?_
            rotate_left
            · intro w hSw
              (try dsimp only at hSw)
              go_simp
              (try with_reducible rfl)
            try simp only [Act.put, List.setIfInBounds_toArray, List.set_cons_zero, List.set_cons_succ]
            refine goW 21 rfl (by kernel_rfl) (fun K hK => ?_)
            go_simp
            go_at_call 33; (with_reducible refine (CP6.out _ kc).mono ?_); rintro e w13 ⟨rfl, b13⟩; have kc := below_next kc b13
            refine hK.out _ _ ?_ (fun hHeld => ?_)
            · (try dsimp only)
              exact HS6.out _ kc
            clear hK K
            try simp only [Act.put, List.setIfInBounds_toArray, List.set_cons_zero, List.set_cons_succ]
            refine takeW 22 (v := ?_) rfl (by kernel_rfl) (by kernel_rfl) (by kernel_rfl) (fun _ _ _ h => h) (by rfl) (by assumption) ?_ ?_
            rotate_left
            · intro w hSw
              (try dsimp only at hSw)
              go_simp
              (try with_reducible rfl)
            try simp only [Act.put, List.setIfInBounds_toArray, List.set_cons_zero, List.set_cons_succ]
            refine takeW 23 (v := ?_) rfl (by kernel_rfl) (by kernel_rfl) (by kernel_rfl) (fun _ _ _ h => h) (by rfl) (by assumption) ?_ ?_
            rotate_left
            · intro w hSw
              (try dsimp only at hSw)
              go_simp
              (try with_reducible rfl)
            try simp only [Act.put, List.setIfInBounds_toArray, List.set_cons_zero, List.set_cons_succ]
            refine skipW 24 rfl (by kernel_rfl) (by kernel_rfl) (by kernel_rfl) (fun _ _ _ h => h) (by rfl) (by assumption) ?_
            try simp only [Act.put, List.setIfInBounds_toArray, List.set_cons_zero, List.set_cons_succ]
            refine skipW 25 rfl (by kernel_rfl) (by kernel_rfl) (by kernel_rfl) (fun _ _ _ h => h) (by rfl) (by assumption) ?_
            try simp only [Act.put, List.setIfInBounds_toArray, List.set_cons_zero, List.set_cons_succ]
            refine skipW 26 rfl (by kernel_rfl) (by kernel_rfl) (by kernel_rfl) (fun _ _ _ h => h) (by rfl) (by assumption) ?_
            try simp only [Act.put, List.setIfInBounds_toArray, List.set_cons_zero, List.set_cons_succ]
            refine takeW 27 (v := ?_) rfl (by kernel_rfl) (by kernel_rfl) (by kernel_rfl) (fun _ _ _ h => h) (by rfl) (by assumption) ?_ ?_
            rotate_left
            · intro w hSw
              (try dsimp only at hSw)
              go_simp
              (try with_reducible rfl)
            try simp only [Act.put, List.setIfInBounds_toArray, List.set_cons_zero, List.set_cons_succ]
            refine takeW 28 (v := ?_) rfl (by kernel_rfl) (by kernel_rfl) (by kernel_rfl) (fun _ _ _ h => h) (by rfl) (by assumption) ?_ ?_
            rotate_left
            · intro w hSw
              (try dsimp only at hSw)
              go_simp
              (try with_reducible rfl)
            try simp only [Act.put, List.setIfInBounds_toArray, List.set_cons_zero, List.set_cons_succ]
            refine takeW 29 (v := ?_) rfl (by kernel_rfl) (by kernel_rfl) (by kernel_rfl) (fun _ _ _ h => h) (by rfl) (by assumption) ?_ ?_
            rotate_left
            · intro w hSw
              (try dsimp only at hSw)
              go_simp
              (try with_reducible rfl)
            try simp only [Act.put, List.setIfInBounds_toArray, List.set_cons_zero, List.set_cons_succ]
            refine wpAnyH_done (by kernel_rfl) ?_ _
            try dsimp only [NoPanic]
            go_wp2_with fail
            go_ret
            exact ⟨rfl, below_next k6 kc⟩
        | true =>
          clear hno
          cases bp with
          | true =>
            have CPE2 : Hid (∀ (W : World), Below w6.heap.size w6 W → Calls Try.prog 33 #[.agg #[.int .i64 t.erase.kind, .slice ea en ec]] W fun e w' => e = .returned (.bool true) ∧ Below W.heap.size W w') := CPE.out rfl
            have CET2 : Hid (∀ (W : World), Below w6.heap.size w6 W → Calls Try.prog 29 #[.agg #[.int .i64 t.erase.kind, .slice ea en ec], .agg #[.int .i64 t.kind, .slice va vn vc]] W fun e w' => e = .returned (.bool true) ∧ Below W.heap.size W w') := CET.out rfl
            go_wp2_with fail
            go_region_held3 (fun W => (W.cell? ⟨w1.heap.size, 0, none⟩ = some (.int .i64 t.kind) ∧ W.cell? ⟨w1.heap.size, 1, none⟩ = some (.slice va vn vc)) ∧ W.cell? ⟨w4.heap.size, 0, none⟩ = some (.int .i64 t.erase.kind) ∧ W.cell? ⟨w4.heap.size, 1, none⟩ = some (.slice ea en ec))
              (exact HS6.out _ kc)
              (first
                | (go_at_call 35; (with_reducible refine (CSE.out _ kc).mono ?_); rintro e w7 ⟨s0, s1, fs, rfl, hs7, -, -, b7⟩; obtain ⟨sa, sn, sc, rfl, rfl, -, -⟩ := hs7.rd.shape; have kc := below_next kc b7)
                | (go_at_call 29; (with_reducible refine (eqSelf t.erase ea en ec sa sn sc _ (HET.out _ kc) hs7.rd).mono ?_); rintro e w8 ⟨rfl, b8⟩; have kc := below_next kc b8)
                | (go_at_call 26; (with_reducible refine (CEE.out _ kc).mono ?_); rintro e w9 ⟨r0, r1, fr, rfl, hr9, -, -, b9⟩; obtain ⟨ra, rn, rc, rfl, rfl, -, -⟩ := hr9.rd.shape; have kc := below_next kc b9)
                | (go_at_call 29; (with_reducible refine (eqSelf t.erase ra rn rc ea en ec _ hr9.rd (HET.out _ kc)).mono ?_); rintro e w10 ⟨rfl, b10⟩; have kc := below_next kc b10)
                | (go_at_call 27; (with_reducible refine (CV6.out _ kc).mono ?_); rintro e w11 ⟨rfl, b11⟩; have kc := below_next kc b11)
                | (go_at_call 33; (with_reducible refine (CPE2.out _ kc).mono ?_); rintro e w12 ⟨rfl, b12⟩; have kc := below_next kc b12)
                | (go_at_call 33; (with_reducible refine (CP6.out _ kc).mono ?_); rintro e w13 ⟨rfl, b13⟩; have kc := below_next kc b13)
                | (go_at_call 29; (with_reducible refine (CET2.out _ kc).mono ?_); rintro e w14 ⟨rfl, b14⟩; have kc := below_next kc b14))
            go_wp2_with fail
            go_ret
            exact ⟨rfl, below_next k6 kc⟩
          | false =>
            have CPE2 : Hid (∀ (W : World), Below w6.heap.size w6 W → Calls Try.prog 33 #[.agg #[.int .i64 t.erase.kind, .slice ea en ec]] W fun e w' => e = .returned (.bool true) ∧ Below W.heap.size W w') := CPE.out rfl
            go_wp2_with fail
            refine wp_region_noPanic ?_
            refine wp_region_held_drew (S := (fun W => (W.cell? ⟨w1.heap.size, 0, none⟩ = some (.int .i64 t.kind) ∧ W.cell? ⟨w1.heap.size, 1, none⟩ = some (.slice va vn vc)) ∧ W.cell? ⟨w4.heap.size, 0, none⟩ = some (.int .i64 t.erase.kind) ∧ W.cell? ⟨w4.heap.size, 1, none⟩ = some (.slice ea en ec))) (by kernel_rfl) ?_ (fun hHeld => ?_)
            · (try dsimp only)
              exact HS6.out _ kc
            refine takeW 0 (v := ?_) rfl (by kernel_rfl) (by kernel_rfl) (by kernel_rfl) (fun _ _ _ h => h) (by rfl) (by assumption) ?_ ?_
            rotate_left
            · intro w hSw
              (try dsimp only at hSw)
              go_simp
              (try with_reducible rfl)
            try simp only [Act.put, List.setIfInBounds_toArray, List.set_cons_zero, List.set_cons_succ]
            refine takeW 1 (v := ?_) rfl (by kernel_rfl) (by kernel_rfl) (by kernel_rfl) (fun _ _ _ h => h) (by rfl) (by assumption) ?_ ?_
            rotate_left
            · intro w hSw
              (try dsimp only at hSw)
              go_simp
              (try with_reducible rfl)
            try simp only [Act.put, List.setIfInBounds_toArray, List.set_cons_zero, List.set_cons_succ]
            refine goW 2 rfl (by kernel_rfl) (fun K hK => ?_)
            go_simp
            go_at_call 35; (with_reducible refine (CSE.out _ kc).mono ?_); rintro e w7 ⟨s0, s1, fs, rfl, hs7, -, -, b7⟩; obtain ⟨sa, sn, sc, rfl, rfl, -, -⟩ := hs7.rd.shape; have kc := below_next kc b7
            refine hK.out _ _ ?_ (fun hHeld => ?_)
            · (try dsimp only)
              exact HS6.out _ kc
            clear hK K
            try simp only [Act.put, List.setIfInBounds_toArray, List.set_cons_zero, List.set_cons_succ]
            refine goW 3 rfl (by kernel_rfl) (fun K hK => ?_)
            go_simp
            go_at_call 29; (with_reducible refine (eqSelf t.erase ea en ec sa sn sc _ (HET.out _ kc) hs7.rd).mono ?_); rintro e w8 ⟨rfl, b8⟩; have kc := below_next kc b8
            refine hK.out _ _ ?_ (fun hHeld => ?_)
            · (try dsimp only)
              exact HS6.out _ kc
            clear hK K
            try simp only [Act.put, List.setIfInBounds_toArray, List.set_cons_zero, List.set_cons_succ]
            refine takeW 4 (v := ?_) rfl (by kernel_rfl) (by kernel_rfl) (by kernel_rfl) (fun _ _ _ h => h) (by rfl) (by assumption) ?_ ?_
            rotate_left
            · intro w hSw
              (try dsimp only at hSw)
              go_simp
              (try with_reducible rfl)
            try simp only [Act.put, List.setIfInBounds_toArray, List.set_cons_zero, List.set_cons_succ]
            refine takeW 5 (v := ?_) rfl (by kernel_rfl) (by kernel_rfl) (by kernel_rfl) (fun _ _ _ h => h) (by rfl) (by assumption) ?_ ?_
            rotate_left
            · intro w hSw
              (try dsimp only at hSw)
              go_simp
              (try with_reducible rfl)
            try simp only [Act.put, List.setIfInBounds_toArray, List.set_cons_zero, List.set_cons_succ]
            refine takeW 7 (v := ?_) rfl (by kernel_rfl) (by kernel_rfl) (by kernel_rfl) (fun _ _ _ h => h) (by rfl) (by assumption) ?_ ?_
            rotate_left
            · intro w hSw
              (try dsimp only at hSw)
              go_simp
              (try with_reducible rfl)
            try simp only [Act.put, List.setIfInBounds_toArray, List.set_cons_zero, List.set_cons_succ]
            refine goW 6 rfl (by kernel_rfl) (fun K hK => ?_)
            go_simp
            go_at_call 26; (with_reducible refine (CEE.out _ kc).mono ?_); rintro e w9 ⟨r0, r1, fr, rfl, hr9, -, -, b9⟩; obtain ⟨ra, rn, rc, rfl, rfl, -, -⟩ := hr9.rd.shape; have kc := below_next kc b9
            refine hK.out _ _ ?_ (fun hHeld => ?_)
            · (try dsimp only)
              exact HS6.out _ kc
            clear hK K
            try simp only [Act.put, List.setIfInBounds_toArray, List.set_cons_zero, List.set_cons_succ]
            refine goW 8 rfl (by kernel_rfl) (fun K hK => ?_)
            go_simp
            go_at_call 29; (with_reducible refine (eqSelf t.erase ra rn rc ea en ec _ hr9.rd (HET.out _ kc)).mono ?_); rintro e w10 ⟨rfl, b10⟩; have kc := below_next kc b10
            refine hK.out _ _ ?_ (fun hHeld => ?_)
            · (try dsimp only)
              exact HS6.out _ kc
            clear hK K
            try simp only [Act.put, List.setIfInBounds_toArray, List.set_cons_zero, List.set_cons_succ]
            refine takeW 9 (v := ?_) rfl (by kernel_rfl) (by kernel_rfl) (by kernel_rfl) (fun _ _ _ h => h) (by rfl) (by assumption) ?_ ?_
            rotate_left
            · intro w hSw
              (try dsimp only at hSw)
              go_simp
              (try with_reducible rfl)
            try simp only [Act.put, List.setIfInBounds_toArray, List.set_cons_zero, List.set_cons_succ]
            refine takeW 10 (v := ?_) rfl (by kernel_rfl) (by kernel_rfl) (by kernel_rfl) (fun _ _ _ h => h) (by rfl) (by assumption) ?_ ?_
            rotate_left
            · intro w hSw
              (try dsimp only at hSw)
              go_simp
              (try with_reducible rfl)
            try simp only [Act.put, List.setIfInBounds_toArray, List.set_cons_zero, List.set_cons_succ]
            refine takeW 11 (v := ?_) rfl (by kernel_rfl) (by kernel_rfl) (by kernel_rfl) (fun _ _ _ h => h) (by rfl) (by assumption) ?_ ?_
            rotate_left
            · intro w hSw
              (try dsimp only at hSw)
              go_simp
              (try with_reducible rfl)
            try simp only [Act.put, List.setIfInBounds_toArray, List.set_cons_zero, List.set_cons_succ]
            refine goW 12 rfl (by kernel_rfl) (fun K hK => ?_)
            go_simp
            go_at_call 27; (with_reducible refine (CV6.out _ kc).mono ?_); rintro e w11 ⟨rfl, b11⟩; have kc := below_next kc b11
            refine hK.out _ _ ?_ (fun hHeld => ?_)
            · (try dsimp only)
              exact HS6.out _ kc
            clear hK K
            try simp only [Act.put, List.setIfInBounds_toArray, List.set_cons_zero, List.set_cons_succ]
            refine takeW 13 (v := ?_) rfl (by kernel_rfl) (by kernel_rfl) (by kernel_rfl) (fun _ _ _ h => h) (by rfl) (by assumption) ?_ ?_
            rotate_left
            · intro w hSw
              (try dsimp only at hSw)
              go_simp
              (try with_reducible rfl)
            try simp only [Act.put, List.setIfInBounds_toArray, List.set_cons_zero, List.set_cons_succ]
            refine takeW 14 (v := ?_) rfl (by kernel_rfl) (by kernel_rfl) (by kernel_rfl) (fun _ _ _ h => h) (by rfl) (by assumption) ?_ ?_
            rotate_left
            · intro w hSw
              (try dsimp only at hSw)
              go_simp
              (try with_reducible rfl)
            try simp only [Act.put, List.setIfInBounds_toArray, List.set_cons_zero, List.set_cons_succ]
            refine takeW 15 (v := ?_) rfl (by kernel_rfl) (by kernel_rfl) (by kernel_rfl) (fun _ _ _ h => h) (by rfl) (by assumption) ?_ ?_
            rotate_left
            · intro w hSw
              (try dsimp only at hSw)
              go_simp
              (try with_reducible rfl)
            try simp only [Act.put, List.setIfInBounds_toArray, List.set_cons_zero, List.set_cons_succ]
            refine goW 16 rfl (by kernel_rfl) (fun K hK => ?_)
            go_simp
            go_at_call 33; (with_reducible refine (CPE2.out _ kc).mono ?_); rintro e w12 ⟨rfl, b12⟩; have kc := below_next kc b12
            refine hK.out _ _ ?_ (fun hHeld => ?_)
            · (try dsimp only)
              exact HS6.out _ kc
            clear hK K
            try simp only [Act.put, List.setIfInBounds_toArray, List.set_cons_zero, List.set_cons_succ]
            refine takeW 17 (v := ?_) rfl (by kernel_rfl) (by kernel_rfl) (by kernel_rfl) (fun _ _ _ h => h) (by rfl) (by assumption) ?_ ?_
            rotate_left
            · intro w hSw
              (try dsimp only at hSw)
              go_simp
              (try with_reducible rfl)
            try simp only [Act.put, List.setIfInBounds_toArray, List.set_cons_zero, List.set_cons_succ]
            refine takeW 18 (v := ?_) rfl (by kernel_rfl) (by kernel_rfl) (by kernel_rfl) (fun _ _ _ h => h) (by rfl) (by assumption) ?_ ?_
            rotate_left
            · intro w hSw
              (try dsimp only at hSw)
              go_simp
              (try with_reducible rfl)
            try simp only [Act.put, List.setIfInBounds_toArray, List.set_cons_zero, List.set_cons_succ]
            refine takeW 19 (v := ?_) rfl (by kernel_rfl) (by kernel_rfl) (by kernel_rfl) (fun _ _ _ h => h) (by rfl) (by assumption) ?_ ?_
            rotate_left
            · intro w hSw
              (try dsimp only at hSw)
              go_simp
              (try with_reducible rfl)
            try simp only [Act.put, List.setIfInBounds_toArray, List.set_cons_zero, List.set_cons_succ]
            refine takeW 20 (v := ?_) rfl (by kernel_rfl) (by kernel_rfl) (by kernel_rfl) (fun _ _ _ h => h) (by rfl) (by assumption) ?_ ?_
            rotate_left
            · intro w hSw
              (try dsimp only at hSw)
              go_simp
              (try with_reducible rfl)
            try simp only [Act.put, List.setIfInBounds_toArray, List.set_cons_zero, List.set_cons_succ]
            refine goW 21 rfl (by kernel_rfl) (fun K hK => ?_)
            go_simp
            go_at_call 33; (with_reducible refine (CP6.out _ kc).mono ?_); rintro e w13 ⟨rfl, b13⟩; have kc := below_next kc b13
            refine hK.out _ _ ?_ (fun hHeld => ?_)
            · (try dsimp only)
              exact HS6.out _ kc
            clear hK K
            try simp only [Act.put, List.setIfInBounds_toArray, List.set_cons_zero, List.set_cons_succ]
            refine takeW 22 (v := ?_) rfl (by kernel_rfl) (by kernel_rfl) (by kernel_rfl) (fun _ _ _ h => h) (by rfl) (by assumption) ?_ ?_
            rotate_left
            · intro w hSw
              (try dsimp only at hSw)
              go_simp
              (try with_reducible rfl)
            try simp only [Act.put, List.setIfInBounds_toArray, List.set_cons_zero, List.set_cons_succ]
            refine takeW 23 (v := ?_) rfl (by kernel_rfl) (by kernel_rfl) (by kernel_rfl) (fun _ _ _ h => h) (by rfl) (by assumption) ?_ ?_
            rotate_left
            · intro w hSw
              (try dsimp only at hSw)
              go_simp
              (try with_reducible rfl)
            try simp only [Act.put, List.setIfInBounds_toArray, List.set_cons_zero, List.set_cons_succ]
            refine skipW 24 rfl (by kernel_rfl) (by kernel_rfl) (by kernel_rfl) (fun _ _ _ h => h) (by rfl) (by assumption) ?_
            try simp only [Act.put, List.setIfInBounds_toArray, List.set_cons_zero, List.set_cons_succ]
            refine skipW 25 rfl (by kernel_rfl) (by kernel_rfl) (by kernel_rfl) (fun _ _ _ h => h) (by rfl) (by assumption) ?_
            try simp only [Act.put, List.setIfInBounds_toArray, List.set_cons_zero, List.set_cons_succ]
            refine skipW 26 rfl (by kernel_rfl) (by kernel_rfl) (by kernel_rfl) (fun _ _ _ h => h) (by rfl) (by assumption) ?_
            try simp only [Act.put, List.setIfInBounds_toArray, List.set_cons_zero, List.set_cons_succ]
            refine takeW 27 (v := ?_) rfl (by kernel_rfl) (by kernel_rfl) (by kernel_rfl) (fun _ _ _ h => h) (by rfl) (by assumption) ?_ ?_
            rotate_left
            · intro w hSw
              (try dsimp only at hSw)
              go_simp
              (try with_reducible rfl)
            try simp only [Act.put, List.setIfInBounds_toArray, List.set_cons_zero, List.set_cons_succ]
            refine takeW 28 (v := ?_) rfl (by kernel_rfl) (by kernel_rfl) (by kernel_rfl) (fun _ _ _ h => h) (by rfl) (by assumption) ?_ ?_
            rotate_left
            · intro w hSw
              (try dsimp only at hSw)
              go_simp
              (try with_reducible rfl)
            try simp only [Act.put, List.setIfInBounds_toArray, List.set_cons_zero, List.set_cons_succ]
            refine takeW 29 (v := ?_) rfl (by kernel_rfl) (by kernel_rfl) (by kernel_rfl) (fun _ _ _ h => h) (by rfl) (by assumption) ?_ ?_
            rotate_left
            · intro w hSw
              (try dsimp only at hSw)
              go_simp
              (try with_reducible rfl)
            try simp only [Act.put, List.setIfInBounds_toArray, List.set_cons_zero, List.set_cons_succ]
            refine wpAnyH_done (by kernel_rfl) ?_ _
            try dsimp only [NoPanic]
            go_wp2_with fail
            go_ret
            exact ⟨rfl, below_next k6 kc⟩
  · have hd : decide ((n : Int) > 1048576) = true := by simp; omega
    have CB := big_any a n cap w hn
    rw [hd] at CB
    replace CB := hide CB
    go_enter Try.func6, Try.ntmps6
    go_wp2_with (go_at_call 21; (with_reducible refine CB.out.mono ?_); rintro e w0 ⟨rfl, rfl⟩)
    go_ret
    exact ⟨rfl, Below.refl _ _⟩
end Go.Proofs.Ytnmpaibocmnabaa.fnTypes
