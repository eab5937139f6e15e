/-
  The law FnTerms, walked: sizes and depths of terms are those of their parts; both texts agree on terms.
-/
import Derived.Test.YtmdmnchnkfjpjaaPkDraw
import Derived.Test.YtmdmnchnkfjpjaaLeftM
import Derived.Test.YtmdmnchnkfjpjaaEqualMI
import Derived.Test.YtmdmnchnkfjpjaaEqualM
import Derived.Test.YtmdmnchnkfjpjaaSizeM
import Derived.Test.YtmdmnchnkfjpjaaDepthM
namespace Go.Proofs.Ytmdmnchnkfjpjaa.fnTerms
open Go.RowKit
set_option maxRecDepth 100000
set_option linter.unusedVariables false
set_option linter.unusedSimpArgs false

theorem one_eq (z : Int) : (z == z) = true := by simp
set_option maxHeartbeats 12800000 in
theorem walk (a : Option Addr) (n cap : Nat) (w : World) (h : Rbs w a n cap) :
    Calls Try.prog 3 #[.slice a n cap] w fun e w' => e = .returned (.bool true) ∧ Below w.heap.size w w' := by
  have hn : n ≤ 9223372036854775807 := by obtain ⟨h2, h3, _⟩ := h; unfold maxLen at h3; omega
  by_cases hbig : n ≤ 1048576
  · have hd : decide ((n : Int) > 1048576) = false := by simp; omega
    have CB := big_any a n cap w hn
    rw [hd] at CB
    replace CB := hide CB
    have HR := hide h
    clear h
    go_enter Try.func3, Try.ntmps3
    go_wp2_with (go_at_call 4; (with_reducible refine CB.out.mono ?_); rintro e w0 ⟨rfl, rfl⟩)
    refine (drawIsValidTerm_any a n cap _ HR.out).mono ?_
    rintro e w1 ⟨t, l, rfl, hr, hs, b1⟩
    have hz := t.args_le_wt
    have R1 := HR.out.below b1
    have X1 := Blk.new w1 29 #[.int .i64 t.kind, .string t.name, .string t.other, .int .i64 t.n, .int .i64 t.type.kind, .slice l.ta l.tn l.tc, .int .i64 t.res.kind, .slice l.ra l.rn l.rc, .slice l.aa l.an l.ac]
    have r1 : Md (w1.alloc (.cells #[.int .i64 t.kind, .string t.name, .string t.other, .int .i64 t.n, .int .i64 t.type.kind, .slice l.ta l.tn l.tc, .int .i64 t.res.kind, .slice l.ra l.rn l.rc, .slice l.aa l.an l.ac] 29)) t l := hr.below (below_new _ _)
    have k1 : Below w.heap.size w (w1.alloc (.cells #[.int .i64 t.kind, .string t.name, .string t.other, .int .i64 t.n, .int .i64 t.type.kind, .slice l.ta l.tn l.tc, .int .i64 t.res.kind, .slice l.ra l.rn l.rc, .slice l.aa l.an l.ac] 29)) := below_next b1 (below_new _ _)
    have R2 := R1.below (below_new w1 (.cells #[.int .i64 t.kind, .string t.name, .string t.other, .int .i64 t.n, .int .i64 t.type.kind, .slice l.ta l.tn l.tc, .int .i64 t.res.kind, .slice l.ra l.rn l.rc, .slice l.aa l.an l.ac] 29))
    have hds := r1.shape.2.2.2
    have hvn := hide hds.1
    have hnl : l.an ≤ 100000 := by have := Tm.length_le_sizes t.args; have := hvn.out; omega
    go_wp2_with fail
    generalize w1.alloc (.cells #[.int .i64 t.kind, .string t.name, .string t.other, .int .i64 t.n, .int .i64 t.type.kind, .slice l.ta l.tn l.tc, .int .i64 t.res.kind, .slice l.ra l.rn l.rc, .slice l.aa l.an l.ac] 29) = W1 at X1 r1 k1 R2 hds ⊢
    have lX1 := X1.lt
    go_loopw [4, 5, 6] (fun s d i wr => ∃ k : Nat, k ≤ l.an ∧ i = .int .i64 k ∧ (∃ z : Int, s = .int .i64 z ∧ 0 ≤ z ∧ z ≤ 200001 ∧ Hid (z = 1 + Tm.sizes (t.args.take k))) ∧ (∃ y : Int, d = .int .i64 y ∧ Hid (y = Tm.depths (t.args.take k))) ∧ Below W1.heap.size W1 wr) (fun _ _ i _ => l.an - (intOf i).toNat)
    case atStart => exact ⟨0, by omega, rfl, ⟨1, rfl, by omega, by omega, by simp [Hid, Tm.sizes]⟩, ⟨0, rfl, by simp [Hid, Tm.depths]⟩, Below.refl _ _⟩
    case round =>
      obtain ⟨k, hk, rfl, ⟨z, rfl, hz0, hz1, HZ⟩, ⟨y, rfl, HY⟩, hb⟩ := hrel
      have hsz := hb.size
      have HX := hide (X1.under hb)
      obtain ⟨x0, x1, x2, x3, x4, x5, x6, x7, x8⟩ := HX.out.nine
      by_cases hkn : k < l.an
      · have hkx : k < t.args.length := by rw [← hvn.out]; exact hkn
        have hzs : Tm.sizes t.args[k].args ≤ 1048576 := by
          have h1 := Tm.sizes_take t.args k hkx
          have h2 := Tm.sizes_take_le t.args (k + 1)
          omega
        have hzk : z + (1 + Tm.sizes t.args[k].args) ≤ 200001 := by
          have h1 := Tm.sizes_take t.args k hkx
          have h2 := Tm.sizes_take_le t.args (k + 1)
          have h3 := HZ.out
          omega
        obtain ⟨b, off, lk, ha, hlt, hc, hrd⟩ := (hds.below hb).get k hkx
        have CS := implSizeOf_any t.args[k] lk wr hrd hzs
        have hse : ((t.args[k].size : Nat) : Int) = 1 + Tm.sizes t.args[k].args := by rw [Tm.size_eq]; omega
        rw [hse] at CS
        have CD := fun (W : World) (hW : Below wr.heap.size wr W) => implDepthOf_any t.args[k] lk W (hrd.below hW) hzs
        obtain ⟨dp, hdp⟩ : ∃ dp : Int, dp = (t.args[k].depth : Int) := ⟨_, rfl⟩
        rw [← hdp] at CD
        replace CS := hide CS
        replace CD := hide CD
        have HDP := hide hdp
        have F := hide (fun (W : World) (hW : Below wr.heap.size wr W) => (⟨(HX.out.under hW).nine, CellsAt.nine (w := W) (b := b) (off := off + k * 9) (t := t.args[k]) (l := lk) fun i v hv => (hW.cell (p := ⟨b, off + k * 9 + i, none⟩) hlt).trans (hc i v hv)⟩ :
          (W.cell? ⟨w1.heap.size, 0, none⟩ = some (.int .i64 t.kind) ∧ W.cell? ⟨w1.heap.size, 1, none⟩ = some (.string t.name) ∧ W.cell? ⟨w1.heap.size, 2, none⟩ = some (.string t.other) ∧ W.cell? ⟨w1.heap.size, 3, none⟩ = some (.int .i64 t.n) ∧ W.cell? ⟨w1.heap.size, 4, none⟩ = some (.int .i64 t.type.kind) ∧ W.cell? ⟨w1.heap.size, 5, none⟩ = some (.slice l.ta l.tn l.tc) ∧ W.cell? ⟨w1.heap.size, 6, none⟩ = some (.int .i64 t.res.kind) ∧ W.cell? ⟨w1.heap.size, 7, none⟩ = some (.slice l.ra l.rn l.rc) ∧ W.cell? ⟨w1.heap.size, 8, none⟩ = some (.slice l.aa l.an l.ac)) ∧ (W.cell? ⟨b, off + k * 9, none⟩ = some (.int .i64 t.args[k].kind) ∧ W.cell? ⟨b, off + k * 9 + 1, none⟩ = some (.string t.args[k].name) ∧ W.cell? ⟨b, off + k * 9 + 2, none⟩ = some (.string t.args[k].other) ∧ W.cell? ⟨b, off + k * 9 + 3, none⟩ = some (.int .i64 t.args[k].n) ∧ W.cell? ⟨b, off + k * 9 + 4, none⟩ = some (.int .i64 t.args[k].type.kind) ∧ W.cell? ⟨b, off + k * 9 + 5, none⟩ = some (.slice lk.ta lk.tn lk.tc) ∧ W.cell? ⟨b, off + k * 9 + 6, none⟩ = some (.int .i64 t.args[k].res.kind) ∧ W.cell? ⟨b, off + k * 9 + 7, none⟩ = some (.slice lk.ra lk.rn lk.rc) ∧ W.cell? ⟨b, off + k * 9 + 8, none⟩ = some (.slice lk.aa lk.an lk.ac))))
        have hs1 := hide (Tm.sizes_take t.args k hkx)
        have hdt := hide (Tm.depths_take t.args k hkx)
        obtain ⟨p0, p1, p2, p3, p4, p5, p6, p7, p8⟩ := hc.nine
        clear hse hdp hc
        rw [ha] at x8 ⊢
        rw [ha] at F
        by_cases hgt : y < dp
        · go_wp2_with fail
          refine CS.out.mono ?_
          rintro e w2 ⟨rfl, b2⟩
          obtain ⟨⟨f0, f1, f2, f3, f4, f5, f6, f7, f8⟩, g0, g1, g2, g3, g4, g5, g6, g7, g8⟩ := F.out _ b2
          clear x0 x1 x2 x3 x4 x5 x6 x7 x8 p0 p1 p2 p3 p4 p5 p6 p7 p8
          go_wp2_with fail
          refine (CD.out _ b2).mono ?_
          rintro e w3 ⟨rfl, b3⟩
          have b23 := below_next b2 b3
          clear f0 f1 f2 f3 f4 f5 f6 f7 f8 g0 g1 g2 g3 g4 g5 g6 g7 g8
          obtain ⟨⟨f0, f1, f2, f3, f4, f5, f6, f7, f8⟩, g0, g1, g2, g3, g4, g5, g6, g7, g8⟩ := F.out _ b23
          go_wp2_with fail
          refine (CD.out _ b23).mono ?_
          rintro e w4 ⟨rfl, b4⟩
          go_wp2_with fail
          go_roundw
          case rel =>
            refine ⟨k + 1, by omega, by go_num, ⟨_, rfl, by omega, by omega, ?_⟩, ⟨_, rfl, ?_⟩, below_next hb (below_next b23 b4)⟩
            · have := HZ.out; have := hs1.out; unfold Hid; omega
            · have := HY.out; have := hdt.out; have := HDP.out; unfold Hid; omega
          case measure => simp [intOf]; omega
        · go_wp2_with fail
          refine CS.out.mono ?_
          rintro e w2 ⟨rfl, b2⟩
          obtain ⟨⟨f0, f1, f2, f3, f4, f5, f6, f7, f8⟩, g0, g1, g2, g3, g4, g5, g6, g7, g8⟩ := F.out _ b2
          clear x0 x1 x2 x3 x4 x5 x6 x7 x8 p0 p1 p2 p3 p4 p5 p6 p7 p8
          go_wp2_with fail
          refine (CD.out _ b2).mono ?_
          rintro e w3 ⟨rfl, b3⟩
          have b23 := below_next b2 b3
          go_wp2_with fail
          go_roundw
          case rel =>
            refine ⟨k + 1, by omega, by go_num, ⟨_, rfl, by omega, by omega, ?_⟩, ⟨_, rfl, ?_⟩, below_next hb b23⟩
            · have := HZ.out; have := hs1.out; unfold Hid; omega
            · have := HY.out; have := hdt.out; have := HDP.out; unfold Hid; omega
          case measure => simp [intOf]; omega
      · have hzt : Hid (z = (t.size : Int)) := by
          have := HZ.out
          rw [List.take_of_length_le (by have := hvn.out; omega)] at this
          unfold Hid
          rw [t.size_eq]
          omega
        have hyt : Hid (y + 1 = (t.depth : Int)) := by
          have := HY.out
          rw [List.take_of_length_le (by have := hvn.out; omega)] at this
          unfold Hid
          rw [t.depth_eq]
          omega
        have hyb : 0 ≤ y ∧ y ≤ 300000 := by
          have h1 := t.depth_le_size
          have h2 := hyt.out
          have h3 := HY.out
          have h4 := t.size_eq
          omega
        go_wp2_with fail
        refine (drawEqualTerm_any a n cap _ (R2.below hb)).mono ?_
        rintro e w2 ⟨x, u, lx, lu, rfl, hx, hu, hxs, hus, b2⟩
        have XX := HX.out.under b2
        have hT2 := (r1.below hb).below b2
        have Y3 := (Blk.new w2 29 #[.int .i64 x.kind, .string x.name, .string x.other, .int .i64 x.n, .int .i64 x.type.kind, .slice lx.ta lx.tn lx.tc, .int .i64 x.res.kind, .slice lx.ra lx.rn lx.rc, .slice lx.aa lx.an lx.ac]).alloc (.cells #[.int .i64 u.kind, .string u.name, .string u.other, .int .i64 u.n, .int .i64 u.type.kind, .slice lu.ta lu.tn lu.tc, .int .i64 u.res.kind, .slice lu.ra lu.rn lu.rc, .slice lu.aa lu.an lu.ac] 29)
        have Z3 := Blk.new2 w2 (.cells #[.int .i64 x.kind, .string x.name, .string x.other, .int .i64 x.n, .int .i64 x.type.kind, .slice lx.ta lx.tn lx.tc, .int .i64 x.res.kind, .slice lx.ra lx.rn lx.rc, .slice lx.aa lx.an lx.ac] 29) 29 #[.int .i64 u.kind, .string u.name, .string u.other, .int .i64 u.n, .int .i64 u.type.kind, .slice lu.ta lu.tn lu.tc, .int .i64 u.res.kind, .slice lu.ra lu.rn lu.rc, .slice lu.aa lu.an lu.ac]
        have X3 := (XX.alloc (.cells #[.int .i64 x.kind, .string x.name, .string x.other, .int .i64 x.n, .int .i64 x.type.kind, .slice lx.ta lx.tn lx.tc, .int .i64 x.res.kind, .slice lx.ra lx.rn lx.rc, .slice lx.aa lx.an lx.ac] 29)).alloc (.cells #[.int .i64 u.kind, .string u.name, .string u.other, .int .i64 u.n, .int .i64 u.type.kind, .slice lu.ta lu.tn lu.tc, .int .i64 u.res.kind, .slice lu.ra lu.rn lu.rc, .slice lu.aa lu.an lu.ac] 29)
        have b3 : Below w2.heap.size w2 ((w2.alloc (.cells #[.int .i64 x.kind, .string x.name, .string x.other, .int .i64 x.n, .int .i64 x.type.kind, .slice lx.ta lx.tn lx.tc, .int .i64 x.res.kind, .slice lx.ra lx.rn lx.rc, .slice lx.aa lx.an lx.ac] 29)).alloc (.cells #[.int .i64 u.kind, .string u.name, .string u.other, .int .i64 u.n, .int .i64 u.type.kind, .slice lu.ta lu.tn lu.tc, .int .i64 u.res.kind, .slice lu.ra lu.rn lu.rc, .slice lu.aa lu.an lu.ac] 29)) := (by repeat (first | exact Below.refl _ _ | assumption | refine Below.drew ?_ | refine below_drewN ?_ _ | refine Below.alloc ?_ (by first | omega | (simp; done) | (simp; omega)) _ | refine Below.setCell ?_ (by first | omega | (simp; done) | (simp; omega)) _))
        have hT3 := hT2.below b3
        have hx3 := hx.below b3
        have hu3 := hu.below b3
        have R3 := ((R2.below hb).below b2).below b3
        have k3 := below_next (below_next k1 (below_next hb b2)) b3
        clear x0 x1 x2 x3 x4 x5 x6 x7 x8
        go_wp2_with fail
        generalize (w2.alloc (.cells #[.int .i64 x.kind, .string x.name, .string x.other, .int .i64 x.n, .int .i64 x.type.kind, .slice lx.ta lx.tn lx.tc, .int .i64 x.res.kind, .slice lx.ra lx.rn lx.rc, .slice lx.aa lx.an lx.ac] 29)).alloc (.cells #[.int .i64 u.kind, .string u.name, .string u.other, .int .i64 u.n, .int .i64 u.type.kind, .slice lu.ta lu.tn lu.tc, .int .i64 u.res.kind, .slice lu.ra lu.rn lu.rc, .slice lu.aa lu.an lu.ac] 29) = W3 at Y3 Z3 X3 hT3 hx3 hu3 k3 R3 ⊢
        refine (drawOpArity_any a n cap _ R3).mono ?_
        rintro e W5 ⟨op, rfl, hop, b4⟩
        have X5 := X3.under b4
        have Y5 := Y3.under b4
        have Z5 := Z3.under b4
        have hT5 := hT3.below b4
        have hx5 := hx3.below b4
        have hu5 := hu3.below b4
        have k5 := below_next k3 b4
        have CS := fun (W : World) (hW : Below W5.heap.size W5 W) => implSizeOf_any t l W (hT5.below hW) (by omega)
        have CD := fun (W : World) (hW : Below W5.heap.size W5 W) => implDepthOf_any t l W (hT5.below hW) (by omega)
        have CV := fun (W : World) (hW : Below W5.heap.size W5 W) => implIsValidTerm_any t l W (hT5.below hW) (by omega)
        have CW := fun (W : World) (hW : Below W5.heap.size W5 W) => specIsValidTerm_any t l W (hT5.below hW) (by omega)
        have CI := fun (W : World) (hW : Below W5.heap.size W5 W) => implIsTerm_any t l W (hT5.below hW) (by omega)
        have CJ := fun (W : World) (hW : Below W5.heap.size W5 W) => specIsTerm_any t l W (hT5.below hW) (by omega)
        have CE := fun (W : World) (hW : Below W5.heap.size W5 W) => implEqualTerm_any x u lx lu W (hx5.below hW) (hu5.below hW)
        have CF := fun (W : World) (hW : Below W5.heap.size W5 W) => specEqualTerm_any x u lx lu W (hx5.below hW) (hu5.below hW)
        have CO := fun (W : World) => (implOpArity_any op W).mono fun e w' (h : e = .returned (.int .i64 (opArity op)) ∧ W = w') => (⟨h.1, h.2 ▸ Below.refl _ _⟩ : e = .returned (.int .i64 (opArity op)) ∧ Below W.heap.size W w')
        have CQ := fun (W : World) => (specOpArity_any op W).mono fun e w' (h : e = .returned (.int .i64 (opArity op)) ∧ W = w') => (⟨h.1, h.2 ▸ Below.refl _ _⟩ : e = .returned (.int .i64 (opArity op)) ∧ Below W.heap.size W w')
        rw [← hzt.out] at CS
        rw [← hyt.out] at CD
        generalize t.valid = bv at CV CW
        generalize t.ok = bo at CI CJ
        generalize x.beq u = be at CE CF
        generalize opArity op = oa at CO CQ
        have g1 : (z == z) = true := by simp
        have g2 : (y + 1 == y + 1) = true := by simp
        have g3 : (bv == bv) = true := by simp
        have g4 : (bo == bo) = true := by simp
        have g5 : (be == be) = true := by simp
        have g6 : (oa == oa) = true := by simp
        have g7 : IntKind.i64.wrap (y + 1) = y + 1 := IntWalk.i64_in _ (by omega)
        have HS := hide (fun (W : World) (hW : Below W5.heap.size W5 W) => (⟨(X5.under hW).nine, (Y5.under hW).nine, (Z5.under hW).nine⟩ : (W.cell? ⟨w1.heap.size, 0, none⟩ = some (.int .i64 t.kind) ∧ W.cell? ⟨w1.heap.size, 1, none⟩ = some (.string t.name) ∧ W.cell? ⟨w1.heap.size, 2, none⟩ = some (.string t.other) ∧ W.cell? ⟨w1.heap.size, 3, none⟩ = some (.int .i64 t.n) ∧ W.cell? ⟨w1.heap.size, 4, none⟩ = some (.int .i64 t.type.kind) ∧ W.cell? ⟨w1.heap.size, 5, none⟩ = some (.slice l.ta l.tn l.tc) ∧ W.cell? ⟨w1.heap.size, 6, none⟩ = some (.int .i64 t.res.kind) ∧ W.cell? ⟨w1.heap.size, 7, none⟩ = some (.slice l.ra l.rn l.rc) ∧ W.cell? ⟨w1.heap.size, 8, none⟩ = some (.slice l.aa l.an l.ac)) ∧ (W.cell? ⟨w2.heap.size, 0, none⟩ = some (.int .i64 x.kind) ∧ W.cell? ⟨w2.heap.size, 1, none⟩ = some (.string x.name) ∧ W.cell? ⟨w2.heap.size, 2, none⟩ = some (.string x.other) ∧ W.cell? ⟨w2.heap.size, 3, none⟩ = some (.int .i64 x.n) ∧ W.cell? ⟨w2.heap.size, 4, none⟩ = some (.int .i64 x.type.kind) ∧ W.cell? ⟨w2.heap.size, 5, none⟩ = some (.slice lx.ta lx.tn lx.tc) ∧ W.cell? ⟨w2.heap.size, 6, none⟩ = some (.int .i64 x.res.kind) ∧ W.cell? ⟨w2.heap.size, 7, none⟩ = some (.slice lx.ra lx.rn lx.rc) ∧ W.cell? ⟨w2.heap.size, 8, none⟩ = some (.slice lx.aa lx.an lx.ac)) ∧ (W.cell? ⟨w2.heap.size + 1, 0, none⟩ = some (.int .i64 u.kind) ∧ W.cell? ⟨w2.heap.size + 1, 1, none⟩ = some (.string u.name) ∧ W.cell? ⟨w2.heap.size + 1, 2, none⟩ = some (.string u.other) ∧ W.cell? ⟨w2.heap.size + 1, 3, none⟩ = some (.int .i64 u.n) ∧ W.cell? ⟨w2.heap.size + 1, 4, none⟩ = some (.int .i64 u.type.kind) ∧ W.cell? ⟨w2.heap.size + 1, 5, none⟩ = some (.slice lu.ta lu.tn lu.tc) ∧ W.cell? ⟨w2.heap.size + 1, 6, none⟩ = some (.int .i64 u.res.kind) ∧ W.cell? ⟨w2.heap.size + 1, 7, none⟩ = some (.slice lu.ra lu.rn lu.rc) ∧ W.cell? ⟨w2.heap.size + 1, 8, none⟩ = some (.slice lu.aa lu.an lu.ac))))
        replace CS := hide CS
        replace CD := hide CD
        replace CV := hide CV
        replace CW := hide CW
        replace CI := hide CI
        replace CJ := hide CJ
        replace CE := hide CE
        replace CF := hide CF
        replace CO := hide CO
        replace CQ := hide CQ
        have kb := below_drew W5
        clear hxs hus
        go_wp2_with fail
        go_region_held3 (fun W => (W.cell? ⟨w1.heap.size, 0, none⟩ = some (.int .i64 t.kind) ∧ W.cell? ⟨w1.heap.size, 1, none⟩ = some (.string t.name) ∧ W.cell? ⟨w1.heap.size, 2, none⟩ = some (.string t.other) ∧ W.cell? ⟨w1.heap.size, 3, none⟩ = some (.int .i64 t.n) ∧ W.cell? ⟨w1.heap.size, 4, none⟩ = some (.int .i64 t.type.kind) ∧ W.cell? ⟨w1.heap.size, 5, none⟩ = some (.slice l.ta l.tn l.tc) ∧ W.cell? ⟨w1.heap.size, 6, none⟩ = some (.int .i64 t.res.kind) ∧ W.cell? ⟨w1.heap.size, 7, none⟩ = some (.slice l.ra l.rn l.rc) ∧ W.cell? ⟨w1.heap.size, 8, none⟩ = some (.slice l.aa l.an l.ac)) ∧ (W.cell? ⟨w2.heap.size, 0, none⟩ = some (.int .i64 x.kind) ∧ W.cell? ⟨w2.heap.size, 1, none⟩ = some (.string x.name) ∧ W.cell? ⟨w2.heap.size, 2, none⟩ = some (.string x.other) ∧ W.cell? ⟨w2.heap.size, 3, none⟩ = some (.int .i64 x.n) ∧ W.cell? ⟨w2.heap.size, 4, none⟩ = some (.int .i64 x.type.kind) ∧ W.cell? ⟨w2.heap.size, 5, none⟩ = some (.slice lx.ta lx.tn lx.tc) ∧ W.cell? ⟨w2.heap.size, 6, none⟩ = some (.int .i64 x.res.kind) ∧ W.cell? ⟨w2.heap.size, 7, none⟩ = some (.slice lx.ra lx.rn lx.rc) ∧ W.cell? ⟨w2.heap.size, 8, none⟩ = some (.slice lx.aa lx.an lx.ac)) ∧ (W.cell? ⟨w2.heap.size + 1, 0, none⟩ = some (.int .i64 u.kind) ∧ W.cell? ⟨w2.heap.size + 1, 1, none⟩ = some (.string u.name) ∧ W.cell? ⟨w2.heap.size + 1, 2, none⟩ = some (.string u.other) ∧ W.cell? ⟨w2.heap.size + 1, 3, none⟩ = some (.int .i64 u.n) ∧ W.cell? ⟨w2.heap.size + 1, 4, none⟩ = some (.int .i64 u.type.kind) ∧ W.cell? ⟨w2.heap.size + 1, 5, none⟩ = some (.slice lu.ta lu.tn lu.tc) ∧ W.cell? ⟨w2.heap.size + 1, 6, none⟩ = some (.int .i64 u.res.kind) ∧ W.cell? ⟨w2.heap.size + 1, 7, none⟩ = some (.slice lu.ra lu.rn lu.rc) ∧ W.cell? ⟨w2.heap.size + 1, 8, none⟩ = some (.slice lu.aa lu.an lu.ac)))
          (exact HS.out _ kb)
          (first
            | (go_at_call 6; (with_reducible refine (CS.out _ kb).mono ?_); rintro e w6 ⟨rfl, b6⟩; have kb := below_next kb b6)
            | (go_at_call 7; (with_reducible refine (CD.out _ kb).mono ?_); rintro e w6 ⟨rfl, b6⟩; have kb := below_next kb b6)
            | (go_at_call 10; (with_reducible refine (CV.out _ kb).mono ?_); rintro e w6 ⟨rfl, b6⟩; have kb := below_next kb b6)
            | (go_at_call 11; (with_reducible refine (CW.out _ kb).mono ?_); rintro e w6 ⟨rfl, b6⟩; have kb := below_next kb b6)
            | (go_at_call 12; (with_reducible refine (CI.out _ kb).mono ?_); rintro e w6 ⟨rfl, b6⟩; have kb := below_next kb b6)
            | (go_at_call 13; (with_reducible refine (CJ.out _ kb).mono ?_); rintro e w6 ⟨rfl, b6⟩; have kb := below_next kb b6)
            | (go_at_call 14; (with_reducible refine (CE.out _ kb).mono ?_); rintro e w6 ⟨rfl, b6⟩; have kb := below_next kb b6)
            | (go_at_call 15; (with_reducible refine (CF.out _ kb).mono ?_); rintro e w6 ⟨rfl, b6⟩; have kb := below_next kb b6)
            | (go_at_call 16; (with_reducible refine (CO.out _).mono ?_); rintro e w6 ⟨rfl, b6⟩; have kb := below_next kb b6)
            | (go_at_call 17; (with_reducible refine (CQ.out _).mono ?_); rintro e w6 ⟨rfl, b6⟩; have kb := below_next kb b6))
        go_wp2_with fail
        go_ret
        exact ⟨rfl, below_next k5 kb⟩
  · have hd : decide ((n : Int) > 1048576) = true := by simp; omega
    have CB := big_any a n cap w hn
    rw [hd] at CB
    replace CB := hide CB
    go_enter Try.func3, Try.ntmps3
    go_wp2_with (go_at_call 4; (with_reducible refine CB.out.mono ?_); rintro e w0 ⟨rfl, rfl⟩)
    go_ret
    exact ⟨rfl, Below.refl _ _⟩
end Go.Proofs.Ytmdmnchnkfjpjaa.fnTerms
