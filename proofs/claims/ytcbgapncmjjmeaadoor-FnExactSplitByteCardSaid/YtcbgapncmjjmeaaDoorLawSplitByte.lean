/-
  The law FnExactSplitByte: the program's SplitByte and the reference's return the same list, a new one, for every text and byte.
-/
import Derived.Test.YtcbgapncmjjmeaaDoorSplit
import Derived.Test.YtcbgapncmjjmeaaDoorMarkR
namespace Go.Proofs.YtcbgapncmjjmeaaDoor.fnExactSplitByte
open Go.RowKit Go.ChangeShapes Go.WideShapes
set_option maxRecDepth 100000
set_option linter.unusedVariables false
set_option linter.unusedSimpArgs false

set_option maxHeartbeats 3200000 in
theorem walk (s : ByteArray) (b : Int) (w : World) (hs : s.size ≤ maxLen) (hb : (Lit.int .u8 b).wf = true) (hm : MaxInt w) :
    Calls Tryd.prog 7 #[.string s, .int .u8 b] w fun e w' => e = .returned (.bool true) ∧ Below w.heap.size w w' := by
  obtain ⟨c, rfl⟩ : ∃ c : UInt8, b = (c.toNat : Int) := by
    have h : 0 ≤ b ∧ b ≤ 255 := by simpa [Lit.wf, IntKind.min, IntKind.max, IntKind.signed, IntKind.bits] using hb
    exact ⟨UInt8.ofNat b.toNat, by rw [UInt8.toNat_ofNat']; omega⟩
  have hm0 : s.size ≤ 9223372036854775807 := by unfold maxLen at hs; omega
  clear hs hb
  by_cases hss : s.size ≤ 1048576
  · have hd : decide ((s.size : Int) > 1048576) = false := by simp; omega
    have hwz : ∀ x ∈ pieces s c, x.size ≤ 9223372036854775807 := fun x hx => by have := pieces_size s c x hx; omega
    have hwl : (pieces s c).length ≤ 1048577 := by have := pieces_len s c; omega
    have HM := hide hm
    clear hm
    have S1 := hide (specSplit_any s c w hss)
    have I1 := hide (fun W (hW : Below w.heap.size w W) => implSplit_any s c W hss (HM.out.below hW))
    generalize pieces s c = zs at hwz hwl S1 I1
    go_enter Tryd.func7, Tryd.ntmps7
    go_wp2_with fail
    refine S1.out.mono ?_
    rintro e w2 ⟨v0, rfl, hO0, K2⟩
    obtain ⟨a0, c0, rfl, R0⟩ := hO0.read hwz
    have A0 := hO0.at_
    go_wp2_with fail
    refine (I1.out _ K2).mono ?_
    rintro e w4 ⟨v1, rfl, hO1, b4⟩
    obtain ⟨a1, c1, rfl, R1⟩ := hO1.read hwz
    have A1 := hO1.at_
    have K4 := below_next K2 b4
    replace R0 := R0.below b4
    go_wp2_with fail
    refine (eqStringS_any zs _ _ _ _ _ _ R1 R0).mono ?_
    rintro e w5 ⟨rfl, b5⟩
    have K5 := below_next K4 b5
    replace R0 := R0.below b5
    replace hO1 := OwnS.below hO1 b5
    have s2 := K2.size
    have s4 := b4.size
    have s5 := b5.size
    clear R1
    go_wp2_with fail
    refine (markRes hO1 (by omega)).mono ?_
    rintro e w10 ⟨rfl, ⟨fp, hfp, -, q10⟩, M⟩
    have K10 := K5.trans (q10.below (B := w.heap.size) K5.size (by intro b hb; have := hfp b hb; omega))
    have s10 := q10.size
    replace R0 := R0.wrote q10 (by intro p hp hin; have := A0 p hp; have := hfp _ hin; omega)
    clear hO1
    go_wp2_with fail
    refine (heldStringS_any 1 zs.length _ _ _ (by omega) (by omega) M).mono ?_
    rintro e w11 ⟨rfl, b11⟩
    have K11 := below_next K10 b11
    replace R0 := R0.below b11
    replace M := M.below b11
    go_wp2_with fail
    refine (I1.out _ K11).mono ?_
    rintro e w13 ⟨v2, rfl, hO2, b13⟩
    obtain ⟨a2, c2, rfl, R2⟩ := hO2.read hwz
    have K13 := below_next K11 b13
    replace R0 := R0.below b13
    replace M := M.below b13
    go_wp2_with fail
    refine (eqStringS_any zs _ _ _ _ _ _ R2 R0).mono ?_
    rintro e w14 ⟨rfl, b14⟩
    have K14 := below_next K13 b14
    replace M := M.below b14
    go_wp2_with fail
    refine (heldStringS_any 1 zs.length _ _ _ (by omega) (by omega) M).mono ?_
    rintro e w15 ⟨rfl, b15⟩
    go_wp2_with fail
    go_ret
    exact ⟨rfl, below_next K14 b15⟩
  · have hd : decide ((s.size : Int) > 1048576) = true := by simp; omega
    go_enter Tryd.func7, Tryd.ntmps7
    go_wp2_with fail
    go_ret
    exact ⟨rfl, Below.refl _ _⟩
end Go.Proofs.YtcbgapncmjjmeaaDoor.fnExactSplitByte
