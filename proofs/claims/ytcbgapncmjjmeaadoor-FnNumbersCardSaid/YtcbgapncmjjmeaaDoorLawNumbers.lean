/-
  The law FnNumbers: a number drawn is written and read back, within twelve digits; a text drawn is read alike, and what is read is written as it was.
-/
import Derived.Test.YtcbgapncmjjmeaaDoorDrawN
import Derived.Test.YtcbgapncmjjmeaaDoorNumA
namespace Go.Proofs.YtcbgapncmjjmeaaDoor.fnNumbers
open Go.RowKit
set_option maxRecDepth 100000
set_option linter.unusedVariables false
set_option linter.unusedSimpArgs false

theorem size_pos (u : Nat) : (itoaS (u : Int)).size = Lib.nDigits u := by
  have h : Lib.itoa (u : Int) = Lib.decDigits u := Lib.itoa_nonneg u
  rw [← Lib.decDigits_length u, ← h]
  simp [itoaS, ByteArray.size]
theorem size_neg (u : Nat) (hu : 0 < u) : (itoaS (-(u : Int))).size = Lib.nDigits u + 1 := by
  have h : Lib.itoa (-(u : Int)) = 45 :: Lib.decDigits u := Lib.itoa_neg u (by omega)
  rw [← Lib.decDigits_length u]
  have : (itoaS (-(u : Int))).size = (Lib.itoa (-(u : Int))).length := by simp [itoaS, ByteArray.size]
  rw [this, h]
  simp
theorem digits12 (u : Nat) : Lib.nDigits u ≤ 12 ↔ u < 1000000000000 := by
  constructor
  · intro h
    have h1 := Lib.lt_pow_nDigits u
    have h2 : 10 ^ Lib.nDigits u ≤ 10 ^ 12 := Nat.pow_le_pow_right (by omega) h
    omega
  · intro h
    have := decDigits_len 12 u (by omega) (by omega)
    rw [Lib.decDigits_length] at this
    exact this
theorem ok_law {z v : Int} {ok : Bool} (h : Reads (-999999999999) 999999999999 (itoaS z) v ok) :
    ((itoaS z).size ≤ 12 ∧ ok = true ∧ v = z) ∨ (¬ (itoaS z).size ≤ 12 ∧ ¬ z < 0 ∧ ok = false) ∨ (¬ (itoaS z).size ≤ 12 ∧ z < 0 ∧ (itoaS z).size ≤ 13 ∧ ok = true ∧ v = z) ∨ (¬ (itoaS z).size ≤ 12 ∧ z < 0 ∧ ¬ (itoaS z).size ≤ 13 ∧ ok = false) := by
  have e : (itoaS z).data.toList = Lib.itoa z := by simp [itoaS]
  have key : (-999999999999 ≤ z ∧ z ≤ 999999999999 ∧ ok = true ∧ v = z) ∨ (¬ (-999999999999 ≤ z ∧ z ≤ 999999999999) ∧ ok = false) := by
    rcases h with ⟨h1, h2, h3, rfl⟩ | ⟨h1, rfl, rfl⟩
    · have := itoa_inj (e.symm.trans h1)
      subst this
      exact .inl ⟨h2, h3, rfl, rfl⟩
    · exact .inr ⟨fun h => h1 z h.1 h.2 e, rfl⟩
  by_cases hz : z < 0
  · obtain ⟨u, rfl, hu⟩ : ∃ u : Nat, z = -(u : Int) ∧ 0 < u := ⟨z.natAbs, by omega, by omega⟩
    have h1 := size_neg u hu
    have h2 := digits12 u
    rcases key with ⟨k1, k2, rfl, k3⟩ | ⟨k1, rfl⟩
    · by_cases h12 : (itoaS (-(u : Int))).size ≤ 12
      · exact .inl ⟨h12, rfl, k3⟩
      · exact .inr (.inr (.inl ⟨h12, hz, by have := h2.2 (by omega); omega, rfl, k3⟩))
    · have : ¬ Lib.nDigits u ≤ 12 := fun h => by have := h2.1 h; omega
      exact .inr (.inr (.inr ⟨by omega, hz, by omega, rfl⟩))
  · obtain ⟨u, rfl⟩ : ∃ u : Nat, z = (u : Int) := ⟨z.toNat, by omega⟩
    have h1 := size_pos u
    have h2 := digits12 u
    rcases key with ⟨k1, k2, rfl, k3⟩ | ⟨k1, rfl⟩
    · exact .inl ⟨by have := h2.2 (by omega); omega, rfl, k3⟩
    · have : ¬ Lib.nDigits u ≤ 12 := fun h => by have := h2.1 h; omega
      exact .inr (.inl ⟨by omega, hz, rfl⟩)

set_option maxHeartbeats 3200000 in
theorem walk (a : Option Addr) (n cap : Nat) (w : World) (h : Rbs w a n cap) (ht : Tab w) (h1 : Syn w) (h2 : Rng w) :
    Calls Tryd.prog 8 #[.slice a n cap] w fun e w' => e = .returned (.bool true) ∧ Below w.heap.size w w' := by
  have hn : n ≤ 9223372036854775807 := by obtain ⟨h2, h3, _⟩ := h; unfold maxLen at h3; omega
  by_cases hbig : n ≤ 1048576
  · have hd : decide ((n : Int) > 1048576) = false := by simp; omega
    have CB := bigN_any a n cap w hn
    rw [hd] at CB
    replace CB := hide CB
    have HR := hide h
    have HT := hide ht
    have H1 := hide h1
    have H2 := hide h2
    clear h ht h1 h2
    go_enter Tryd.func8, Tryd.ntmps8
    go_wp2_with (go_at_call 26; (with_reducible refine CB.out.mono ?_); rintro e w0 ⟨rfl, rfl⟩)
    refine (drawFormatInt_any a n cap _ HR.out).mono ?_
    rintro e w1 ⟨z, rfl, hz, b1⟩
    go_wp2_with fail
    refine (implFormatInt_any z _ hz (HT.out.below b1)).mono ?_
    rintro e w2 ⟨rfl, b2⟩
    have k2 := below_next b1 b2
    have hsm := itoaS_le z hz
    go_wp2_with fail
    refine (implParseInt_any (itoaS z) _ (by omega) (H1.out.below k2) (H2.out.below k2) (HT.out.below k2)).mono ?_
    rintro e w3 ⟨v, ok, rfl, hr, b3⟩
    have k3 := below_next k2 b3
    have hok := ok_law hr
    clear hr
    have C1 := specFormatInt_any z w3 hz
    have e4 : (z != z) = false := by simp
    have e5 : ((itoaS z).toList == (itoaS z).toList) = true := by simp
    generalize itoaS z = x at hok C1 hsm e5 ⊢
    replace C1 := hide C1
    obtain ⟨m, hm⟩ : ∃ m, x.size = m := ⟨_, rfl⟩
    rw [hm] at hok hsm
    rcases hok with ⟨o1, rfl, rfl⟩ | ⟨o1, o2, rfl⟩ | ⟨o1, o2, o3, rfl, rfl⟩ | ⟨o1, o2, o3, rfl⟩
    · have d1 : decide ((m : Int) ≤ 12) = true := by simp; omega
      clear o1
      go_wp2_with (go_at_call 11; (with_reducible refine C1.out.mono ?_); rintro e w4 ⟨rfl, b4⟩; have k4 := below_next k3 b4)
      refine (drawParseNumber_any a n cap _ (HR.out.below k4)).mono ?_
      rintro e w5 ⟨s, rfl, hs, b5⟩
      have k5 := below_next k4 b5
      go_wp2_with fail
      refine (implParseNumber_any s _ (by omega) (H1.out.below k5) (H2.out.below k5) (HT.out.below k5)).mono ?_
      rintro e w6 ⟨v2, ok2, rfl, hr2, b6⟩
      have k6 := below_next k5 b6
      go_wp2_with fail
      refine (specParseNumber_any s _ (by omega)).mono ?_
      rintro e w7 ⟨v3, ok3, rfl, hr3, b7⟩
      have k7 := below_next k6 b7
      obtain ⟨rfl, rfl⟩ := hr2.unique hr3
      have e6 : (ok2 == ok2) = true := by simp
      clear e4 e5 C1
      rcases hr2 with ⟨r1, r2, r3, rfl⟩ | ⟨r1, rfl, rfl⟩
      · have e7 : decide (v2 ≥ 0) = true := by simp; omega
        have C2 := implFormatInt_any v2 w7 ⟨by omega, by omega⟩ (HT.out.below k7)
        have e8 : itoaS v2 = s := by rw [itoaS, ← r1]
        rw [e8] at C2
        have e9 : (s.toList == s.toList) = true := by simp
        replace C2 := hide C2
        clear e8 r1
        go_wp2_with (go_at_call 12; (with_reducible refine C2.out.mono ?_); rintro e w8 ⟨rfl, b8⟩)
        go_ret
        exact ⟨rfl, below_next k7 b8⟩
      · clear r1
        go_wp2_with fail
        go_ret
        exact ⟨rfl, k7⟩
    · have d1 : decide ((m : Int) ≤ 12) = false := by simp; omega
      have d2 : decide (z < 0) = false := by simp; omega
      clear o1 o2
      go_wp2_with (go_at_call 11; (with_reducible refine C1.out.mono ?_); rintro e w4 ⟨rfl, b4⟩; have k4 := below_next k3 b4)
      refine (drawParseNumber_any a n cap _ (HR.out.below k4)).mono ?_
      rintro e w5 ⟨s, rfl, hs, b5⟩
      have k5 := below_next k4 b5
      go_wp2_with fail
      refine (implParseNumber_any s _ (by omega) (H1.out.below k5) (H2.out.below k5) (HT.out.below k5)).mono ?_
      rintro e w6 ⟨v2, ok2, rfl, hr2, b6⟩
      have k6 := below_next k5 b6
      go_wp2_with fail
      refine (specParseNumber_any s _ (by omega)).mono ?_
      rintro e w7 ⟨v3, ok3, rfl, hr3, b7⟩
      have k7 := below_next k6 b7
      obtain ⟨rfl, rfl⟩ := hr2.unique hr3
      have e6 : (ok2 == ok2) = true := by simp
      clear e4 e5 C1
      rcases hr2 with ⟨r1, r2, r3, rfl⟩ | ⟨r1, rfl, rfl⟩
      · have e7 : decide (v2 ≥ 0) = true := by simp; omega
        have C2 := implFormatInt_any v2 w7 ⟨by omega, by omega⟩ (HT.out.below k7)
        have e8 : itoaS v2 = s := by rw [itoaS, ← r1]
        rw [e8] at C2
        have e9 : (s.toList == s.toList) = true := by simp
        replace C2 := hide C2
        clear e8 r1
        go_wp2_with (go_at_call 12; (with_reducible refine C2.out.mono ?_); rintro e w8 ⟨rfl, b8⟩)
        go_ret
        exact ⟨rfl, below_next k7 b8⟩
      · clear r1
        go_wp2_with fail
        go_ret
        exact ⟨rfl, k7⟩
    · have d1 : decide ((m : Int) ≤ 12) = false := by simp; omega
      have d2 : decide (v < 0) = true := by simp; omega
      have d3 : decide ((m : Int) ≤ 13) = true := by simp; omega
      clear o1 o2 o3
      go_wp2_with (go_at_call 11; (with_reducible refine C1.out.mono ?_); rintro e w4 ⟨rfl, b4⟩; have k4 := below_next k3 b4)
      refine (drawParseNumber_any a n cap _ (HR.out.below k4)).mono ?_
      rintro e w5 ⟨s, rfl, hs, b5⟩
      have k5 := below_next k4 b5
      go_wp2_with fail
      refine (implParseNumber_any s _ (by omega) (H1.out.below k5) (H2.out.below k5) (HT.out.below k5)).mono ?_
      rintro e w6 ⟨v2, ok2, rfl, hr2, b6⟩
      have k6 := below_next k5 b6
      go_wp2_with fail
      refine (specParseNumber_any s _ (by omega)).mono ?_
      rintro e w7 ⟨v3, ok3, rfl, hr3, b7⟩
      have k7 := below_next k6 b7
      obtain ⟨rfl, rfl⟩ := hr2.unique hr3
      have e6 : (ok2 == ok2) = true := by simp
      clear e4 e5 C1
      rcases hr2 with ⟨r1, r2, r3, rfl⟩ | ⟨r1, rfl, rfl⟩
      · have e7 : decide (v2 ≥ 0) = true := by simp; omega
        have C2 := implFormatInt_any v2 w7 ⟨by omega, by omega⟩ (HT.out.below k7)
        have e8 : itoaS v2 = s := by rw [itoaS, ← r1]
        rw [e8] at C2
        have e9 : (s.toList == s.toList) = true := by simp
        replace C2 := hide C2
        clear e8 r1
        go_wp2_with (go_at_call 12; (with_reducible refine C2.out.mono ?_); rintro e w8 ⟨rfl, b8⟩)
        go_ret
        exact ⟨rfl, below_next k7 b8⟩
      · clear r1
        go_wp2_with fail
        go_ret
        exact ⟨rfl, k7⟩
    · have d1 : decide ((m : Int) ≤ 12) = false := by simp; omega
      have d2 : decide (z < 0) = true := by simp; omega
      have d3 : decide ((m : Int) ≤ 13) = false := by simp; omega
      clear o1 o2 o3
      go_wp2_with (go_at_call 11; (with_reducible refine C1.out.mono ?_); rintro e w4 ⟨rfl, b4⟩; have k4 := below_next k3 b4)
      refine (drawParseNumber_any a n cap _ (HR.out.below k4)).mono ?_
      rintro e w5 ⟨s, rfl, hs, b5⟩
      have k5 := below_next k4 b5
      go_wp2_with fail
      refine (implParseNumber_any s _ (by omega) (H1.out.below k5) (H2.out.below k5) (HT.out.below k5)).mono ?_
      rintro e w6 ⟨v2, ok2, rfl, hr2, b6⟩
      have k6 := below_next k5 b6
      go_wp2_with fail
      refine (specParseNumber_any s _ (by omega)).mono ?_
      rintro e w7 ⟨v3, ok3, rfl, hr3, b7⟩
      have k7 := below_next k6 b7
      obtain ⟨rfl, rfl⟩ := hr2.unique hr3
      have e6 : (ok2 == ok2) = true := by simp
      clear e4 e5 C1
      rcases hr2 with ⟨r1, r2, r3, rfl⟩ | ⟨r1, rfl, rfl⟩
      · have e7 : decide (v2 ≥ 0) = true := by simp; omega
        have C2 := implFormatInt_any v2 w7 ⟨by omega, by omega⟩ (HT.out.below k7)
        have e8 : itoaS v2 = s := by rw [itoaS, ← r1]
        rw [e8] at C2
        have e9 : (s.toList == s.toList) = true := by simp
        replace C2 := hide C2
        clear e8 r1
        go_wp2_with (go_at_call 12; (with_reducible refine C2.out.mono ?_); rintro e w8 ⟨rfl, b8⟩)
        go_ret
        exact ⟨rfl, below_next k7 b8⟩
      · clear r1
        go_wp2_with fail
        go_ret
        exact ⟨rfl, k7⟩
  · have hd : decide ((n : Int) > 1048576) = true := by simp; omega
    have CB := bigN_any a n cap w hn
    rw [hd] at CB
    replace CB := hide CB
    go_enter Tryd.func8, Tryd.ntmps8
    go_wp2_with (go_at_call 26; (with_reducible refine CB.out.mono ?_); rintro e w0 ⟨rfl, rfl⟩)
    go_ret
    exact ⟨rfl, Below.refl _ _⟩
end Go.Proofs.YtcbgapncmjjmeaaDoor.fnNumbers
