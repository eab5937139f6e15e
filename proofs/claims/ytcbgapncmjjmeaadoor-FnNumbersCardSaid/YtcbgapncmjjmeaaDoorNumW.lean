/-
  The walks of ParseInt and ParseNumber: l1Read in the reference, readInt over the library's Atoi in the program.
-/
import Derived.Test.YtcbgapncmjjmeaaDoorItoa
import Derived.Test.YtcbgapncmjjmeaaDoorNumR
import Derived.Test.YtcbgapncmjjmeaaDoorNum
import Derived.Test.YtcbgapncmjjmeaaDoorShelfA
import Derived.WideShapes
import Derived.Laws.Strings
namespace Go.Proofs.YtcbgapncmjjmeaaDoor
open Go.RowKit
set_option maxRecDepth 100000
set_option linter.unusedVariables false
set_option linter.unusedSimpArgs false

theorem byte_at (r : ByteArray) {j c : Nat} (h : j < r.size) (hc : r[j].toNat = c) : ∃ b : UInt8, r.data.toList[j]? = some b ∧ b.toNat = c := by
  refine ⟨r[j], ?_, hc⟩
  rw [List.getElem?_eq_getElem (by exact h)]
  rfl
theorem not_digit {r : List UInt8} {j c : Nat} (h : ∃ b : UInt8, r[j]? = some b ∧ b.toNat = c) (hc : c < 48 ∨ 57 < c) : Lib.decFrom 0 r = none := by
  obtain ⟨b, hb, rfl⟩ := h
  cases hd : Lib.decFrom 0 r with
  | none => rfl
  | some u =>
    obtain ⟨d, hd2⟩ := Lib.digit_of_decFrom _ _ _ hd j b hb
    have := Lib.digitVal_eq hd2
    omega
theorem dec_step {r : List UInt8} {j c u : Nat} (h : ∃ b : UInt8, r[j]? = some b ∧ b.toNat = c) (hu : Lib.decFrom 0 (r.take j) = some u) (hc : 48 ≤ c ∧ c ≤ 57) : Lib.decFrom 0 (r.take (j + 1)) = some (u * 10 + (c - 48)) := by
  obtain ⟨b, hb, rfl⟩ := h
  exact Lib.decFrom_take r j 0 u b _ hu hb (by rw [Lib.digitVal, if_pos hc])
theorem ba_same {x s : ByteArray} (h : x = s) : (x.toList == s.toList) = true := by subst h; simp
theorem ba_other {x s : ByteArray} (h : ¬ x = s) : (x.toList == s.toList) = false := by
  rw [beq_eq_false_iff_ne]
  exact fun e => h (Go.WideShapes.bytes_inj (by rw [← ByteArray.toList_eq, ← ByteArray.toList_eq]; exact e))
theorem signed_list (s : ByteArray) (h : ¬ s.size = 0) (hm : s[0].toNat = 45) : s.data.toList = if true = true then 45 :: (s.extract 1 s.size).data.toList else (s.extract 1 s.size).data.toList := by
  have h45 : s[0] = 45 := UInt8.toNat_inj.1 hm
  simp only [if_true]
  rw [ByteArray.data_extract, Array.toList_extract]
  cases hl : s.data.toList with
  | nil => exact absurd (congrArg List.length hl) h
  | cons b l =>
    have e0 : b = 45 := by
      rw [← h45]
      have h2 : s.data.toList[0]? = some s[0] := by
        rw [List.getElem?_eq_getElem (show 0 < s.data.toList.length from Nat.pos_of_ne_zero h)]
        rfl
      rw [hl] at h2
      exact Option.some.inj h2
    have hsz : s.size = l.length + 1 := by
      have := congrArg List.length hl
      exact this
    subst e0
    show (45 : UInt8) :: l = 45 :: ((45 :: l).drop 1).take (s.size - 1)
    rw [hsz, Nat.add_sub_cancel, List.drop_succ_cons, List.drop_zero, List.take_length]

/-- What a reading returns. -/
def GivesN (w : World) (lo hi : Int) (s : ByteArray) (e : Ending) (w' : World) : Prop :=
  ∃ (n : Int) (b : Bool), e = .returned (.tuple #[.int .i64 n, .bool b]) ∧ Reads lo hi s n b ∧ Below w.heap.size w w'

set_option maxHeartbeats 3200000 in
theorem specRead_any (k : Nat) (s : ByteArray) (w : World) (hk1 : 1 ≤ k) (hk2 : k ≤ 12) (hs : s.size ≤ 1048576) (lo hi : Int) (hlo : lo = 1 - ((10 ^ k : Nat) : Int)) (hhi : hi = ((10 ^ k : Nat) : Int) - 1) :
    Calls Tryd.prog 50 #[.string s, .int .i64 k] w (GivesN w lo hi s) := by
  have hp : (10 : Nat) ^ k ≤ 10 ^ 12 := Nat.pow_le_pow_right (by omega) hk2
  by_cases h0 : s.size = 0
  · have hbad := no_numeral (s := s.data.toList) (d := k) (lo := lo) (hi := hi) (by omega) (by omega) (by omega) (g := false) (r := s.data.toList) (by simp) (fun _ h => by
      have : s.data.toList = [] := List.length_eq_zero_iff.1 h0
      rw [this] at h
      simp at h) (.inl (by have : s.data.toList.length = s.size := rfl; omega))
    clear hlo hhi
    go_enter Tryd.func50, Tryd.ntmps50
    go_wp2_with fail
    go_ret2
    exact ⟨0, false, rfl, .inr ⟨hbad, rfl, rfl⟩, Below.refl _ _⟩
  · have hf : (decide ((s.size : Int) > 0)) = true := by simp; omega
    by_cases hm : s[0].toNat = 45
    · obtain ⟨r, hr⟩ : ∃ r, s.extract 1 s.size = r := ⟨_, rfl⟩
      have hrs : r.size = s.size - 1 := by rw [← hr]; simp
      have hsl := signed_list s h0 hm
      rw [hr] at hsl
      have hrl : r.data.toList.length = r.size := rfl
      by_cases hb : r.size < 1 ∨ k < r.size
      · have hbad := no_numeral (d := k) (lo := lo) (hi := hi) (by omega) (by omega) (by omega) (g := true) hsl (fun h => nomatch h) (by rcases hb with h | h; exact .inl (by omega); exact .inr (.inl (by omega)))
        clear hlo hhi
        go_enter Tryd.func50, Tryd.ntmps50
        go_wp2_with fail
        all_goals
          go_ret2
          exact ⟨0, false, rfl, .inr ⟨hbad, rfl, rfl⟩, Below.refl _ _⟩
      · have hb1 : decide ((r.size : Int) < 1) = false := by simp; omega
        have hb2 : decide ((r.size : Int) > (k : Int)) = false := by simp; omega
        have hno := hide (fun h => no_numeral (d := k) (lo := lo) (hi := hi) (by omega) (by omega) (by omega) (g := true) hsl (fun h => nomatch h) (.inr (.inr h)))
        have HSL := hide hsl
        have HLO := hide (show _ ∧ _ from ⟨hlo, hhi⟩)
        clear hsl hlo hhi
        have hrk : r.size ≤ 12 := by omega
        go_enter Tryd.func50, Tryd.ntmps50
        go_wp2_with fail
        go_loopw [8, 9] (fun n i wr => ∃ j : Nat, j ≤ r.size ∧ i = .int .i64 j ∧ (∃ u : Nat, n = .int .i64 u ∧ u < 10 ^ 12 ∧ Hid (Lib.decFrom 0 (r.data.toList.take j) = some u)) ∧ w = wr) (fun _ i _ => r.size - (intOf i).toNat)
        case atStart => exact ⟨0, by omega, rfl, ⟨0, rfl, by omega, rfl⟩, rfl⟩
        case round =>
          obtain ⟨j, hj, rfl, ⟨u, rfl, hu, HU⟩, rfl⟩ := hrel
          by_cases hjr : j < r.size
          · obtain ⟨c, hc⟩ : ∃ c : Nat, r[j].toNat = c := ⟨_, rfl⟩
            have hc8 : c < 256 := by rw [← hc]; exact UInt8.toNat_lt _
            have hget := hide (byte_at r hjr hc)
            by_cases hd : c < 48 ∨ 57 < c
            · have hbad := hno.out (not_digit hget.out hd)
              clear hno
              by_cases hd1 : c < 48
              · have t1 : decide ((c : Int) < 48) = true := by simp; omega
                go_wp2_with fail
                go_ret2
                exact ⟨0, false, rfl, .inr ⟨hbad, rfl, rfl⟩, Below.refl _ _⟩
              · have t1 : decide ((c : Int) < 48) = false := by simp; omega
                have t2 : decide ((c : Int) > 57) = true := by simp; omega
                go_wp2_with fail
                go_ret2
                exact ⟨0, false, rfl, .inr ⟨hbad, rfl, rfl⟩, Below.refl _ _⟩
            · have t1 : decide ((c : Int) < 48) = false := by simp; omega
              have t2 : decide ((c : Int) > 57) = false := by simp; omega
              have hu2 := dec_step hget.out HU.out (by omega)
              have hl : (r.data.toList.take (j + 1)).length ≤ 12 := by rw [List.length_take]; omega
              have hu3 := Lib.decFrom_lt _ _ _ hu2
              have hu4 : u * 10 + (c - 48) < 10 ^ 12 := by
                have := Nat.pow_le_pow_right (n := 10) (by omega) hl
                omega
              replace hu2 := hide hu2
              have w1 : IntKind.u8.wrap ((c : Int) - 48) = (c : Int) - 48 := IntWalk.u8_in _ (by omega)
              have e1 : ((u * 10 + (c - 48) : Nat) : Int) = 10 * (u : Int) + ((c : Int) - 48) := by omega
              replace e1 := hide e1
              clear hu3
              go_wp2_with fail
              go_roundw
              case rel =>
                exact ⟨j + 1, by omega, by go_num, ⟨u * 10 + (c - 48), by rw [e1.out], hu4, hu2⟩, by trivial⟩
              case measure => simp [intOf]; omega
          · have hall : Lib.decFrom 0 r.data.toList = some u := by
              have := HU.out
              rwa [List.take_of_length_le (by omega)] at this
            have hlt := Lib.decFrom_lt _ _ _ hall
            have hlt2 : u < 10 ^ k := by
              have := Nat.pow_le_pow_right (n := 10) (by omega) (show r.data.toList.length ≤ k by omega)
              omega
            have honly := fun (m : Int) (e : s.data.toList = Lib.itoa m) => only_numeral (g := true) HSL.out (fun h => nomatch h) hall e
            have C := specFormatInt_any (-(u : Int)) w ⟨by omega, by omega⟩
            have hres : itoaS (-(u : Int)) = s → s.data.toList = Lib.itoa (-(u : Int)) := fun h => by rw [← h]; simp [itoaS]
            have hres2 : s.data.toList = Lib.itoa (-(u : Int)) → itoaS (-(u : Int)) = s := fun h => by rw [itoaS, ← h]
            have hbd : lo ≤ -(u : Int) ∧ -(u : Int) ≤ hi := by have := HLO.out; omega
            generalize itoaS (-(u : Int)) = x at C hres hres2
            replace C := hide C
            have HR := hide hres
            have HR2 := hide hres2
            have HON := hide honly
            have HB := hide hbd
            clear hres hres2 honly hall hlt hlt2 hno hbd
            by_cases hx : x = s
            · have hx1 : (x.toList == s.toList) = true := ba_same hx
              go_wp2_with (go_at_call 11; (with_reducible refine C.out.mono ?_); rintro e w1 ⟨rfl, b1⟩)
              go_ret2
              exact ⟨_, true, rfl, .inl ⟨HR.out hx, HB.out.1, HB.out.2, rfl⟩, b1⟩
            · have hx1 : (x.toList == s.toList) = false := ba_other hx
              go_wp2_with (go_at_call 11; (with_reducible refine C.out.mono ?_); rintro e w1 ⟨rfl, b1⟩)
              go_ret2
              exact ⟨0, false, rfl, .inr ⟨fun m _ _ e => hx (HR2.out (by have h3 : m = -(u : Int) := HON.out m e; rw [← h3]; exact e)), rfl, rfl⟩, b1⟩
    · have hm1 : ((s[0].toNat : Int) == 45) = false := by simp; omega
      have h45 : s.data.toList.head? ≠ some 45 := by
        intro h
        apply hm
        have : s[0] = s.data.toList[0]'(by have : s.data.toList.length = s.size := rfl; omega) := rfl
        rw [List.head?_eq_getElem?, List.getElem?_eq_getElem (by have : s.data.toList.length = s.size := rfl; omega)] at h
        injection h with h
        rw [this, h]
        rfl
      obtain ⟨r, hr⟩ : ∃ r, r = s := ⟨_, rfl⟩
      have hsl : s.data.toList = if false = true then 45 :: r.data.toList else r.data.toList := by rw [hr]; simp
      rw [← hr] at h45
      have hrl : r.data.toList.length = r.size := rfl
      by_cases hb : r.size < 1 ∨ k < r.size
      · have hbad := no_numeral (d := k) (lo := lo) (hi := hi) (by omega) (by omega) (by omega) (g := false) hsl (fun _ => h45) (by rcases hb with h | h; exact .inl (by omega); exact .inr (.inl (by omega)))
        clear hlo hhi
        subst hr
        go_enter Tryd.func50, Tryd.ntmps50
        go_wp2_with fail
        all_goals
          go_ret2
          exact ⟨0, false, rfl, .inr ⟨hbad, rfl, rfl⟩, Below.refl _ _⟩
      · have hb1 : decide ((r.size : Int) < 1) = false := by simp; omega
        have hb2 : decide ((r.size : Int) > (k : Int)) = false := by simp; omega
        have hno := hide (fun h => no_numeral (d := k) (lo := lo) (hi := hi) (by omega) (by omega) (by omega) (g := false) hsl (fun _ => h45) (.inr (.inr h)))
        have HSL := hide hsl
        have HLO := hide (show _ ∧ _ from ⟨hlo, hhi⟩)
        clear hsl hlo hhi
        have hrk : r.size ≤ 12 := by omega
        subst hr
        go_enter Tryd.func50, Tryd.ntmps50
        go_wp2_with fail
        go_loopw [8, 9] (fun n i wr => ∃ j : Nat, j ≤ r.size ∧ i = .int .i64 j ∧ (∃ u : Nat, n = .int .i64 u ∧ u < 10 ^ 12 ∧ Hid (Lib.decFrom 0 (r.data.toList.take j) = some u)) ∧ w = wr) (fun _ i _ => r.size - (intOf i).toNat)
        case atStart => exact ⟨0, by omega, rfl, ⟨0, rfl, by omega, rfl⟩, rfl⟩
        case round =>
          obtain ⟨j, hj, rfl, ⟨u, rfl, hu, HU⟩, rfl⟩ := hrel
          by_cases hjr : j < r.size
          · obtain ⟨c, hc⟩ : ∃ c : Nat, r[j].toNat = c := ⟨_, rfl⟩
            have hc8 : c < 256 := by rw [← hc]; exact UInt8.toNat_lt _
            have hget := hide (byte_at r hjr hc)
            by_cases hd : c < 48 ∨ 57 < c
            · have hbad := hno.out (not_digit hget.out hd)
              clear hno
              by_cases hd1 : c < 48
              · have t1 : decide ((c : Int) < 48) = true := by simp; omega
                go_wp2_with fail
                go_ret2
                exact ⟨0, false, rfl, .inr ⟨hbad, rfl, rfl⟩, Below.refl _ _⟩
              · have t1 : decide ((c : Int) < 48) = false := by simp; omega
                have t2 : decide ((c : Int) > 57) = true := by simp; omega
                go_wp2_with fail
                go_ret2
                exact ⟨0, false, rfl, .inr ⟨hbad, rfl, rfl⟩, Below.refl _ _⟩
            · have t1 : decide ((c : Int) < 48) = false := by simp; omega
              have t2 : decide ((c : Int) > 57) = false := by simp; omega
              have hu2 := dec_step hget.out HU.out (by omega)
              have hl : (r.data.toList.take (j + 1)).length ≤ 12 := by rw [List.length_take]; omega
              have hu3 := Lib.decFrom_lt _ _ _ hu2
              have hu4 : u * 10 + (c - 48) < 10 ^ 12 := by
                have := Nat.pow_le_pow_right (n := 10) (by omega) hl
                omega
              replace hu2 := hide hu2
              have w1 : IntKind.u8.wrap ((c : Int) - 48) = (c : Int) - 48 := IntWalk.u8_in _ (by omega)
              have e1 : ((u * 10 + (c - 48) : Nat) : Int) = 10 * (u : Int) + ((c : Int) - 48) := by omega
              replace e1 := hide e1
              clear hu3
              go_wp2_with fail
              go_roundw
              case rel =>
                exact ⟨j + 1, by omega, by go_num, ⟨u * 10 + (c - 48), by rw [e1.out], hu4, hu2⟩, by trivial⟩
              case measure => simp [intOf]; omega
          · have hall : Lib.decFrom 0 r.data.toList = some u := by
              have := HU.out
              rwa [List.take_of_length_le (by omega)] at this
            have hlt := Lib.decFrom_lt _ _ _ hall
            have hlt2 : u < 10 ^ k := by
              have := Nat.pow_le_pow_right (n := 10) (by omega) (show r.data.toList.length ≤ k by omega)
              omega
            have honly := fun (m : Int) (e : r.data.toList = Lib.itoa m) => only_numeral (g := false) HSL.out (fun _ => h45) hall e
            have C := specFormatInt_any ((u : Int)) w ⟨by omega, by omega⟩
            have hres : itoaS ((u : Int)) = r → r.data.toList = Lib.itoa ((u : Int)) := fun h => by rw [← h]; simp [itoaS]
            have hres2 : r.data.toList = Lib.itoa ((u : Int)) → itoaS ((u : Int)) = r := fun h => by rw [itoaS, ← h]
            have hbd : lo ≤ (u : Int) ∧ (u : Int) ≤ hi := by have := HLO.out; omega
            generalize itoaS ((u : Int)) = x at C hres hres2
            replace C := hide C
            have HR := hide hres
            have HR2 := hide hres2
            have HON := hide honly
            have HB := hide hbd
            clear hres hres2 honly hall hlt hlt2 hno hbd
            by_cases hx : x = r
            · have hx1 : (x.toList == r.toList) = true := ba_same hx
              go_wp2_with (go_at_call 11; (with_reducible refine C.out.mono ?_); rintro e w1 ⟨rfl, b1⟩)
              go_ret2
              exact ⟨_, true, rfl, .inl ⟨HR.out hx, HB.out.1, HB.out.2, rfl⟩, b1⟩
            · have hx1 : (x.toList == r.toList) = false := ba_other hx
              go_wp2_with (go_at_call 11; (with_reducible refine C.out.mono ?_); rintro e w1 ⟨rfl, b1⟩)
              go_ret2
              exact ⟨0, false, rfl, .inr ⟨fun m _ _ e => hx (HR2.out (by have h3 : m = (u : Int) := HON.out m e; rw [← h3]; exact e)), rfl, rfl⟩, b1⟩
end Go.Proofs.YtcbgapncmjjmeaaDoor
