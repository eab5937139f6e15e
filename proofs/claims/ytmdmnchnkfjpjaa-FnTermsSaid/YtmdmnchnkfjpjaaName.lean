/-
  The walks of IsName in both texts.
-/
import Derived.Test.YtmdmnchnkfjpjaaStr
import Derived.Test.YtmdmnchnkfjpjaaNum
namespace Go.Proofs.Ytmdmnchnkfjpjaa
open Go.RowKit
set_option linter.unusedVariables false
set_option linter.unusedSimpArgs false

/-- A byte that a name may have at this place: a small letter, or behind the first place a digit. -/
def NameByte (i c : Nat) : Prop := (97 ≤ c ∧ c ≤ 122) ∨ (i ≠ 0 ∧ 48 ≤ c ∧ c ≤ 57)
instance (i c : Nat) : Decidable (NameByte i c) := by unfold NameByte; infer_instance
def NameBytes (s : ByteArray) : Prop := ∀ i (h : i < s.size), NameByte i s[i].toNat
instance (s : ByteArray) : Decidable (NameBytes s) := by unfold NameBytes; infer_instance
/-- The words that are no names. -/
def noNames : List ByteArray := [⟨#[105, 102]⟩, ⟨#[108, 101, 116]⟩, ⟨#[108, 105, 102, 116]⟩, ⟨#[114, 101, 99]⟩, ⟨#[114, 117, 110]⟩]
def isName (s : ByteArray) : Bool := decide (NameBytes s) && (inB s.size 1 4 && !(noNames.any fun x => s.toList == x.toList))
theorem isName_bad {s : ByteArray} {j : Nat} (hj : j < s.size) (h : ¬ NameByte j s[j].toNat) : isName s = false := by
  have : ¬ NameBytes s := fun hn => h (hn j hj)
  simp [isName, this]
theorem isName_good {s : ByteArray} (h : NameBytes s) : isName s = (inB s.size 1 4 && !(noNames.any fun x => s.toList == x.toList)) := by
  simp [isName, h]

set_option maxHeartbeats 1600000 in
theorem specIsName_any (s : ByteArray) (w : World) (hs : s.size ≤ 1048576) : Calls Try.prog 62 #[.string s] w fun e w' => e = .returned (.bool (isName s)) ∧ Below w.heap.size w w' := by
  go_enter Try.func62, Try.ntmps62
  go_wp2_with fail
  go_loopw [3] (fun i wr => ∃ j : Nat, j ≤ s.size ∧ i = .int .i64 j ∧ Hid (∀ i (h : i < s.size), i < j → NameByte i s[i].toNat) ∧ w = wr) (fun i _ => s.size - (intOf i).toNat)
  case atStart => exact ⟨0, by omega, rfl, fun i _ hi => by omega, rfl⟩
  case round =>
    obtain ⟨j, hj, rfl, HR, rfl⟩ := hrel
    by_cases hjn : j < s.size
    · have step : NameByte j s[j].toNat → Hid (∀ i (h : i < s.size), i < j + 1 → NameByte i s[i].toNat) := fun hb i hi hij => by
        by_cases hij' : i < j
        · exact HR.out i hi hij'
        · obtain rfl : i = j := by omega
          exact hb
      have bad : ¬ NameByte j s[j].toNat → isName s = false := isName_bad hjn
      go_wp2_with fail
      all_goals first
        | (go_ret
           exact ⟨ret_bool (bad (by unfold NameByte; simp at *; omega)).symm, Below.refl _ _⟩)
        | (refine ⟨⟨j + 1, by omega, by (first | go_num | (simp_all; done)), step (by unfold NameByte; simp at *; omega), by trivial⟩, ?_⟩
           simp [intOf]
           omega)
        | (exfalso; subst_vars; simp at *; omega)
    · have hg := hide (isName_good fun i hi => HR.out i hi (by omega))
      cases hin : inB s.size 1 4 with
      | false =>
        go_wp2_with (go_at_call 46; (with_reducible refine (l1In_is hin _).mono ?_); rintro e w1 ⟨rfl, rfl⟩)
        go_ret
        exact ⟨ret_bool (by rw [hg.out, hin]; rfl), Below.refl _ _⟩
      | true =>
        go_wp2_with (go_at_call 46; (with_reducible refine (l1In_is hin _).mono ?_); rintro e w1 ⟨rfl, rfl⟩)
        all_goals go_ret
        all_goals refine ⟨ret_bool ?_, Below.refl _ _⟩
        all_goals
          rw [hg.out, hin]
          simp_all [noNames]
          try (simp [Bool.and_assoc, Bool.and_comm, Bool.and_left_comm]; done)
theorem noNames_in (w : World) : Rss (w.alloc (.cells #[.string ⟨#[105, 102]⟩, .string ⟨#[108, 101, 116]⟩, .string ⟨#[108, 105, 102, 116]⟩, .string ⟨#[114, 101, 99]⟩, .string ⟨#[114, 117, 110]⟩] 9)) noNames (some ⟨w.heap.size, 0, none⟩) 5 5 := by
  refine ⟨rfl, Nat.le_refl _, by unfold maxLen; omega, ?_, .inr ⟨by simp [noNames], _, 0, rfl, fun i hi => ?_⟩⟩
  · intro x hx
    simp only [noNames, List.mem_cons, List.not_mem_nil, or_false] at hx
    rcases hx with rfl | rfl | rfl | rfl | rfl <;> (simp [ByteArray.size])
  · rw [Nat.zero_add, (Blk.new w _ _).cell]
    match i, hi with
    | 0, _ => rfl
    | 1, _ => rfl
    | 2, _ => rfl
    | 3, _ => rfl
    | 4, _ => rfl
    | n + 5, h => exact absurd h (by simp [noNames])
set_option maxHeartbeats 1600000 in
theorem implIsName_any (s : ByteArray) (w : World) (hs : s.size ≤ 1048576) : Calls Try.prog 55 #[.string s] w fun e w' => e = .returned (.bool (isName s)) ∧ Below w.heap.size w w' := by
  go_enter Try.func55, Try.ntmps55
  go_wp2_with fail
  go_loopw [7] (fun i wr => ∃ j : Nat, j ≤ s.size ∧ i = .int .i64 j ∧ Hid (∀ i (h : i < s.size), i < j → NameByte i s[i].toNat) ∧ w = wr) (fun i _ => s.size - (intOf i).toNat)
  case atStart => exact ⟨0, by omega, rfl, fun i _ hi => by omega, rfl⟩
  case round =>
    obtain ⟨j, hj, rfl, HR, rfl⟩ := hrel
    by_cases hjn : j < s.size
    · have step : NameByte j s[j].toNat → Hid (∀ i (h : i < s.size), i < j + 1 → NameByte i s[i].toNat) := fun hb i hi hij => by
        by_cases hij' : i < j
        · exact HR.out i hi hij'
        · obtain rfl : i = j := by omega
          exact hb
      have bad : ¬ NameByte j s[j].toNat → isName s = false := isName_bad hjn
      go_wp2_with fail
      all_goals first
        | (go_ret
           exact ⟨ret_bool (bad (by unfold NameByte; simp at *; omega)).symm, Below.refl _ _⟩)
        | (refine ⟨⟨j + 1, by omega, by (first | go_num | (simp_all; done)), step (by unfold NameByte; simp at *; omega), by trivial⟩, ?_⟩
           simp [intOf]
           omega)
        | (exfalso; subst_vars; simp at *; omega)
    · have hg := hide (isName_good fun i hi => HR.out i hi (by omega))
      cases hin : inB s.size 1 4 with
      | false =>
        go_wp2_with (go_at_call 57; (with_reducible refine (within_is hin _).mono ?_); rintro e w1 ⟨rfl, rfl⟩)
        go_ret
        exact ⟨ret_bool (by rw [hg.out, hin]; rfl), (by repeat (first | exact Below.refl _ _ | assumption | refine Below.drew ?_ | refine below_drewN ?_ _ | refine Below.alloc ?_ (by first | omega | (simp; done) | (simp; omega)) _ | refine Below.setCell ?_ (by first | omega | (simp; done) | (simp; omega)) _))⟩
      | true =>
        have C := hide (fun W (h : Rss W noNames _ _ _) => containsString_any noNames s (some ⟨w.heap.size, 0, none⟩) 5 5 W h)
        go_wp2_with (first
          | (go_at_call 57; (with_reducible refine (within_is hin _).mono ?_); rintro e w1 ⟨rfl, rfl⟩)
          | (go_at_call 65; (with_reducible refine (C.out _ (noNames_in w)).mono ?_); rintro e w1 ⟨rfl, rfl⟩))
        go_ret
        exact ⟨ret_bool (by rw [hg.out, hin]; simp), below_new _ _⟩
end Go.Proofs.Ytmdmnchnkfjpjaa
