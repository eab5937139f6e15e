/-
  The walks of FreshName in both texts, and why they end.
-/
import Derived.Test.YtcbgapncmjjmeaaDoorStr
import Derived.Test.YtcbgapncmjjmeaaDoorItoa
import Derived.Test.YtcbgapncmjjmeaaDoorNumR
import Derived.WideShapes
import Derived.Laws.Strings
namespace Go.Proofs.YtcbgapncmjjmeaaDoor
open Go.RowKit
set_option maxRecDepth 100000
set_option linter.unusedVariables false
set_option linter.unusedSimpArgs false

/-- The k-th name tried. -/
def nmV (k : Nat) : ByteArray := ⟨#[118]⟩ ++ itoaS k
def hasV (xs : List ByteArray) (k : Nat) : Bool := xs.any fun x => (nmV k).toList == x.toList
theorem nmV_list (k : Nat) : (nmV k).toList = 118 :: Lib.itoa k := by
  rw [ByteArray.toList_eq, nmV]
  simp [itoaS]
theorem nmV_inj {j k : Nat} (h : (nmV j).toList = (nmV k).toList) : j = k := by
  rw [nmV_list, nmV_list] at h
  injection h with _ h
  have := itoa_inj h
  omega
theorem itoaS_small (n : Int) (h0 : -9223372036854775808 ≤ n) (h1 : n ≤ 9223372036854775807) : (itoaS n).size ≤ 21 := by
  have h := Lib.itoa_length_le n h0 h1
  simpa [itoaS, ByteArray.size] using h
theorem nodup_le : ∀ (l xs : List (List UInt8)), l.Nodup → (∀ x ∈ l, x ∈ xs) → l.length ≤ xs.length
  | [], _, _, _ => by simp
  | a :: l, xs, hn, hs => by
    have ha := hs a (by simp)
    have h1 := List.length_erase_of_mem ha
    have h2 := List.length_pos_of_mem ha
    have hn' := List.nodup_cons.1 hn
    have := nodup_le l (xs.erase a) hn'.2 fun x hx => (List.mem_erase_of_ne (by rintro rfl; exact hn'.1 hx)).2 (hs x (by simp [hx]))
    simp only [List.length_cons]
    omega
theorem nodup_range : ∀ (n : Nat), ((List.range n).map fun j => (nmV (j + 1)).toList).Nodup := by
  intro n
  induction n with
  | zero => simp
  | succ n ih =>
    rw [List.range_succ, List.map_append, List.nodup_append]
    refine ⟨ih, by simp, ?_⟩
    intro x hx y hy e
    simp only [List.map_cons, List.map_nil, List.mem_singleton] at hy
    obtain ⟨j, hj, rfl⟩ := List.mem_map.1 hx
    rw [hy] at e
    have := nmV_inj e
    have := List.mem_range.1 hj
    omega
theorem fresh_bound (xs : List ByteArray) (k : Nat) (h : ∀ j, 1 ≤ j → j < k → hasV xs j = true) : k ≤ xs.length + 1 := by
  have := nodup_le ((List.range (k - 1)).map fun j => (nmV (j + 1)).toList) (xs.map ByteArray.toList) (nodup_range _) (by
    intro x hx
    obtain ⟨j, hj, rfl⟩ := List.mem_map.1 hx
    have hj' := List.mem_range.1 hj
    have := h (j + 1) (by omega) (by omega)
    obtain ⟨y, hy, he⟩ := List.any_eq_true.1 this
    exact List.mem_map.2 ⟨y, hy, (eq_of_beq he).symm⟩)
  simp at this
  omega
/-- The first name that the list does not hold. -/
def GivesV (w : World) (xs : List ByteArray) (e : Ending) (w' : World) : Prop :=
  ∃ k : Nat, 1 ≤ k ∧ (∀ j, 1 ≤ j → j < k → hasV xs j = true) ∧ hasV xs k = false ∧ e = .returned (.string (nmV k)) ∧ Below w.heap.size w w'
theorem fresh_one {xs : List ByteArray} {j k : Nat} (hj : 1 ≤ j) (hk : 1 ≤ k) (aj : ∀ i, 1 ≤ i → i < j → hasV xs i = true) (ak : ∀ i, 1 ≤ i → i < k → hasV xs i = true) (bj : hasV xs j = false) (bk : hasV xs k = false) : j = k := by
  rcases Nat.lt_trichotomy j k with h | h | h
  · rw [ak j hj h] at bj; cases bj
  · exact h
  · rw [aj k hk h] at bk; cases bk
theorem fIdx_lt (p : ByteArray → Bool) (xs : List ByteArray) : decide (fIdx p xs < 0) = !xs.any p := by
  rw [← fIdx_ge p xs]
  by_cases h : fIdx p xs < 0
  · simp [h]
  · simp [h]; omega

set_option maxHeartbeats 1600000 in
theorem specFresh_any (xs : List ByteArray) (a : Option Addr) (n cap : Nat) (w : World) (h : Rss w xs a n cap) (hl : xs.length ≤ 1048576) : Calls Tryd.prog 18 #[.slice a n cap] w (GivesV w xs) := by
  go_enter Tryd.func18, Tryd.ntmps18
  go_wp2_with fail
  go_loopw [3] (fun i wr => ∃ k : Nat, 1 ≤ k ∧ i = .int .i64 k ∧ Hid (∀ j, 1 ≤ j → j < k → hasV xs j = true) ∧ Below w.heap.size w wr) (fun i _ => 1048580 - (intOf i).toNat)
  case atStart => exact ⟨1, by omega, rfl, fun j h1 h2 => by omega, Below.refl _ _⟩
  case round =>
    obtain ⟨k, hk, rfl, HV, hb⟩ := hrel
    have hkb := fresh_bound xs k HV.out
    have C1 := hide (specFormatInt_any (k : Int) wr ⟨by omega, by omega⟩)
    have hsm := itoaS_small (k : Int) (by omega) (by omega)
    have C2 := hide (fun W (hW : Below wr.heap.size wr W) => specIndexOf_any xs (nmV k) a n cap W ((h.below hb).below hW))
    have hnm : (⟨#[118]⟩ : ByteArray) ++ itoaS (k : Int) = nmV k := rfl
    have hge := fIdx_lt (fun x => (nmV k).toList == x.toList) xs
    obtain ⟨i, hi⟩ : ∃ i, fIdx (fun x => (nmV k).toList == x.toList) xs = i := ⟨_, rfl⟩
    have hge2 : decide (i < 0) = !hasV xs k := by rw [← hi]; exact hge
    have C3 : Hid (∀ W, Below wr.heap.size wr W → Calls Tryd.prog 52 #[.slice a n cap, .string (nmV k)] W fun e w' => e = .returned (.int .i64 i) ∧ W = w') := fun W hW => by rw [← hi]; exact C2.out W hW
    clear C2 hge hi
    cases hv : hasV xs k with
    | false =>
      rw [hv] at hge2
      generalize itoaS (k : Int) = x at C1 hsm hnm
      have hnm2 := hide hnm
      generalize hq : nmV k = q at hnm C3
      go_wp2_with (first
        | (go_at_call 11; (with_reducible refine C1.out.mono ?_); rintro e w1 ⟨rfl, b1⟩)
        | (go_at_call 52; (with_reducible refine (C3.out _ b1).mono ?_); rintro e w2 ⟨rfl, rfl⟩))
      go_ret
      exact ⟨k, hk, HV.out, hv, (by rw [hq]; rfl), below_next hb b1⟩
    | true =>
      rw [hv] at hge2
      generalize itoaS (k : Int) = x at C1 hsm hnm
      generalize hq : nmV k = q at hnm C3
      go_wp2_with (first
        | (go_at_call 11; (with_reducible refine C1.out.mono ?_); rintro e w1 ⟨rfl, b1⟩)
        | (go_at_call 52; (with_reducible refine (C3.out _ b1).mono ?_); rintro e w2 ⟨rfl, rfl⟩))
      go_roundw
      case rel =>
        refine ⟨k + 1, by omega, by go_num, fun j h1 h2 => ?_, below_next hb b1⟩
        by_cases hj : j < k
        · exact HV.out j h1 hj
        · obtain rfl : j = k := by omega
          exact hv
      case measure => simp [intOf]; omega
set_option maxHeartbeats 1600000 in
theorem implFresh_any (xs : List ByteArray) (a : Option Addr) (n cap : Nat) (w : World) (h : Rss w xs a n cap) (hl : xs.length ≤ 1048576) (ht : Tab w) : Calls Tryd.prog 53 #[.string ⟨#[118]⟩, .slice a n cap] w (GivesV w xs) := by
  go_enter Tryd.func53, Tryd.ntmps53
  go_wp2_with fail
  go_loopw [5] (fun i wr => ∃ k : Nat, 1 ≤ k ∧ i = .int .i64 k ∧ Hid (∀ j, 1 ≤ j → j < k → hasV xs j = true) ∧ Below w.heap.size w wr) (fun i _ => 1048580 - (intOf i).toNat)
  case atStart => exact ⟨1, by omega, rfl, fun j h1 h2 => by omega, Below.refl _ _⟩
  case round =>
    obtain ⟨k, hk, rfl, HV, hb⟩ := hrel
    have hkb := fresh_bound xs k HV.out
    have C1 := hide (implFormatInt_any (k : Int) wr ⟨by omega, by omega⟩ (ht.below hb))
    have hsm := itoaS_small (k : Int) (by omega) (by omega)
    have C3 : Hid (∀ W, Below wr.heap.size wr W → Calls Tryd.prog 64 #[.slice a n cap, .string (nmV k)] W fun e w' => e = .returned (.bool (hasV xs k)) ∧ W = w') := fun W hW => containsString_any xs (nmV k) a n cap W ((h.below hb).below hW)
    have hnm : (⟨#[118]⟩ : ByteArray) ++ itoaS (k : Int) = nmV k := rfl
    cases hv : hasV xs k with
    | false =>
      rw [hv] at C3
      generalize itoaS (k : Int) = x at C1 hsm hnm
      generalize hq : nmV k = q at hnm C3
      go_wp2_with (first
        | (go_at_call 12; (with_reducible refine C1.out.mono ?_); rintro e w1 ⟨rfl, b1⟩)
        | (go_at_call 64; (with_reducible refine (C3.out _ b1).mono ?_); rintro e w2 ⟨rfl, rfl⟩))
      go_ret
      exact ⟨k, hk, HV.out, hv, (by rw [hq]; rfl), below_next hb b1⟩
    | true =>
      rw [hv] at C3
      generalize itoaS (k : Int) = x at C1 hsm hnm
      generalize hq : nmV k = q at hnm C3
      go_wp2_with (first
        | (go_at_call 12; (with_reducible refine C1.out.mono ?_); rintro e w1 ⟨rfl, b1⟩)
        | (go_at_call 64; (with_reducible refine (C3.out _ b1).mono ?_); rintro e w2 ⟨rfl, rfl⟩))
      go_roundw
      case rel =>
        refine ⟨k + 1, by omega, by go_num, fun j h1 h2 => ?_, below_next hb b1⟩
        by_cases hj : j < k
        · exact HV.out j h1 hj
        · obtain rfl : j = k := by omega
          exact hv
      case measure => simp [intOf]; omega
theorem implFreshName_any (xs : List ByteArray) (a : Option Addr) (n cap : Nat) (w : World) (h : Rss w xs a n cap) (hl : xs.length ≤ 1048576) (ht : Tab w) : Calls Tryd.prog 20 #[.slice a n cap] w (GivesV w xs) := by
  have C := hide (implFresh_any xs a n cap w h hl ht)
  go_enter Tryd.func20, Tryd.ntmps20
  go_wp2_with (go_at_call 53; (with_reducible refine C.out.mono ?_); rintro e w1 ⟨k, hk, hv, hf, rfl, b1⟩)
  go_ret
  exact ⟨k, hk, hv, hf, rfl, b1⟩
end Go.Proofs.YtcbgapncmjjmeaaDoor
