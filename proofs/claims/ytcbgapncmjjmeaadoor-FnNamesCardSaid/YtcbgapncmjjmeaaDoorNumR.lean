/-
  Plain law: a decimal numeral is read back to its number, and to no other.
-/
import Derived.Lib.ItoaNum
import Derived.Lib.ItoaMem
import Derived.Lib.ItoaLen
import Derived.Lib.AtoiTie
namespace Go.Proofs.YtcbgapncmjjmeaaDoor
open Go.Lib
set_option linter.unusedVariables false

theorem decFrom_append : ∀ (l r : List UInt8) (acc : Nat), decFrom acc (l ++ r) = (decFrom acc l).bind fun n => decFrom n r
  | [], _, _ => rfl
  | b :: l, r, acc => by
    simp only [List.cons_append, decFrom]
    cases digitVal b with
    | none => rfl
    | some d => exact decFrom_append l r _
theorem digitVal_of (k : Nat) (h : k < 10) : digitVal (UInt8.ofNat (48 + k)) = some k := by
  have e : (UInt8.ofNat (48 + k)).toNat = 48 + k := by rw [UInt8.toNat_ofNat']; omega
  rw [digitVal, e, if_pos (by omega)]
  congr 1
  omega
theorem decFrom_digits (u : Nat) : decFrom 0 (decDigits u) = some u := by
  induction u using Nat.strongRecOn with
  | _ u ih =>
    rw [decDigits]
    split
    · rename_i h
      simp only [decFrom, digitVal_of u h]
      congr 1
      omega
    · rename_i h
      rw [decFrom_append, ih (u / 10) (by omega)]
      simp only [Option.bind_some, decFrom, digitVal_of (u % 10) (Nat.mod_lt _ (by omega))]
      congr 1
      omega
theorem decDigits_ne (u : Nat) : decDigits u ≠ [] := by
  have h1 := decDigits_length u
  have h2 := nDigits_pos u
  intro h
  rw [h] at h1
  simp at h1
  omega
theorem decDigits_len : ∀ (d u : Nat), 1 ≤ d → u < 10 ^ d → (decDigits u).length ≤ d
  | 0, _, h, _ => by omega
  | d + 1, u, _, hu => by
    rw [decDigits_length]
    by_cases h : u < 10
    · rw [nDigits_small h]; omega
    · rw [nDigits_big h]
      have hd : 1 ≤ d := by
        rcases Nat.eq_zero_or_pos d with rfl | h0
        · simp at hu; omega
        · exact h0
      have := decDigits_len d (u / 10) hd (by rw [Nat.pow_succ] at hu; omega)
      rw [decDigits_length] at this
      omega
theorem decDigits_head (u : Nat) : ∃ b r, decDigits u = b :: r ∧ 48 ≤ b.toNat ∧ b.toNat ≤ 57 := by
  cases h : decDigits u with
  | nil => exact absurd h (decDigits_ne u)
  | cons b r =>
    obtain ⟨d, hd⟩ := digit_of_decFrom _ _ _ (decFrom_digits u) 0 b (by rw [h]; rfl)
    have := digitVal_eq hd
    exact ⟨b, r, rfl, this.1, this.2.1⟩

/-- A numeral by its sign. -/
def numeral (g : Bool) (u : Nat) : List UInt8 := if g then 45 :: decDigits u else decDigits u
def signed' (g : Bool) (u : Nat) : Int := if g then -(u : Int) else (u : Int)
theorem itoa_neg' (n : Int) (h : n < 0) : ∃ u : Nat, n = -(u : Int) ∧ itoa n = 45 :: decDigits u := ⟨n.natAbs, by omega, by rw [itoa, if_pos h]⟩
theorem itoa_pos' (n : Int) (h : ¬ n < 0) : ∃ u : Nat, n = (u : Int) ∧ itoa n = decDigits u := ⟨n.toNat, by omega, by rw [itoa, if_neg h]⟩

theorem atoi_itoa (n : Int) : atoi (itoa n) = some n := by
  by_cases h : n < 0
  · obtain ⟨u, rfl, e⟩ := itoa_neg' n h
    rw [e]
    have hne : (decDigits u).isEmpty = false := by simpa using decDigits_ne u
    simp [atoi, decNat, hne, decFrom_digits]
  · obtain ⟨u, rfl, e⟩ := itoa_pos' n h
    rw [e]
    obtain ⟨b, r, e2, h1, h2⟩ := decDigits_head u
    have h3 := decFrom_digits u
    rw [e2] at h3 ⊢
    have e45 : (b == 45) = false := by
      rw [beq_eq_false_iff_ne]
      rintro rfl
      simp at h1
    have e43 : (b == 43) = false := by
      rw [beq_eq_false_iff_ne]
      rintro rfl
      simp at h1
    simp [atoi, decNat, e45, e43, h3]
theorem itoa_inj {n m : Int} (h : itoa n = itoa m) : n = m := by
  have h1 := atoi_itoa n
  rw [h, atoi_itoa m] at h1
  exact (Option.some.inj h1).symm

/-- What a string reads as within bounds: the number whose numeral it is; else nothing. -/
def Reads (lo hi : Int) (s : ByteArray) (n : Int) (b : Bool) : Prop :=
  (s.data.toList = itoa n ∧ lo ≤ n ∧ n ≤ hi ∧ b = true) ∨ ((∀ m, lo ≤ m → m ≤ hi → s.data.toList ≠ itoa m) ∧ n = 0 ∧ b = false)
theorem Reads.unique {lo hi : Int} {s : ByteArray} {n m : Int} {b c : Bool} (h : Reads lo hi s n b) (k : Reads lo hi s m c) : n = m ∧ b = c := by
  rcases h with ⟨h1, h2, h3, rfl⟩ | ⟨h1, rfl, rfl⟩ <;> rcases k with ⟨k1, k2, k3, rfl⟩ | ⟨k1, rfl, rfl⟩
  · exact ⟨itoa_inj (h1.symm.trans k1), rfl⟩
  · exact absurd h1 (k1 _ h2 h3)
  · exact absurd k1 (h1 _ k2 k3)
  · exact ⟨rfl, rfl⟩

/-- Whose numeral has a sign. -/
theorem itoa_signed {s : List UInt8} {n : Int} (h : 45 :: s = itoa n) : ∃ u : Nat, n = -(u : Int) ∧ s = decDigits u ∧ 0 < u := by
  by_cases hn : n < 0
  · obtain ⟨u, rfl, e⟩ := itoa_neg' n hn
    rw [e] at h
    exact ⟨u, rfl, by injection h, by omega⟩
  · obtain ⟨u, rfl, e⟩ := itoa_pos' n hn
    obtain ⟨b, r, e2, h1, h2⟩ := decDigits_head u
    rw [e, e2] at h
    injection h with h3
    subst h3
    simp at h1
theorem itoa_plain {s : List UInt8} {n : Int} (h : s = itoa n) (h45 : s.head? ≠ some 45) : ∃ u : Nat, n = (u : Int) ∧ s = decDigits u := by
  by_cases hn : n < 0
  · obtain ⟨u, rfl, e⟩ := itoa_neg' n hn
    rw [e] at h
    subst h
    simp at h45
  · obtain ⟨u, rfl, e⟩ := itoa_pos' n hn
    exact ⟨u, rfl, h.trans e⟩
/-- No numeral within d digits: the body is empty, too long, or holds a byte that is no digit. -/
theorem no_numeral {s : List UInt8} {d : Nat} {lo hi : Int} (hd : 1 ≤ d) (hlo : -(10 ^ d : Nat) < lo) (hhi : hi < (10 ^ d : Nat)) {g : Bool} {r : List UInt8} (hs : s = if g then 45 :: r else r) (hg : g = false → r.head? ≠ some 45)
    (hbad : r.length < 1 ∨ d < r.length ∨ decFrom 0 r = none) : ∀ m, lo ≤ m → m ≤ hi → s ≠ itoa m := by
  intro m hm1 hm2 e
  have key : ∀ u : Nat, u < 10 ^ d → r ≠ decDigits u := by
    rintro u hu rfl
    rcases hbad with h | h | h
    · have := decDigits_ne u
      exact this (by simpa using h)
    · have := decDigits_len d u hd hu
      omega
    · rw [decFrom_digits] at h
      cases h
  cases g with
  | true =>
    subst hs
    obtain ⟨u, rfl, e2, -⟩ := itoa_signed e
    exact key u (by omega) e2
  | false =>
    subst hs
    obtain ⟨u, rfl, e2⟩ := itoa_plain e (hg rfl)
    exact key u (by omega) e2
/-- The body reads as u: the numeral can be none but u's, with the sign. -/
theorem only_numeral {s : List UInt8} {g : Bool} {r : List UInt8} (hs : s = if g then 45 :: r else r) (hg : g = false → r.head? ≠ some 45) {u : Nat} (hu : decFrom 0 r = some u) {m : Int} (e : s = itoa m) : m = if g then -(u : Int) else (u : Int) := by
  cases g with
  | true =>
    subst hs
    obtain ⟨v, rfl, rfl, -⟩ := itoa_signed e
    rw [decFrom_digits] at hu
    injection hu with hu
    subst hu
    rfl
  | false =>
    obtain rfl : s = r := hs
    obtain ⟨v, rfl, e2⟩ := itoa_plain e (hg rfl)
    have e3 : s = decDigits v := e2
    rw [e3, decFrom_digits] at hu
    injection hu with hu
    subst hu
    rfl
/-- What Atoi says of a numeral. -/
theorem atoiAll_itoa {s : List UInt8} {m : Int} (h : s = itoa m) (h1 : -1000000000000 < m) (h2 : m < 1000000000000) : atoiAll s = .ok m := by
  subst h
  have hl : (itoa m).length ≤ 18 := by
    by_cases hn : m < 0
    · obtain ⟨u, rfl, e⟩ := itoa_neg' m hn
      rw [e]
      have := decDigits_len 12 u (by omega) (by omega)
      simp
      omega
    · obtain ⟨u, rfl, e⟩ := itoa_pos' m hn
      rw [e]
      have := decDigits_len 12 u (by omega) (by omega)
      omega
  rw [atoiAll_short _ hl, atoi_itoa]
  rfl
theorem reads_of_atoi {lo hi : Int} {s : ByteArray} {v : Int} (h : atoiAll s.data.toList = .ok v) (hlo : -1000000000000 < lo) (hhi : hi < 1000000000000) {m : Int} (h1 : lo ≤ m) (h2 : m ≤ hi) (e : s.data.toList = itoa m) : m = v := by
  rw [atoiAll_itoa e (by omega) (by omega)] at h
  injection h
end Go.Proofs.YtcbgapncmjjmeaaDoor
