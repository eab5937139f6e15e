/-
  Types, names and numbers: their walks.
-/
import Derived.Test.YtklifieahcoljaaGreatRep
import Derived.Test.YtklifieahcoljaaGreatRows
import Derived.Laws.IdiomStrings
import Derived.Lib.ItoaNum
import Derived.Lib.LaidTab
import Derived.Lib.ItoaMem
import Derived.Lib.ItoaLen
import Derived.Test.YtklifieahcoljaaGreatStr
import Derived.Test.YtklifieahcoljaaGreatNum
import Derived.Test.YtklifieahcoljaaGreatSz
import Derived.Test.YtklifieahcoljaaGreatValTy0
import Derived.Test.YtklifieahcoljaaGreatPlain
import Derived.LoopTactic
import Derived.Outline
import Derived.Deep.RegionHeld3
import Derived.Deep.RegionWith
namespace Go.Proofs.YtklifieahcoljaaGreat
open Go.RowKit
set_option maxRecDepth 100000
set_option linter.unusedVariables false
set_option linter.unusedSimpArgs false


/-- The last digit. -/
def dg (k : Nat) : UInt8 := UInt8.ofNat (48 + k % 10)
theorem dg_nat (k : Nat) : (dg k).toNat = 48 + k % 10 := by
  rw [dg, UInt8.toNat_ofNat']
  omega
/-- The digits still to come. -/
def more (q : Nat) : List UInt8 := if q = 0 then [] else Lib.decDigits q
theorem more_step {q : Nat} (h : 0 < q) (s : ByteArray) : more (q / 10) ++ (⟨#[dg q]⟩ ++ s : ByteArray).data.toList = more q ++ s.data.toList := by
  have e : (⟨#[dg q]⟩ ++ s : ByteArray).data.toList = dg q :: s.data.toList := by simp
  rw [e]
  have e2 : more q = more (q / 10) ++ [dg q] := by
    rw [more, if_neg (by omega), Lib.decDigits]
    by_cases h10 : q < 10
    · rw [dif_pos h10, more, if_pos (by omega), dg]
      simp
      congr 2
      omega
    · rw [dif_neg h10, more, if_neg (by omega), dg]
  rw [e2]
  simp
/-- One digit as a text. -/
theorem one_digit {P : Program} (w : World) (src dst e : TypeId) (hs : P.underlying src = some (.slice e)) (he : P.underlying e = some (.int .u8)) (hd : P.underlying dst = some .string) (q : Nat) (v : Int) (hv : v = 48 + ((q % 10 : Nat) : Int)) :
    Sem.run P (convert src dst (.slice (some ⟨w.heap.size, 0, none⟩) 1 1)) (w.alloc (.cells #[.int .u8 v] e)) =
      .ok (.string ⟨#[dg q]⟩) (w.alloc (.cells #[.int .u8 v] e)) := by
  have h := run_convert_bytes_back (P := P) (w.alloc (.cells #[.int .u8 v] e)) src dst e ⟨w.heap.size, 0, none⟩ 1 [dg q] hs he hd (fun j hj => by
    have : j = 0 := by simpa using hj
    subst this
    have hc := (Blk.new w e #[.int .u8 v]).cell 0
    simp only [Addr.add_lit, Nat.add_zero, List.getElem_cons_zero]
    rw [hc, dg_nat, hv]
    simp)
  exact h
def itoaS (n : Int) : ByteArray := ⟨(Lib.itoa n).toArray⟩

set_option maxHeartbeats 1600000 in
theorem specFormatInt_pos (n : Nat) (w : World) (hn : 0 < n) (h64 : n ≤ 9223372036854775807) : Calls Tryz.prog 126 #[.int .i64 (n : Int)] w fun e w' => e = .returned (.string (itoaS n)) ∧ Below w.heap.size w w' := by
  have hf : Hid ((itoaS n).data.toList = more n) := by
    unfold Hid
    simp only [itoaS, Lib.itoa, more]
    rw [if_neg (by omega), if_neg (by omega)]
    simp
  have hneg : decide ((n : Int) < 0) = false := by simp
  have hne : ((n : Int) == 0) = false := by simp; omega
  have hml : (more n).length ≤ 21 := by
    rw [← hf.out]
    have := Lib.itoa_length_le (n := (n : Int)) (by omega) (by omega)
    simpa [itoaS] using this
  go_enter Tryz.func126, Tryz.ntmps126
  go_wp2_with fail
  go_loopw [0, 4, 5] (fun c o d wr => ∃ q : Nat, q ≤ n ∧ c = .int .i64 (q : Int) ∧ (∃ s : ByteArray, o = .string s ∧ Hid (more q ++ s.data.toList = more n)) ∧ Below w.heap.size w wr) (fun c _ _ _ => (intOf c).toNat)
  case atStart => exact ⟨n, by omega, rfl, ⟨⟨#[]⟩, rfl, by simp [Hid]⟩, Below.refl _ _⟩
  case round =>
    obtain ⟨q, hq, rfl, ⟨s, rfl, Hs⟩, hb⟩ := hrel
    have hsz := hb.size
    by_cases hq0 : q = 0
    · subst hq0
      go_wp2_with fail
      go_ret
      refine ⟨ret_string ?_, hb⟩
      have h3 := Hs.out
      rw [← hf.out] at h3
      simp [more] at h3
      exact ByteArray.ext h3
    · have hs : s.size ≤ 30 := by
        have h3 := congrArg List.length Hs.out
        rw [List.length_append] at h3
        have : s.data.toList.length = s.size := rfl
        omega
      have hcv := one_digit (P := Tryz.prog) wr 22 9 5 Tryz.underlying22 Tryz.underlying5 Tryz.underlying9 q (48 + (q : Int) % 10) (by omega)
      have hdiv : ((q / 10 : Nat) : Int) = (q : Int) / 10 := by omega
      have hstep := hide (more_step (q := q) (by omega) s)
      replace hdiv := hide hdiv
      have hd0 : decide ((q : Int) % 10 < 0) = false := by simp; omega
      go_wp2_with fail
      go_roundw
      case rel =>
        refine ⟨q / 10, by omega, by rw [hdiv.out], ⟨_, rfl, ?_⟩, hb.alloc hsz _⟩
        rw [Hid, hstep.out]
        exact Hs.out
      case measure => simp [intOf]; omega
set_option maxHeartbeats 1600000 in
theorem specFormatInt_neg (n : Nat) (w : World) (hn : 0 < n) (h64 : n ≤ 9223372036854775808) : Calls Tryz.prog 126 #[.int .i64 (-(n : Int))] w fun e w' => e = .returned (.string (itoaS (-(n : Int)))) ∧ Below w.heap.size w w' := by
  have hf : Hid ((itoaS (-(n : Int))).data.toList = 45 :: more n) := by
    unfold Hid
    simp only [itoaS, Lib.itoa, more]
    rw [if_pos (by omega), if_neg (by omega)]
    simp
  have hneg : decide (-(n : Int) < 0) = true := by simp; omega
  have hne : (-(n : Int) == 0) = false := by simp; omega
  have hml : (more n).length ≤ 21 := by
    have := Lib.itoa_length_le (n := -(n : Int)) (by omega) (by omega)
    have h2 : (Lib.itoa (-(n : Int))).length = (more n).length + 1 := by
      have := congrArg List.length hf.out
      simpa [itoaS] using this
    omega
  go_enter Tryz.func126, Tryz.ntmps126
  go_wp2_with fail
  go_loopw [0, 4, 5] (fun c o d wr => ∃ q : Nat, q ≤ n ∧ c = .int .i64 (-(q : Int)) ∧ (∃ s : ByteArray, o = .string s ∧ Hid (more q ++ s.data.toList = more n)) ∧ Below w.heap.size w wr) (fun c _ _ _ => (intOf c).natAbs)
  case atStart => exact ⟨n, by omega, rfl, ⟨⟨#[]⟩, rfl, by simp [Hid]⟩, Below.refl _ _⟩
  case round =>
    obtain ⟨q, hq, rfl, ⟨s, rfl, Hs⟩, hb⟩ := hrel
    have hsz := hb.size
    have hs : s.size ≤ 30 := by
      have h3 := congrArg List.length Hs.out
      rw [List.length_append] at h3
      have : s.data.toList.length = s.size := rfl
      omega
    by_cases hq0 : q = 0
    · subst hq0
      have hz : (-((0 : Nat) : Int) != 0) = false := by simp
      go_wp2_with fail
      go_ret
      refine ⟨ret_string ?_, hb⟩
      have h3 : s.data.toList = more n := by
        have := Hs.out
        simpa [more] using this
      refine ByteArray.ext (Array.ext' ?_)
      rw [hf.out, ← h3]
      simp
    · have hz : (-(q : Int) != 0) = true := by simp; omega
      have e1 : (-(q : Int)).tmod 10 = -((q : Int) % 10) := by rw [Int.neg_tmod, Int.tmod_eq_emod_of_nonneg (by omega)]
      have e2 : (-(q : Int)).tdiv 10 = -((q : Int) / 10) := by rw [Int.neg_tdiv, Int.tdiv_eq_ediv_of_nonneg (by omega)]
      have hdiv : -((q / 10 : Nat) : Int) = -((q : Int) / 10) := by omega
      have hstep := hide (more_step (q := q) (by omega) s)
      replace hdiv := hide hdiv
      by_cases h10 : (q : Int) % 10 = 0
      · have hd0 : decide (-((q : Int) % 10) < 0) = false := by simp; omega
        have hcv := one_digit (P := Tryz.prog) wr 22 9 5 Tryz.underlying22 Tryz.underlying5 Tryz.underlying9 q 48 (by omega)
        go_wp2_with fail
        go_roundw
        case rel =>
          refine ⟨q / 10, by omega, by rw [hdiv.out], ⟨_, rfl, ?_⟩, hb.alloc hsz _⟩
          rw [Hid, hstep.out]
          exact Hs.out
        case measure => simp [intOf]; omega
      · have hd0 : decide (-((q : Int) % 10) < 0) = true := by simp; omega
        have hcv := one_digit (P := Tryz.prog) wr 22 9 5 Tryz.underlying22 Tryz.underlying5 Tryz.underlying9 q (48 + (q : Int) % 10) (by omega)
        go_wp2_with fail
        go_roundw
        case rel =>
          refine ⟨q / 10, by omega, by rw [hdiv.out], ⟨_, rfl, ?_⟩, hb.alloc hsz _⟩
          rw [Hid, hstep.out]
          exact Hs.out
        case measure => simp [intOf]; omega
theorem specFormatInt_any (n : Int) (w : World) (hn : i64 n) : Calls Tryz.prog 126 #[.int .i64 n] w fun e w' => e = .returned (.string (itoaS n)) ∧ Below w.heap.size w w' := by
  obtain ⟨h0, h1⟩ := hn
  rcases Int.lt_trichotomy n 0 with h | rfl | h
  · obtain ⟨m, rfl⟩ : ∃ m : Nat, n = -(m : Int) := ⟨n.natAbs, by omega⟩
    exact specFormatInt_neg m w (by omega) (by omega)
  · go_enter Tryz.func126, Tryz.ntmps126
    go_wp2_with fail
    go_ret
    refine ⟨ret_string ?_, Below.refl _ _⟩
    have : Lib.itoa 0 = [48] := by
      rw [Lib.itoa, if_neg (by omega)]
      exact Lib.decDigits_one (i := 0) (by omega)
    rw [itoaS, this]
  · obtain ⟨m, rfl⟩ : ∃ m : Nat, n = (m : Int) := ⟨n.toNat, by omega⟩
    exact specFormatInt_pos m w (by omega) (by omega)
theorem below_sortgrow (w : World) (k : Nat) (os : Array Obj) : Below w.heap.size w (Sort.grow (w.drewN k) os) :=
  ⟨rfl, rfl, rfl, by simp [Sort.grow, World.drewN], fun j hj => by simp only [Sort.grow, World.drewN]; exact Array.getElem?_append_left hj⟩
end Go.Proofs.YtklifieahcoljaaGreat

namespace Go.Proofs.YtklifieahcoljaaGreat
open Go.RowKit
set_option linter.unusedVariables false
set_option linter.unusedSimpArgs false

/-- A byte that a name may have at this place: a small letter, or behind the first place a digit. -/
def NameByte (i c : Nat) : Prop := (97 ≤ c ∧ c ≤ 122) ∨ (i ≠ 0 ∧ 48 ≤ c ∧ c ≤ 57)
instance (i c : Nat) : Decidable (NameByte i c) := by unfold NameByte; infer_instance
def NameBytes (s : ByteArray) : Prop := ∀ i (h : i < s.size), NameByte i s[i].toNat
instance (s : ByteArray) : Decidable (NameBytes s) := by unfold NameBytes; infer_instance
/-- The words that are no names. -/
def noNames : List ByteArray := [⟨#[105, 102]⟩, ⟨#[108, 101, 116]⟩, ⟨#[108, 105, 102, 116]⟩, ⟨#[114, 101, 99]⟩, ⟨#[114, 117, 110]⟩]
def isName (s : ByteArray) : Bool := decide (NameBytes s) && (inB s.size 1 4 && !(noNames.any fun x => s.toList == x.toList))
theorem isName_bad {s : ByteArray} {j : Nat} (hj : j < s.size) (h : ¬ NameByte j s[j].toNat) : isName s = false := by
  have : ¬ NameBytes s := fun hn => h (hn j hj)
  simp [isName, this]
theorem isName_good {s : ByteArray} (h : NameBytes s) : isName s = (inB s.size 1 4 && !(noNames.any fun x => s.toList == x.toList)) := by
  simp [isName, h]

set_option maxHeartbeats 1600000 in
theorem specIsName_any (s : ByteArray) (w : World) (hs : s.size ≤ 1048576) : Calls Tryz.prog 109 #[.string s] w fun e w' => e = .returned (.bool (isName s)) ∧ Below w.heap.size w w' := by
  go_enter Tryz.func109, Tryz.ntmps109
  go_wp2_with fail
  go_loopw [3] (fun i wr => ∃ j : Nat, j ≤ s.size ∧ i = .int .i64 j ∧ Hid (∀ i (h : i < s.size), i < j → NameByte i s[i].toNat) ∧ w = wr) (fun i _ => s.size - (intOf i).toNat)
  case atStart => exact ⟨0, by omega, rfl, fun i _ hi => by omega, rfl⟩
  case round =>
    obtain ⟨j, hj, rfl, HR, rfl⟩ := hrel
    by_cases hjn : j < s.size
    · have step : NameByte j s[j].toNat → Hid (∀ i (h : i < s.size), i < j + 1 → NameByte i s[i].toNat) := fun hb i hi hij => by
        by_cases hij' : i < j
        · exact HR.out i hi hij'
        · obtain rfl : i = j := by omega
          exact hb
      have bad : ¬ NameByte j s[j].toNat → isName s = false := isName_bad hjn
      go_wp2_with fail
      all_goals first
        | (go_ret
           exact ⟨ret_bool (bad (by unfold NameByte; simp at *; omega)).symm, Below.refl _ _⟩)
        | (refine ⟨⟨j + 1, by omega, by (first | go_num | (simp_all; done)), step (by unfold NameByte; simp at *; omega), by trivial⟩, ?_⟩
           simp [intOf]
           omega)
        | (exfalso; subst_vars; simp at *; omega)
    · have hg := hide (isName_good fun i hi => HR.out i hi (by omega))
      cases hin : inB s.size 1 4 with
      | false =>
        go_wp2_with (go_at_call 55; (with_reducible refine (l1In_is hin _).mono ?_); rintro e w1 ⟨rfl, rfl⟩)
        go_ret
        exact ⟨ret_bool (by rw [hg.out, hin]; rfl), Below.refl _ _⟩
      | true =>
        go_wp2_with (go_at_call 55; (with_reducible refine (l1In_is hin _).mono ?_); rintro e w1 ⟨rfl, rfl⟩)
        all_goals go_ret
        all_goals refine ⟨ret_bool ?_, Below.refl _ _⟩
        all_goals
          rw [hg.out, hin]
          simp_all [noNames]
          try (simp [Bool.and_assoc, Bool.and_comm, Bool.and_left_comm]; done)
theorem noNames_in (w : World) : Rss (w.alloc (.cells #[.string ⟨#[105, 102]⟩, .string ⟨#[108, 101, 116]⟩, .string ⟨#[108, 105, 102, 116]⟩, .string ⟨#[114, 101, 99]⟩, .string ⟨#[114, 117, 110]⟩] 9)) noNames (some ⟨w.heap.size, 0, none⟩) 5 5 := by
  refine ⟨rfl, Nat.le_refl _, by unfold maxLen; omega, ?_, .inr ⟨by simp [noNames], _, 0, rfl, fun i hi => ?_⟩⟩
  · intro x hx
    simp only [noNames, List.mem_cons, List.not_mem_nil, or_false] at hx
    rcases hx with rfl | rfl | rfl | rfl | rfl <;> (simp [ByteArray.size])
  · rw [Nat.zero_add, (Blk.new w _ _).cell]
    match i, hi with
    | 0, _ => rfl
    | 1, _ => rfl
    | 2, _ => rfl
    | 3, _ => rfl
    | 4, _ => rfl
    | n + 5, h => exact absurd h (by simp [noNames])
set_option maxHeartbeats 1600000 in
theorem implIsName_any (s : ByteArray) (w : World) (hs : s.size ≤ 1048576) : Calls Tryz.prog 103 #[.string s] w fun e w' => e = .returned (.bool (isName s)) ∧ Below w.heap.size w w' := by
  go_enter Tryz.func103, Tryz.ntmps103
  go_wp2_with fail
  go_loopw [7] (fun i wr => ∃ j : Nat, j ≤ s.size ∧ i = .int .i64 j ∧ Hid (∀ i (h : i < s.size), i < j → NameByte i s[i].toNat) ∧ w = wr) (fun i _ => s.size - (intOf i).toNat)
  case atStart => exact ⟨0, by omega, rfl, fun i _ hi => by omega, rfl⟩
  case round =>
    obtain ⟨j, hj, rfl, HR, rfl⟩ := hrel
    by_cases hjn : j < s.size
    · have step : NameByte j s[j].toNat → Hid (∀ i (h : i < s.size), i < j + 1 → NameByte i s[i].toNat) := fun hb i hi hij => by
        by_cases hij' : i < j
        · exact HR.out i hi hij'
        · obtain rfl : i = j := by omega
          exact hb
      have bad : ¬ NameByte j s[j].toNat → isName s = false := isName_bad hjn
      go_wp2_with fail
      all_goals first
        | (go_ret
           exact ⟨ret_bool (bad (by unfold NameByte; simp at *; omega)).symm, Below.refl _ _⟩)
        | (refine ⟨⟨j + 1, by omega, by (first | go_num | (simp_all; done)), step (by unfold NameByte; simp at *; omega), by trivial⟩, ?_⟩
           simp [intOf]
           omega)
        | (exfalso; subst_vars; simp at *; omega)
    · have hg := hide (isName_good fun i hi => HR.out i hi (by omega))
      cases hin : inB s.size 1 4 with
      | false =>
        go_wp2_with (go_at_call 24; (with_reducible refine (within_is hin _).mono ?_); rintro e w1 ⟨rfl, rfl⟩)
        go_ret
        exact ⟨ret_bool (by rw [hg.out, hin]; rfl), (by repeat (first | exact Below.refl _ _ | assumption | refine Below.drew ?_ | refine below_drewN ?_ _ | refine Below.alloc ?_ (by first | omega | (simp; done) | (simp; omega)) _ | refine Below.setCell ?_ (by first | omega | (simp; done) | (simp; omega)) _))⟩
      | true =>
        have C := hide (fun W (h : Rss W noNames _ _ _) => containsString_any noNames s (some ⟨w.heap.size, 0, none⟩) 5 5 W h)
        go_wp2_with (first
          | (go_at_call 24; (with_reducible refine (within_is hin _).mono ?_); rintro e w1 ⟨rfl, rfl⟩)
          | (go_at_call 118; (with_reducible refine (C.out _ (noNames_in w)).mono ?_); rintro e w1 ⟨rfl, rfl⟩))
        go_ret
        exact ⟨ret_bool (by rw [hg.out, hin]; simp), below_new _ _⟩
end Go.Proofs.YtklifieahcoljaaGreat

namespace Go.Proofs.YtklifieahcoljaaGreat
open Go.RowKit
set_option linter.unusedVariables false
set_option linter.unusedSimpArgs false

/-- 1 or 0. -/
def bitI (b : Bool) : Int := if b then 1 else 0
theorem specl1Bit_any (b : Bool) (w : World) : Calls Tryz.prog 36 #[.bool b] w fun e w' => e = .returned (.int .i64 (bitI b)) ∧ w = w' := by
  cases b
  all_goals
    go_enter Tryz.func36, Tryz.ntmps36
    go_wp2
    go_ret
    exact ⟨rfl, rfl⟩
theorem implbit_any (b : Bool) (w : World) : Calls Tryz.prog 63 #[.bool b] w fun e w' => e = .returned (.int .i64 (bitI b)) ∧ w = w' := by
  cases b
  all_goals
    go_enter Tryz.func63, Tryz.ntmps63
    go_wp2
    go_ret
    exact ⟨rfl, rfl⟩
theorem isNumber_is {n : Int} {b : Bool} (h : inB n 0 10006 = b) (w : World) : Calls Tryz.prog 104 #[.int .i64 n] w fun e w' => e = .returned (.bool b) ∧ w = w' := by
  go_enter Tryz.func104, Tryz.ntmps104
  go_wp2_with (go_at_call 24; (with_reducible refine (within_is h _).mono ?_); rintro e w1 ⟨rfl, rfl⟩)
  go_ret
  exact ⟨rfl, rfl⟩
theorem isStage_is {n : Int} {b : Bool} (h : inB n 10 13 = b) (w : World) : Calls Tryz.prog 29 #[.int .i64 n] w fun e w' => e = .returned (.bool b) ∧ w = w' := by
  go_enter Tryz.func29, Tryz.ntmps29
  go_wp2_with (go_at_call 24; (with_reducible refine (within_is h _).mono ?_); rintro e w1 ⟨rfl, rfl⟩)
  go_ret
  exact ⟨rfl, rfl⟩
end Go.Proofs.YtklifieahcoljaaGreat

namespace Go.Proofs.YtklifieahcoljaaGreat
set_option linter.unusedVariables false
theorem lessN_bounds (n : Nat) {left : Int} (h : 0 ≤ left) : -1 ≤ lessN n left ∧ lessN n left ≤ left := by unfold lessN; split <;> omega
theorem lessN_zero {left : Int} (h : 0 ≤ left) : lessN 0 left = left := by rw [lessN_pos (by omega)]; omega
theorem lessN_more {a b : Nat} {left : Int} (h : 0 ≤ lessN a left) : lessN b (lessN a left) = lessN (a + b) left := by
  have h1 := lessN_ge h
  rw [lessN_pos h1]
  unfold lessN
  split <;> split <;> omega
theorem lessN_stop {a c : Nat} {left : Int} (h0 : 0 ≤ left) (h : lessN a (left - 1) < 0) (hl : 0 ≤ left - 1) (hc : a < c) : lessN c left = -1 := by
  have h1 := lessN_lt hl h
  exact lessN_neg (by omega)
theorem lessN_one {a : Nat} {left : Int} : lessN a (left - 1) = lessN (1 + a) left := by
  unfold lessN
  split <;> split <;> omega
theorem lessN_eq_neg {a : Nat} {left : Int} (h0 : 0 ≤ left) (h : lessN a left < 0) : lessN a left = -1 := lessN_neg (lessN_lt h0 h)
end Go.Proofs.YtklifieahcoljaaGreat

namespace Go.Proofs.YtklifieahcoljaaGreat
open Go.RowKit
set_option linter.unusedVariables false
set_option linter.unusedSimpArgs false

set_option maxHeartbeats 800000 in
theorem l3Left_any (t : Ty) : ∀ (c0 c1 : Value) (left : Int) (w : World), Rd w t c0 c1 → 0 ≤ left → left ≤ 1048576 →
    Calls Tryz.prog 106 #[.agg #[c0, c1], .int .i64 left] w fun e w' => e = .returned (.int .i64 (lessN t.size left)) ∧ Below w.heap.size w w' := by
  induction t using Ty.ind with | h k xs ih => ?_
  intro c0 c1 left w h hl0 hl1
  have IH := hide ih
  clear ih
  obtain ⟨a, n, cap, rfl, rfl, hk, hr⟩ := h.shape
  have hn : n ≤ 9223372036854775807 := by obtain ⟨_, h2, h3, _⟩ := hr; unfold maxLen at h3; omega
  by_cases hz : left = 0
  · subst hz
    go_enter Tryz.func106, Tryz.ntmps106
    go_wp2_with fail
    refine wp_loop_rounds 1 ?_
    rw [rounds_succ]
    go_wp2_with fail
    all_goals go_ret
    all_goals exact ⟨ret_int (lessN_neg (by have := Ty.size_pos ⟨k, xs⟩; omega)).symm, (by repeat (first | exact Below.refl _ _ | assumption | refine Below.drew ?_ | refine below_drewN ?_ _ | refine Below.alloc ?_ (by first | omega | (simp; done) | (simp; omega)) _ | refine Below.setCell ?_ (by first | omega | (simp; done) | (simp; omega)) _))⟩
  · go_enter Tryz.func106, Tryz.ntmps106
    go_wp2_with fail
    go_loopw [1, 5] (fun l i wr => ∃ j : Nat, j ≤ n ∧ i = .int .i64 j ∧ (∃ s : Int, l = .int .i64 s ∧ -1 ≤ s ∧ s ≤ left ∧ Hid (s = lessN (Ty.sizes (xs.take j)) (left - 1))) ∧ Blk wr w.heap.size 26 #[.int .i64 k, .slice a n cap] ∧ Below w.heap.size w wr) (fun _ i _ => n - (intOf i).toNat)
    case atStart => exact ⟨0, by omega, rfl, ⟨_, rfl, by omega, by omega, by simp [Hid, Ty.sizes]; rw [lessN_zero (by omega)]⟩, Blk.new _ _ _, (by repeat (first | exact Below.refl _ _ | assumption | refine Below.drew ?_ | refine below_drewN ?_ _ | refine Below.alloc ?_ (by first | omega | (simp; done) | (simp; omega)) _ | refine Below.setCell ?_ (by first | omega | (simp; done) | (simp; omega)) _))⟩
    case round =>
      obtain ⟨j, hj, rfl, ⟨s, rfl, hs1, hs2, Hs⟩, hB, hb⟩ := hrel
      have hsz := hb.size
      obtain ⟨-, v1⟩ := hB.two
      by_cases hjn : j < n
      · have hjx : j < xs.length := by rw [← hr.1]; exact hjn
        by_cases hs0 : 0 ≤ s
        · obtain ⟨b, off, e0, e1, rfl, hlt, q0, q1, hd⟩ := (hr.below hb).get j hjx
          go_wp2_with (go_at_call 106; (with_reducible refine (IH.out _ (List.getElem_mem _) _ _ _ _ hd hs0 (by omega)).mono ?_); rintro e w' ⟨rfl, hb'⟩)
          go_roundw
          case rel =>
            have h3 := Hs.out
            have h4 := lessN_bounds xs[j].size hs0
            refine ⟨j + 1, by omega, by go_num, ⟨_, rfl, h4.1, by omega, ?_⟩, hB.under hb', hb.trans (by repeat (first | exact Below.refl _ _ | refine Below.drew ?_ | refine below_drewN ?_ _ | refine Below.alloc ?_ (by first | omega | (simp; done) | (simp; omega)) _ | refine Below.setCell ?_ (by first | omega | (simp; done) | (simp; omega)) _ | refine Below.trans ?_ (Below.mono hb' (by first | omega | (simp; done) | (simp; omega)))))⟩
            subst h3
            rw [Hid, lessN_more hs0, Ty.sizes_take xs j hjx, Ty.size_eq]
          case measure => simp [intOf]; omega
        · go_wp2
          go_ret
          refine ⟨ret_int ?_, hb⟩
          have h3 := Hs.out
          have h5 := Ty.sizes_take_le xs j
          subst h3
          rw [Ty.size, lessN_eq_neg (by omega) (by omega)]
          exact (lessN_stop hl0 (a := Ty.sizes (xs.take j)) (by omega) (by omega) (by omega)).symm
      · go_wp2
        all_goals go_ret
        all_goals
          refine ⟨ret_int ?_, hb⟩
          have h3 := Hs.out
          have h4 : n = xs.length := hr.1
          rw [List.take_of_length_le (by omega), lessN_one] at h3
          rw [Ty.size]
          exact h3

theorem formed_no {k : Int} {xs : List Ty} (h1 : k ≠ 1) (h2 : k ≠ 2) (h3 : k ≠ 3) (h4 : k ≠ 4) : Ty.formed ⟨k, xs⟩ = false := by
  simp [Ty.formed, h1, h2, h3, h4]

set_option maxHeartbeats 800000 in
theorem l3Form_any (t : Ty) : ∀ (c0 c1 : Value) (w : World), Rd w t c0 c1 →
    Calls Tryz.prog 108 #[.agg #[c0, c1]] w fun e w' => e = .returned (.bool (t.all Ty.formed)) ∧ Below w.heap.size w w' := by
  induction t using Ty.ind with | h k xs ih => ?_
  intro c0 c1 w h
  have IH := hide ih
  clear ih
  obtain ⟨a, n, cap, rfl, rfl, hk, hr⟩ := h.shape
  have hn : n ≤ 9223372036854775807 := by obtain ⟨_, h2, h3, _⟩ := hr; unfold maxLen at h3; omega
  have hall := hide (Ty.all_eq Ty.formed ⟨k, xs⟩)
  go_enter Tryz.func108, Tryz.ntmps108
  go_wp2_with fail
  go_loopw [3] (fun i wr => ∃ j : Nat, j ≤ n ∧ i = .int .i64 j ∧ Hid (∀ i (h : i < xs.length), i < j → xs[i].all Ty.formed = true) ∧ Blk wr w.heap.size 26 #[.int .i64 k, .slice a n cap] ∧ Below w.heap.size w wr) (fun i _ => n - (intOf i).toNat)
  case atStart => exact ⟨0, by omega, rfl, fun i _ hi => by omega, Blk.new _ _ _, (by repeat (first | exact Below.refl _ _ | assumption | refine Below.drew ?_ | refine below_drewN ?_ _ | refine Below.alloc ?_ (by first | omega | (simp; done) | (simp; omega)) _ | refine Below.setCell ?_ (by first | omega | (simp; done) | (simp; omega)) _))⟩
  case round =>
    obtain ⟨j, hj, rfl, HR, hB, hb⟩ := hrel
    have hsz := hb.size
    obtain ⟨v0, v1⟩ := hB.two
    by_cases hjn : j < n
    · have hjx : j < xs.length := by rw [← hr.1]; exact hjn
      obtain ⟨b, off, e0, e1, rfl, hlt, q0, q1, hd⟩ := (hr.below hb).get j hjx
      go_wp2_with (go_at_call 108; (with_reducible refine (IH.out _ (List.getElem_mem _) _ _ _ hd).mono ?_); rintro e w' ⟨rfl, hb'⟩)
      · have hno : xs[j].all Ty.formed = false := by simpa using ‹(!xs[j].all Ty.formed) = true›
        go_ret
        refine ⟨ret_bool ?_, hb.trans (by repeat (first | exact Below.refl _ _ | refine Below.drew ?_ | refine below_drewN ?_ _ | refine Below.alloc ?_ (by first | omega | (simp; done) | (simp; omega)) _ | refine Below.setCell ?_ (by first | omega | (simp; done) | (simp; omega)) _ | refine Below.trans ?_ (Below.mono hb' (by first | omega | (simp; done) | (simp; omega)))))⟩
        rw [hall.out, eq_comm, Bool.and_eq_false_iff]
        exact .inr (all_no hjx hno)
      · have hyes : xs[j].all Ty.formed = true := by simpa using ‹(!xs[j].all Ty.formed) = false›
        go_roundw
        case rel =>
          refine ⟨j + 1, by omega, by go_num, fun i hi hij => ?_, hB.under hb', hb.trans (by repeat (first | exact Below.refl _ _ | refine Below.drew ?_ | refine below_drewN ?_ _ | refine Below.alloc ?_ (by first | omega | (simp; done) | (simp; omega)) _ | refine Below.setCell ?_ (by first | omega | (simp; done) | (simp; omega)) _ | refine Below.trans ?_ (Below.mono hb' (by first | omega | (simp; done) | (simp; omega)))))⟩
          by_cases hij' : i < j
          · exact HR.out i hi hij'
          · obtain rfl : i = j := by omega
            exact hyes
        case measure => simp [intOf]; omega
    · have hx1 : n = xs.length := hr.1
      have hfin : Hid (Ty.all Ty.formed ⟨k, xs⟩ = Ty.formed ⟨k, xs⟩) := by
        have := hall.out
        rw [all_yes fun i hi => HR.out i hi (by omega), Bool.and_true] at this
        exact this
      have HX := hide hx1
      clear hx1
      by_cases h1 : k = 1
      · subst h1
        go_wp2
        go_ret
        exact ⟨ret_bool (by rw [hfin.out]; exact formed_of1 HX.out), hb⟩
      · have f1 : (k == 1) = false := beq_eq_false_iff_ne.2 h1
        by_cases h2 : k = 2
        · subst h2
          go_wp2
          go_ret
          exact ⟨ret_bool (by rw [hfin.out]; exact formed_of2 HX.out), hb⟩
        · have f2 : (k == 2) = false := beq_eq_false_iff_ne.2 h2
          by_cases h3 : k = 3
          · subst h3
            go_wp2
            go_ret
            exact ⟨ret_bool (by rw [hfin.out]; exact formed_of3 HX.out), hb⟩
          · have f3 : (k == 3) = false := beq_eq_false_iff_ne.2 h3
            by_cases h4 : k = 4
            · subst h4
              go_wp2
              go_ret
              exact ⟨ret_bool (by rw [hfin.out]; exact formed_of4 HX.out), hb⟩
            · have f4 : (k == 4) = false := beq_eq_false_iff_ne.2 h4
              have hno := hide (formed_no (xs := xs) h1 h2 h3 h4)
              go_wp2
              go_ret
              exact ⟨ret_bool (by rw [hfin.out, hno.out]), hb⟩
end Go.Proofs.YtklifieahcoljaaGreat

namespace Go.Proofs.YtklifieahcoljaaGreat
open Go.RowKit
set_option linter.unusedVariables false

set_option maxHeartbeats 400000 in
theorem specDepthOfType_any (t : Ty) : ∀ (c0 c1 : Value) (w : World), Rd w t c0 c1 → Ty.sizes t.args ≤ 1048576 →
    Calls Tryz.prog 107 #[.agg #[c0, c1]] w fun e w' => e = .returned (.int .i64 (t.depth : Int)) ∧ Below w.heap.size w w' := by
  induction t using Ty.ind with | h k xs ih => ?_
  intro c0 c1 w h hl
  have IH := hide ih
  clear ih
  obtain ⟨a, n, cap, rfl, rfl, hk, hr⟩ := h.shape
  have hn : n ≤ 1048576 := by
    have := Ty.length_le_sizes xs
    have h1 := hr.1
    have h2 : Ty.sizes xs ≤ 1048576 := hl
    have h3 : n = xs.length := h1
    omega
  go_enter Tryz.func107, Tryz.ntmps107
  go_wp2_with fail
  go_loopw [3, 4] (fun s i wr => ∃ j : Nat, j ≤ n ∧ i = .int .i64 j ∧ (∃ q : Nat, q ≤ 1048577 ∧ s = .int .i64 (q : Int) ∧ Hid (q = Ty.depths (xs.take j))) ∧ Blk wr w.heap.size 26 #[.int .i64 k, .slice a n cap] ∧ Below w.heap.size w wr) (fun _ i _ => n - (intOf i).toNat)
  case atStart => exact ⟨0, by omega, rfl, ⟨0, by omega, rfl, by simp [Hid, Ty.depths]⟩, Blk.new _ _ _, (by repeat (first | exact Below.refl _ _ | assumption | refine Below.drew ?_ | refine below_drewN ?_ _ | refine Below.alloc ?_ (by first | omega | (simp; done) | (simp; omega)) _ | refine Below.setCell ?_ (by first | omega | (simp; done) | (simp; omega)) _))⟩
  case round =>
    obtain ⟨j, hj, rfl, ⟨q, hq, rfl, Hq⟩, hB, hb⟩ := hrel
    have hsz := hb.size
    have hcell := hB.cell 1
    by_cases hjn : j < n
    · have hjx : j < xs.length := by rw [← hr.1]; exact hjn
      obtain ⟨b, off, c0, c1, rfl, hlt, e0, e1, hd⟩ := (hr.below hb).get j hjx
      have hz : Ty.sizes xs[j].args ≤ 1048576 ∧ xs[j].depth ≤ 1048576 := by
        have h1 := Ty.sizes_take xs j hjx
        have h2 := Ty.sizes_take_le xs (j + 1)
        have h4 := Ty.size_eq xs[j]
        have h5 := Ty.depth_le_size xs[j]
        omega
      obtain ⟨hz1, hz2⟩ := hz
      go_wp2_with (first | (go_at_call 64; refine (l1Max_any _ _ _).mono ?_; rintro e w' ⟨rfl, rfl⟩) | (go_at_call 107; refine (IH.out _ (List.getElem_mem _) _ _ _ hd hz1).mono ?_; rintro e w' ⟨rfl, hb'⟩))
      go_roundw
      case rel =>
        refine ⟨j + 1, by omega, by go_num, ⟨max q xs[j].depth, by omega, by go_num, ?_⟩, hB.under hb', hb.trans (by repeat (first | exact Below.refl _ _ | refine Below.drew ?_ | refine below_drewN ?_ _ | refine Below.alloc ?_ (by first | omega | (simp; done) | (simp; omega)) _ | refine Below.setCell ?_ (by first | omega | (simp; done) | (simp; omega)) _ | refine Below.trans ?_ (Below.mono hb' (by first | omega | (simp; done) | (simp; omega)))))⟩
        rw [Hq.out, Hid, Ty.depths_take xs j hjx]
      case measure => simp [intOf]; omega
    · go_wp2
      go_ret
      refine ⟨ret_int ?_, hb⟩
      have h3 := Hq.out
      have h4 : n = xs.length := hr.1
      rw [List.take_of_length_le (by omega)] at h3
      rw [Ty.depth_eq]
      simp only [h3]
      rfl

set_option maxHeartbeats 400000 in
theorem implDepthOfType_any (t : Ty) : ∀ (c0 c1 : Value) (w : World), Rd w t c0 c1 → Ty.sizes t.args ≤ 1048576 →
    Calls Tryz.prog 86 #[.agg #[c0, c1]] w fun e w' => e = .returned (.int .i64 (t.depth : Int)) ∧ Below w.heap.size w w' := by
  induction t using Ty.ind with | h k xs ih => ?_
  intro c0 c1 w h hl
  have IH := hide ih
  clear ih
  obtain ⟨a, n, cap, rfl, rfl, hk, hr⟩ := h.shape
  have hl' : Ty.sizes xs ≤ 1048576 := hl
  clear hl
  have hn : n ≤ 1048576 := by
    have := Ty.length_le_sizes xs
    have h1 : n = xs.length := hr.1
    omega
  go_enter Tryz.func86, Tryz.ntmps86
  go_wp2_with fail
  go_loopw [3, 9] (fun s i wr => ∃ j : Nat, j ≤ n ∧ i = .int .i64 j ∧ (∃ q : Nat, q ≤ 1048577 ∧ s = .int .i64 (q : Int) ∧ Hid (q = Ty.depths (xs.take j))) ∧ Below w.heap.size w wr) (fun _ i _ => n - (intOf i).toNat)
  case atStart => exact ⟨0, by omega, rfl, ⟨0, by omega, rfl, by simp [Hid, Ty.depths]⟩, (by repeat (first | exact Below.refl _ _ | assumption | refine Below.drew ?_ | refine below_drewN ?_ _ | refine Below.alloc ?_ (by first | omega | (simp; done) | (simp; omega)) _ | refine Below.setCell ?_ (by first | omega | (simp; done) | (simp; omega)) _))⟩
  case round =>
    obtain ⟨j, hj, rfl, ⟨q, hq, rfl, Hq⟩, hb⟩ := hrel
    have hsz := hb.size
    by_cases hjn : j < n
    · have hjx : j < xs.length := by rw [← hr.1]; exact hjn
      obtain ⟨b, off, a', n', cap', rfl, hlt, e0, e1, hd⟩ := (hr.below hb).at_ j hjx
      have hz : Ty.sizes xs[j].args ≤ 1048576 ∧ xs[j].depth ≤ 1048576 := by
        have h1 := Ty.sizes_take xs j hjx
        have h2 := Ty.sizes_take_le xs (j + 1)
        have h4 := Ty.size_eq xs[j]
        have h5 := Ty.depth_le_size xs[j]
        omega
      obtain ⟨hz1, hz2⟩ := hz
      go_wp2_with (go_at_call 86; refine (IH.out _ (List.getElem_mem _) _ _ _ (hd.below (by repeat (first | exact Below.refl _ _ | assumption | refine Below.drew ?_ | refine below_drewN ?_ _ | refine Below.alloc ?_ (by first | omega | (simp; done) | (simp; omega)) _ | refine Below.setCell ?_ (by first | omega | (simp; done) | (simp; omega)) _))) hz1).mono ?_; rintro e w' ⟨rfl, hb'⟩)
      go_roundw
      case rel =>
        refine ⟨j + 1, by omega, by go_num, ⟨max q xs[j].depth, by omega, by go_num, ?_⟩, hb.trans (by repeat (first | exact Below.refl _ _ | refine Below.drew ?_ | refine below_drewN ?_ _ | refine Below.alloc ?_ (by first | omega | (simp; done) | (simp; omega)) _ | refine Below.setCell ?_ (by first | omega | (simp; done) | (simp; omega)) _ | refine Below.trans ?_ (Below.mono hb' (by first | omega | (simp; done) | (simp; omega)))))⟩
        rw [Hq.out, Hid, Ty.depths_take xs j hjx]
      case measure => simp [intOf]; omega
    · go_wp2
      go_ret
      refine ⟨ret_int ?_, hb⟩
      have h3 := Hq.out
      have h4 : n = xs.length := hr.1
      rw [List.take_of_length_le (by omega)] at h3
      rw [Ty.depth_eq]
      simp only [h3]
      rfl
end Go.Proofs.YtklifieahcoljaaGreat

namespace Go.Proofs.YtklifieahcoljaaGreat
open Go.RowKit
set_option linter.unusedVariables false

set_option maxHeartbeats 400000 in
theorem implSizeOfType_any (t : Ty) : ∀ (c0 c1 : Value) (w : World), Rd w t c0 c1 → Ty.sizes t.args ≤ 1048576 →
    Calls Tryz.prog 85 #[.agg #[c0, c1]] w fun e w' => e = .returned (.int .i64 (t.size : Int)) ∧ Below w.heap.size w w' := by
  induction t using Ty.ind with | h k xs ih => ?_
  intro c0 c1 w h hl
  have IH := hide ih
  clear ih
  obtain ⟨a, n, cap, rfl, rfl, hk, hr⟩ := h.shape
  have hl' : Ty.sizes xs ≤ 1048576 := hl
  clear hl
  have hn : n ≤ 1048576 := by
    have := Ty.length_le_sizes xs
    have h1 : n = xs.length := hr.1
    omega
  go_enter Tryz.func85, Tryz.ntmps85
  go_wp2_with fail
  go_loopw [3, 9] (fun s i wr => ∃ j : Nat, j ≤ n ∧ i = .int .i64 j ∧ (∃ q : Nat, q ≤ 1048577 ∧ s = .int .i64 (q : Int) ∧ Hid (q = 1 + Ty.sizes (xs.take j))) ∧ Below w.heap.size w wr) (fun _ i _ => n - (intOf i).toNat)
  case atStart => exact ⟨0, by omega, rfl, ⟨1, by omega, rfl, by simp [Hid, Ty.sizes]⟩, (by repeat (first | exact Below.refl _ _ | assumption | refine Below.drew ?_ | refine below_drewN ?_ _ | refine Below.alloc ?_ (by first | omega | (simp; done) | (simp; omega)) _ | refine Below.setCell ?_ (by first | omega | (simp; done) | (simp; omega)) _))⟩
  case round =>
    obtain ⟨j, hj, rfl, ⟨q, hq, rfl, Hq⟩, hb⟩ := hrel
    have hsz := hb.size
    by_cases hjn : j < n
    · have hjx : j < xs.length := by rw [← hr.1]; exact hjn
      obtain ⟨b, off, a', n', cap', rfl, hlt, e0, e1, hd⟩ := (hr.below hb).at_ j hjx
      have hz : Ty.sizes xs[j].args ≤ 1048576 ∧ q + xs[j].size ≤ 1048577 := by
        have h1 := Ty.sizes_take xs j hjx
        have h2 := Ty.sizes_take_le xs (j + 1)
        have h3 := Hq.out
        have h4 := Ty.size_eq xs[j]
        omega
      obtain ⟨hz1, hz2⟩ := hz
      go_wp2_with (go_at_call 85; refine (IH.out _ (List.getElem_mem _) _ _ _ (hd.below (by repeat (first | exact Below.refl _ _ | assumption | refine Below.drew ?_ | refine below_drewN ?_ _ | refine Below.alloc ?_ (by first | omega | (simp; done) | (simp; omega)) _ | refine Below.setCell ?_ (by first | omega | (simp; done) | (simp; omega)) _))) hz1).mono ?_; rintro e w' ⟨rfl, hb'⟩)
      go_roundw
      case rel =>
        refine ⟨j + 1, by omega, by go_num, ⟨q + xs[j].size, hz2, by go_num, ?_⟩, hb.trans (by repeat (first | exact Below.refl _ _ | refine Below.drew ?_ | refine below_drewN ?_ _ | refine Below.alloc ?_ (by first | omega | (simp; done) | (simp; omega)) _ | refine Below.setCell ?_ (by first | omega | (simp; done) | (simp; omega)) _ | refine Below.trans ?_ (Below.mono hb' (by first | omega | (simp; done) | (simp; omega)))))⟩
        have h1 := Ty.sizes_take xs j hjx
        have h3 := Hq.out
        have h4 := Ty.size_eq xs[j]
        unfold Hid
        omega
      case measure => simp [intOf]; omega
    · go_wp2
      go_ret
      refine ⟨ret_int ?_, hb⟩
      have h3 := Hq.out
      have h4 : n = xs.length := hr.1
      rw [List.take_of_length_le (by omega)] at h3
      rw [Ty.size_eq]
      simp only [h3]
end Go.Proofs.YtklifieahcoljaaGreat

namespace Go.Proofs.YtklifieahcoljaaGreat
open Go.RowKit
set_option maxRecDepth 100000
set_option linter.unusedVariables false
set_option linter.unusedSimpArgs false

set_option maxHeartbeats 1600000 in
theorem validLit_1 (xs : List Ty) (a : Option Addr) (n cap : Nat) (w : World) (HX : Hid (n = xs.length)) :
    Calls Tryz.prog 87 #[.agg #[.int .i64 1, .slice a n cap]] w fun e w' => e = .returned (.bool (Ty.formed ⟨1, xs⟩)) ∧ Below w.heap.size w w' := by
  go_enter Tryz.func87, Tryz.ntmps87
  go_wp2_with fail
  have hw : IntKind.i64.wrap 0 = 0 := rfl
  go_region_with (go_at_call 24; (with_reducible refine (within_is (b := true) (by decide) _).mono ?_); rintro e w' ⟨rfl, rfl⟩)
  all_goals go_wp2_with fail
  all_goals go_ret
  all_goals exact ⟨ret_bool (formed_of1 HX.out), (by repeat (first | exact Below.refl _ _ | assumption | refine Below.drew ?_ | refine below_drewN ?_ _ | refine Below.alloc ?_ (by first | omega | (simp; done) | (simp; omega)) _ | refine Below.setCell ?_ (by first | omega | (simp; done) | (simp; omega)) _))⟩
set_option maxHeartbeats 1600000 in
theorem validLit_2 (xs : List Ty) (a : Option Addr) (n cap : Nat) (w : World) (HX : Hid (n = xs.length)) :
    Calls Tryz.prog 87 #[.agg #[.int .i64 2, .slice a n cap]] w fun e w' => e = .returned (.bool (Ty.formed ⟨2, xs⟩)) ∧ Below w.heap.size w w' := by
  go_enter Tryz.func87, Tryz.ntmps87
  go_wp2_with fail
  have hw : IntKind.i64.wrap 1 = 1 := rfl
  go_region_with (go_at_call 24; (with_reducible refine (within_is (b := true) (by decide) _).mono ?_); rintro e w' ⟨rfl, rfl⟩)
  all_goals go_wp2_with fail
  all_goals go_ret
  all_goals exact ⟨ret_bool (formed_of2 HX.out), (by repeat (first | exact Below.refl _ _ | assumption | refine Below.drew ?_ | refine below_drewN ?_ _ | refine Below.alloc ?_ (by first | omega | (simp; done) | (simp; omega)) _ | refine Below.setCell ?_ (by first | omega | (simp; done) | (simp; omega)) _))⟩
end Go.Proofs.YtklifieahcoljaaGreat

namespace Go.Proofs.YtklifieahcoljaaGreat
open Go.RowKit
set_option maxRecDepth 100000
set_option linter.unusedVariables false
set_option linter.unusedSimpArgs false

set_option maxHeartbeats 1600000 in
theorem validLit_3 (xs : List Ty) (a : Option Addr) (n cap : Nat) (w : World) (HX : Hid (n = xs.length)) :
    Calls Tryz.prog 87 #[.agg #[.int .i64 3, .slice a n cap]] w fun e w' => e = .returned (.bool (Ty.formed ⟨3, xs⟩)) ∧ Below w.heap.size w w' := by
  go_enter Tryz.func87, Tryz.ntmps87
  go_wp2_with fail
  have hw : IntKind.i64.wrap 2 = 2 := rfl
  go_region_with (go_at_call 24; (with_reducible refine (within_is (b := true) (by decide) _).mono ?_); rintro e w' ⟨rfl, rfl⟩)
  all_goals go_wp2_with fail
  all_goals go_ret
  all_goals exact ⟨ret_bool (formed_of3 HX.out), (by repeat (first | exact Below.refl _ _ | assumption | refine Below.drew ?_ | refine below_drewN ?_ _ | refine Below.alloc ?_ (by first | omega | (simp; done) | (simp; omega)) _ | refine Below.setCell ?_ (by first | omega | (simp; done) | (simp; omega)) _))⟩
set_option maxHeartbeats 1600000 in
theorem validLit_4 (xs : List Ty) (a : Option Addr) (n cap : Nat) (w : World) (HX : Hid (n = xs.length)) :
    Calls Tryz.prog 87 #[.agg #[.int .i64 4, .slice a n cap]] w fun e w' => e = .returned (.bool (Ty.formed ⟨4, xs⟩)) ∧ Below w.heap.size w w' := by
  go_enter Tryz.func87, Tryz.ntmps87
  go_wp2_with fail
  have hw : IntKind.i64.wrap 3 = 3 := rfl
  go_region_with (go_at_call 24; (with_reducible refine (within_is (b := true) (by decide) _).mono ?_); rintro e w' ⟨rfl, rfl⟩)
  all_goals go_wp2_with fail
  all_goals go_ret
  all_goals exact ⟨ret_bool (formed_of4 HX.out), (by repeat (first | exact Below.refl _ _ | assumption | refine Below.drew ?_ | refine below_drewN ?_ _ | refine Below.alloc ?_ (by first | omega | (simp; done) | (simp; omega)) _ | refine Below.setCell ?_ (by first | omega | (simp; done) | (simp; omega)) _))⟩
end Go.Proofs.YtklifieahcoljaaGreat

namespace Go.Proofs.YtklifieahcoljaaGreat
open Go.RowKit
set_option maxRecDepth 100000
set_option linter.unusedVariables false
set_option linter.unusedSimpArgs false

set_option maxHeartbeats 800000 in
theorem validLit_any (t : Ty) (c0 c1 : Value) (w : World) (h : Rd w t c0 c1) :
    Calls Tryz.prog 87 #[.agg #[c0, c1]] w fun e w' => e = .returned (.bool t.formed) ∧ Below w.heap.size w w' := by
  obtain ⟨k, xs⟩ := t
  obtain ⟨a, n, cap, rfl, rfl, hk, hr⟩ := h.shape
  have hx : n = xs.length := hr.1
  have HX := hide hx
  clear hx
  simp only at *
  by_cases hin : inB k 1 4 = true
  · have h4 : k = 1 ∨ k = 2 ∨ k = 3 ∨ k = 4 := by
      have := inB_iff.1 hin
      omega
    clear hin
    rcases h4 with rfl | rfl | rfl | rfl
    · exact validLit_1 xs a n cap w HX
    · exact validLit_2 xs a n cap w HX
    · exact validLit_3 xs a n cap w HX
    · exact validLit_4 xs a n cap w HX
  · have hin' : inB k 1 4 = false := by simpa using hin
    clear hin
    have HI := hide hin'
    clear hin'
    go_enter Tryz.func87, Tryz.ntmps87
    go_wp2_with fail
    go_quiet ((go_at_call 24; exact quiet_left (within_is HI.out _)))
    go_wp2_with fail
    go_ret
    refine ⟨ret_bool ?_, (by repeat (first | exact Below.refl _ _ | assumption | refine Below.drew ?_ | refine below_drewN ?_ _ | refine Below.alloc ?_ (by first | omega | (simp; done) | (simp; omega)) _ | refine Below.setCell ?_ (by first | omega | (simp; done) | (simp; omega)) _))⟩
    have h1 : ¬ (1 ≤ k ∧ k ≤ 4) := fun h => by have := inB_iff.2 h; rw [HI.out] at this; cases this
    have e1 : (k == 1) = false := beq_eq_false_iff_ne.2 (by omega)
    have e2 : (k == 2) = false := beq_eq_false_iff_ne.2 (by omega)
    have e3 : (k == 3) = false := beq_eq_false_iff_ne.2 (by omega)
    have e4 : (k == 4) = false := beq_eq_false_iff_ne.2 (by omega)
    simp [Ty.formed, e1, e2, e3, e4]
end Go.Proofs.YtklifieahcoljaaGreat

namespace Go.Proofs.YtklifieahcoljaaGreat
open Go.RowKit
set_option linter.unusedVariables false
set_option linter.unusedSimpArgs false

/-- What the function literal of allTypes says, called with the box of 'accept' at bx. -/
abbrev LitTy (A : Value) (q : Ty → Bool) (x : Ty) : Prop := ∀ (bx : Nat) (c0 c1 : Value) (W : World), Rd W x c0 c1 → W.cell? ⟨bx, 0, none⟩ = some A →
  Calls Tryz.prog 89 #[.agg #[c0, c1], .pointer (some ⟨bx, 0, none⟩)] W fun e W' => e = .returned (.bool (q x)) ∧ Below W.heap.size W W'

set_option maxHeartbeats 400000 in
theorem indexFuncTy_of (A : Value) (q : Ty → Bool) (xs : List Ty) (ih : ∀ x ∈ xs, LitTy A q x) (bx : Nat) (a : Option Addr) (n cap : Nat) (w : World) (hr : Rds w xs a n cap) (hA : w.cell? ⟨bx, 0, none⟩ = some A) :
    Calls Tryz.prog 110 #[.slice a n cap, .func (.func 89) #[] #[.pointer (some ⟨bx, 0, none⟩)]] w
      fun e w' => e = .returned (.int .i64 (fIdx q xs)) ∧ Below w.heap.size w w' := by
  have IH := hide ih
  clear ih
  have hn : n ≤ 9223372036854775807 := by obtain ⟨_, h2, h3, _⟩ := hr; unfold maxLen at h3; omega
  have hbx := World.block_lt_of_cell? _ _ hA
  have HA := hide hA
  clear hA
  go_enter Tryz.func110, Tryz.ntmps110
  go_wp2_with fail
  go_loopw [8] (fun i wr => ∃ j : Nat, j ≤ n ∧ i = .int .i64 j ∧ Hid (∀ i (h : i < xs.length), i < j → q xs[i] = false) ∧ Below w.heap.size w wr) (fun i _ => n - (intOf i).toNat)
  case atStart => exact ⟨0, by omega, rfl, fun i _ hi => by omega, (by repeat (first | exact Below.refl _ _ | assumption | refine Below.drew ?_ | refine below_drewN ?_ _ | refine Below.alloc ?_ (by first | omega | (simp; done) | (simp; omega)) _ | refine Below.setCell ?_ (by first | omega | (simp; done) | (simp; omega)) _))⟩
  case round =>
    obtain ⟨j, hj, rfl, HR, hb⟩ := hrel
    have hsz := hb.size
    by_cases hjn : j < n
    · have hjx : j < xs.length := by rw [← hr.1]; exact hjn
      obtain ⟨b, off, c0, c1, rfl, hlt, q0, q1, hd⟩ := (hr.below hb).get j hjx
      go_wp2_with (go_at_call 89; (with_reducible refine (IH.out _ (List.getElem_mem hjx) _ _ _ _ hd ((hb.cell hbx).trans HA.out)).mono ?_); rintro e w' ⟨rfl, hb'⟩)
      · have hyes : q xs[j] = true := ‹q xs[j] = true›
        go_ret
        exact ⟨ret_int (fIdx_at hjx hyes HR.out).symm, hb.trans (by repeat (first | exact Below.refl _ _ | refine Below.drew ?_ | refine below_drewN ?_ _ | refine Below.alloc ?_ (by first | omega | (simp; done) | (simp; omega)) _ | refine Below.setCell ?_ (by first | omega | (simp; done) | (simp; omega)) _ | refine Below.trans ?_ (Below.mono hb' (by first | omega | (simp; done) | (simp; omega)))))⟩
      · have hno : q xs[j] = false := ‹q xs[j] = false›
        go_roundw
        case rel =>
          refine ⟨j + 1, by omega, by go_num, fun i hi hij => ?_, hb.trans (by repeat (first | exact Below.refl _ _ | refine Below.drew ?_ | refine below_drewN ?_ _ | refine Below.alloc ?_ (by first | omega | (simp; done) | (simp; omega)) _ | refine Below.setCell ?_ (by first | omega | (simp; done) | (simp; omega)) _ | refine Below.trans ?_ (Below.mono hb' (by first | omega | (simp; done) | (simp; omega)))))⟩
          by_cases hij' : i < j
          · exact HR.out i hi hij'
          · obtain rfl : i = j := by omega
            exact hno
        case measure => simp [intOf]; omega
    · go_wp2
      go_ret
      have hx1 : n = xs.length := hr.1
      exact ⟨ret_int (fIdx_none fun i hi => HR.out i hi (by omega)).symm, hb⟩

set_option maxHeartbeats 400000 in
theorem containsFuncTy_of (A : Value) (q : Ty → Bool) (xs : List Ty) (ih : ∀ x ∈ xs, LitTy A q x) (bx : Nat) (a : Option Addr) (n cap : Nat) (w : World) (hr : Rds w xs a n cap) (hA : w.cell? ⟨bx, 0, none⟩ = some A) :
    Calls Tryz.prog 88 #[.slice a n cap, .func (.func 89) #[] #[.pointer (some ⟨bx, 0, none⟩)]] w
      fun e w' => e = .returned (.bool (xs.any q)) ∧ Below w.heap.size w w' := by
  have C := hide (indexFuncTy_of A q xs ih bx a n cap w hr hA)
  have hge := hide (fIdx_ge q xs)
  clear ih hA hr
  go_enter Tryz.func88, Tryz.ntmps88
  go_wp2_with (go_at_call 110; (with_reducible refine C.out.mono ?_); rintro e w' ⟨rfl, hb'⟩)
  go_ret
  exact ⟨ret_bool hge.out, hb'⟩

/-- Not code. -/
def Ty.nocode (t : Ty) : Bool := t.kind != 4
theorem plainLit_any (t : Ty) (c0 c1 : Value) (w : World) (h : Rd w t c0 c1) :
    Calls Tryz.prog 61 #[.agg #[c0, c1]] w fun e w' => e = .returned (.bool t.nocode) ∧ Below w.heap.size w w' := by
  obtain ⟨a, n, cap, rfl, rfl, hk, hr⟩ := h.shape
  go_enter Tryz.func61, Tryz.ntmps61
  go_wp2_with fail
  go_ret
  exact ⟨rfl, (by repeat (first | exact Below.refl _ _ | assumption | refine Below.drew ?_ | refine below_drewN ?_ _ | refine Below.alloc ?_ (by first | omega | (simp; done) | (simp; omega)) _ | refine Below.setCell ?_ (by first | omega | (simp; done) | (simp; omega)) _))⟩

set_option maxHeartbeats 800000 in
theorem allTypes_validLit_any (t : Ty) : ∀ (c0 c1 : Value) (w : World), Rd w t c0 c1 →
    Calls Tryz.prog 60 #[.agg #[c0, c1], .func (.func 87) #[] #[]] w fun e w' => e = .returned (.bool (t.all Ty.formed)) ∧ Below w.heap.size w w' := by
  induction t using Ty.ind with | h k xs ih => ?_
  intro c0 c1 w h
  have L : ∀ x ∈ xs, LitTy (.func (.func 87) #[] #[]) (fun x => !x.all Ty.formed) x := by
    intro x hx bx d0 d1 W hd hA
    have C := hide (ih x hx d0 d1)
    have hA1 : ∀ o, (W.alloc o).cell? ⟨bx, 0, none⟩ = some (.func (.func 87) #[] #[]) := fun o => (World.cell?_alloc_lt W o _ (World.block_lt_of_cell? _ _ hA)).trans hA
    clear ih hA
    go_enter Tryz.func89, Tryz.ntmps89
    go_wp2_with (go_at_call 60; (with_reducible refine (C.out _ (hd.below (below_new _ _))).mono ?_); rintro e w' ⟨rfl, hb'⟩)
    go_ret
    exact ⟨rfl, below_of_alloc hb'⟩
  clear ih
  have CC := hide (containsFuncTy_of (.func (.func 87) #[] #[]) (fun x => !x.all Ty.formed) xs L)
  clear L
  obtain ⟨a, n, cap, rfl, rfl, hk, hr⟩ := h.shape
  have hall := Ty.all_eq Ty.formed ⟨k, xs⟩
  have hp' : ∀ W, Below w.heap.size w W → Rd W ⟨k, xs⟩ (.int .i64 k) (.slice a n cap) := fun W hW => h.below hW
  have C := fun W hd => validLit_any ⟨k, xs⟩ (.int .i64 k) (.slice a n cap) W hd
  cases hpt : Ty.formed ⟨k, xs⟩ with
  | true =>
    rw [hpt] at C hall
    replace hall := hide hall
    clear hpt
    replace C := hide C
    go_enter Tryz.func60, Tryz.ntmps60
    go_wp2_with (first
      | (go_at_call 87; (with_reducible refine (C.out _ (hp' _ (by repeat (first | exact Below.refl _ _ | assumption | refine Below.drew ?_ | refine below_drewN ?_ _ | refine Below.alloc ?_ (by first | omega | (simp; done) | (simp; omega)) _ | refine Below.setCell ?_ (by first | omega | (simp; done) | (simp; omega)) _)))).mono ?_); rintro e w1 ⟨rfl, b1⟩
         have B1 := Blk.under ((Blk.new w 26 #[.int .i64 k, .slice a n cap]).alloc (.cells #[.func (.func 87) #[] #[]] 44)) b1
         have A1 := (Blk.new2 w (.cells #[.int .i64 k, .slice a n cap] 26) 44 #[.func (.func 87) #[] #[]]).under b1
         obtain ⟨u0, u1⟩ := B1.two
         have hA1 := hide (A1.cell 0))
      | (go_at_call 88; (with_reducible refine (CC.out _ _ _ _ _ (hr.below (by repeat (first | exact Below.refl _ _ | refine Below.drew ?_ | refine below_drewN ?_ _ | refine Below.alloc ?_ (by first | omega | (simp; done) | (simp; omega)) _ | refine Below.setCell ?_ (by first | omega | (simp; done) | (simp; omega)) _ | refine Below.trans ?_ (Below.mono b1 (by first | omega | (simp; done) | (simp; omega)))))) hA1.out).mono ?_); rintro e w2 ⟨rfl, b2⟩))
    go_ret
    refine ⟨ret_bool ?_, below_next (by repeat (first | exact Below.refl _ _ | refine Below.drew ?_ | refine below_drewN ?_ _ | refine Below.alloc ?_ (by first | omega | (simp; done) | (simp; omega)) _ | refine Below.setCell ?_ (by first | omega | (simp; done) | (simp; omega)) _ | refine Below.trans ?_ (Below.mono b1 (by first | omega | (simp; done) | (simp; omega))))) b2⟩
    rw [hall.out, all_not_any]
    rfl
  | false =>
    rw [hpt] at C hall
    replace hall := hide hall
    clear hpt
    replace C := hide C
    go_enter Tryz.func60, Tryz.ntmps60
    go_wp2_with (go_at_call 87; (with_reducible refine (C.out _ (hp' _ (by repeat (first | exact Below.refl _ _ | assumption | refine Below.drew ?_ | refine below_drewN ?_ _ | refine Below.alloc ?_ (by first | omega | (simp; done) | (simp; omega)) _ | refine Below.setCell ?_ (by first | omega | (simp; done) | (simp; omega)) _)))).mono ?_); rintro e w1 ⟨rfl, b1⟩)
    go_ret
    refine ⟨ret_bool ?_, (by repeat (first | exact Below.refl _ _ | refine Below.drew ?_ | refine below_drewN ?_ _ | refine Below.alloc ?_ (by first | omega | (simp; done) | (simp; omega)) _ | refine Below.setCell ?_ (by first | omega | (simp; done) | (simp; omega)) _ | refine Below.trans ?_ (Below.mono b1 (by first | omega | (simp; done) | (simp; omega)))))⟩
    rw [hall.out]
    rfl
set_option maxHeartbeats 800000 in
theorem allTypes_plainLit_any (t : Ty) : ∀ (c0 c1 : Value) (w : World), Rd w t c0 c1 →
    Calls Tryz.prog 60 #[.agg #[c0, c1], .func (.func 61) #[] #[]] w fun e w' => e = .returned (.bool (t.all Ty.nocode)) ∧ Below w.heap.size w w' := by
  induction t using Ty.ind with | h k xs ih => ?_
  intro c0 c1 w h
  have L : ∀ x ∈ xs, LitTy (.func (.func 61) #[] #[]) (fun x => !x.all Ty.nocode) x := by
    intro x hx bx d0 d1 W hd hA
    have C := hide (ih x hx d0 d1)
    have hA1 : ∀ o, (W.alloc o).cell? ⟨bx, 0, none⟩ = some (.func (.func 61) #[] #[]) := fun o => (World.cell?_alloc_lt W o _ (World.block_lt_of_cell? _ _ hA)).trans hA
    clear ih hA
    go_enter Tryz.func89, Tryz.ntmps89
    go_wp2_with (go_at_call 60; (with_reducible refine (C.out _ (hd.below (below_new _ _))).mono ?_); rintro e w' ⟨rfl, hb'⟩)
    go_ret
    exact ⟨rfl, below_of_alloc hb'⟩
  clear ih
  have CC := hide (containsFuncTy_of (.func (.func 61) #[] #[]) (fun x => !x.all Ty.nocode) xs L)
  clear L
  obtain ⟨a, n, cap, rfl, rfl, hk, hr⟩ := h.shape
  have hall := Ty.all_eq Ty.nocode ⟨k, xs⟩
  have hp' : ∀ W, Below w.heap.size w W → Rd W ⟨k, xs⟩ (.int .i64 k) (.slice a n cap) := fun W hW => h.below hW
  have C := fun W hd => plainLit_any ⟨k, xs⟩ (.int .i64 k) (.slice a n cap) W hd
  cases hpt : Ty.nocode ⟨k, xs⟩ with
  | true =>
    rw [hpt] at C hall
    replace hall := hide hall
    clear hpt
    replace C := hide C
    go_enter Tryz.func60, Tryz.ntmps60
    go_wp2_with (first
      | (go_at_call 61; (with_reducible refine (C.out _ (hp' _ (by repeat (first | exact Below.refl _ _ | assumption | refine Below.drew ?_ | refine below_drewN ?_ _ | refine Below.alloc ?_ (by first | omega | (simp; done) | (simp; omega)) _ | refine Below.setCell ?_ (by first | omega | (simp; done) | (simp; omega)) _)))).mono ?_); rintro e w1 ⟨rfl, b1⟩
         have B1 := Blk.under ((Blk.new w 26 #[.int .i64 k, .slice a n cap]).alloc (.cells #[.func (.func 61) #[] #[]] 44)) b1
         have A1 := (Blk.new2 w (.cells #[.int .i64 k, .slice a n cap] 26) 44 #[.func (.func 61) #[] #[]]).under b1
         obtain ⟨u0, u1⟩ := B1.two
         have hA1 := hide (A1.cell 0))
      | (go_at_call 88; (with_reducible refine (CC.out _ _ _ _ _ (hr.below (by repeat (first | exact Below.refl _ _ | refine Below.drew ?_ | refine below_drewN ?_ _ | refine Below.alloc ?_ (by first | omega | (simp; done) | (simp; omega)) _ | refine Below.setCell ?_ (by first | omega | (simp; done) | (simp; omega)) _ | refine Below.trans ?_ (Below.mono b1 (by first | omega | (simp; done) | (simp; omega)))))) hA1.out).mono ?_); rintro e w2 ⟨rfl, b2⟩))
    go_ret
    refine ⟨ret_bool ?_, below_next (by repeat (first | exact Below.refl _ _ | refine Below.drew ?_ | refine below_drewN ?_ _ | refine Below.alloc ?_ (by first | omega | (simp; done) | (simp; omega)) _ | refine Below.setCell ?_ (by first | omega | (simp; done) | (simp; omega)) _ | refine Below.trans ?_ (Below.mono b1 (by first | omega | (simp; done) | (simp; omega))))) b2⟩
    rw [hall.out, all_not_any]
    rfl
  | false =>
    rw [hpt] at C hall
    replace hall := hide hall
    clear hpt
    replace C := hide C
    go_enter Tryz.func60, Tryz.ntmps60
    go_wp2_with (go_at_call 61; (with_reducible refine (C.out _ (hp' _ (by repeat (first | exact Below.refl _ _ | assumption | refine Below.drew ?_ | refine below_drewN ?_ _ | refine Below.alloc ?_ (by first | omega | (simp; done) | (simp; omega)) _ | refine Below.setCell ?_ (by first | omega | (simp; done) | (simp; omega)) _)))).mono ?_); rintro e w1 ⟨rfl, b1⟩)
    go_ret
    refine ⟨ret_bool ?_, (by repeat (first | exact Below.refl _ _ | refine Below.drew ?_ | refine below_drewN ?_ _ | refine Below.alloc ?_ (by first | omega | (simp; done) | (simp; omega)) _ | refine Below.setCell ?_ (by first | omega | (simp; done) | (simp; omega)) _ | refine Below.trans ?_ (Below.mono b1 (by first | omega | (simp; done) | (simp; omega)))))⟩
    rw [hall.out]
    rfl
end Go.Proofs.YtklifieahcoljaaGreat

namespace Go.Proofs.YtklifieahcoljaaGreat
open Go.RowKit
set_option linter.unusedVariables false
set_option linter.unusedSimpArgs false

/-- A valid type of the language. -/
def Ty.valid (t : Ty) : Bool := decide (t.size ≤ 30) && (decide (t.depth ≤ 8) && t.all Ty.formed)

set_option maxHeartbeats 400000 in
theorem specIsValidType_any (t : Ty) (c0 c1 : Value) (w : World) (h : Rd w t c0 c1) :
    Calls Tryz.prog 80 #[.agg #[c0, c1]] w fun e w' => e = .returned (.bool t.valid) ∧ Below w.heap.size w w' := by
  by_cases hs : t.size ≤ 30
  · have hp : 0 ≤ lessN t.size 30 := by rw [lessN_pos (by omega)]; omega
    have hz : Ty.sizes t.args ≤ 1048576 := by have := t.size_eq; omega
    by_cases hd : t.depth ≤ 8
    · have hv := hide (show t.valid = t.all Ty.formed by simp [Ty.valid, hs, hd])
      go_enter Tryz.func80, Tryz.ntmps80
      go_wp2_with fail
      refine (l3Left_any t _ _ _ _ (h.below (by repeat (first | exact Below.refl _ _ | assumption | refine Below.drew ?_ | refine below_drewN ?_ _ | refine Below.alloc ?_ (by first | omega | (simp; done) | (simp; omega)) _ | refine Below.setCell ?_ (by first | omega | (simp; done) | (simp; omega)) _))) (by omega) (by omega)).mono ?_
      rintro e w1 ⟨rfl, b1⟩
      have B1 := (Blk.new w _ _).under b1
      obtain ⟨u0, u1⟩ := B1.two
      go_wp2_with fail
      refine (specDepthOfType_any t _ _ _ (h.below (below_of_alloc b1)) hz).mono ?_
      rintro e w2 ⟨rfl, b2⟩
      have B2 := B1.under b2
      clear u0 u1
      obtain ⟨u0, u1⟩ := B2.two
      go_wp2_with fail
      refine (l3Form_any t _ _ _ ((h.below (below_of_alloc b1)).below b2)).mono ?_
      rintro e w3 ⟨rfl, b3⟩
      go_wp2_with fail
      go_ret
      exact ⟨ret_bool hv.out.symm, below_next (below_next (below_of_alloc b1) b2) b3⟩
    · have hv := hide (show t.valid = false by simp [Ty.valid, hd])
      go_enter Tryz.func80, Tryz.ntmps80
      go_wp2_with fail
      refine (l3Left_any t _ _ _ _ (h.below (by repeat (first | exact Below.refl _ _ | assumption | refine Below.drew ?_ | refine below_drewN ?_ _ | refine Below.alloc ?_ (by first | omega | (simp; done) | (simp; omega)) _ | refine Below.setCell ?_ (by first | omega | (simp; done) | (simp; omega)) _))) (by omega) (by omega)).mono ?_
      rintro e w1 ⟨rfl, b1⟩
      have B1 := (Blk.new w _ _).under b1
      obtain ⟨u0, u1⟩ := B1.two
      go_wp2_with fail
      refine (specDepthOfType_any t _ _ _ (h.below (below_of_alloc b1)) hz).mono ?_
      rintro e w2 ⟨rfl, b2⟩
      go_wp2_with fail
      go_ret
      exact ⟨ret_bool hv.out.symm, below_next (below_of_alloc b1) b2⟩
  · have hp : lessN t.size 30 < 0 := by rw [lessN_neg (by omega)]; omega
    have hv := hide (show t.valid = false by simp [Ty.valid, hs])
    go_enter Tryz.func80, Tryz.ntmps80
    go_wp2_with fail
    refine (l3Left_any t _ _ _ _ (h.below (by repeat (first | exact Below.refl _ _ | assumption | refine Below.drew ?_ | refine below_drewN ?_ _ | refine Below.alloc ?_ (by first | omega | (simp; done) | (simp; omega)) _ | refine Below.setCell ?_ (by first | omega | (simp; done) | (simp; omega)) _))) (by omega) (by omega)).mono ?_
    rintro e w1 ⟨rfl, b1⟩
    go_wp2_with fail
    go_ret
    exact ⟨ret_bool hv.out.symm, below_of_alloc b1⟩

set_option maxHeartbeats 400000 in
theorem implIsValidType_any (t : Ty) (c0 c1 : Value) (w : World) (h : Rd w t c0 c1) (hz : Ty.sizes t.args ≤ 1048576) :
    Calls Tryz.prog 59 #[.agg #[c0, c1]] w fun e w' => e = .returned (.bool t.valid) ∧ Below w.heap.size w w' := by
  by_cases hs : t.size ≤ 30
  · by_cases hd : t.depth ≤ 8
    · have hv := hide (show t.valid = t.all Ty.formed by simp [Ty.valid, hs, hd])
      go_enter Tryz.func59, Tryz.ntmps59
      go_wp2_with fail
      refine (implSizeOfType_any t _ _ _ (h.below (by repeat (first | exact Below.refl _ _ | assumption | refine Below.drew ?_ | refine below_drewN ?_ _ | refine Below.alloc ?_ (by first | omega | (simp; done) | (simp; omega)) _ | refine Below.setCell ?_ (by first | omega | (simp; done) | (simp; omega)) _))) hz).mono ?_
      rintro e w1 ⟨rfl, b1⟩
      have B1 := (Blk.new w _ _).under b1
      obtain ⟨u0, u1⟩ := B1.two
      go_wp2_with fail
      refine (implDepthOfType_any t _ _ _ (h.below (below_of_alloc b1)) hz).mono ?_
      rintro e w2 ⟨rfl, b2⟩
      have B2 := B1.under b2
      clear u0 u1
      obtain ⟨u0, u1⟩ := B2.two
      go_wp2_with fail
      refine (allTypes_validLit_any t _ _ _ ((h.below (below_of_alloc b1)).below b2)).mono ?_
      rintro e w3 ⟨rfl, b3⟩
      go_wp2_with fail
      go_ret
      exact ⟨ret_bool hv.out.symm, below_next (below_next (below_of_alloc b1) b2) b3⟩
    · have hv := hide (show t.valid = false by simp [Ty.valid, hd])
      go_enter Tryz.func59, Tryz.ntmps59
      go_wp2_with fail
      refine (implSizeOfType_any t _ _ _ (h.below (by repeat (first | exact Below.refl _ _ | assumption | refine Below.drew ?_ | refine below_drewN ?_ _ | refine Below.alloc ?_ (by first | omega | (simp; done) | (simp; omega)) _ | refine Below.setCell ?_ (by first | omega | (simp; done) | (simp; omega)) _))) hz).mono ?_
      rintro e w1 ⟨rfl, b1⟩
      have B1 := (Blk.new w _ _).under b1
      obtain ⟨u0, u1⟩ := B1.two
      go_wp2_with fail
      refine (implDepthOfType_any t _ _ _ (h.below (below_of_alloc b1)) hz).mono ?_
      rintro e w2 ⟨rfl, b2⟩
      go_wp2_with fail
      go_ret
      exact ⟨ret_bool hv.out.symm, below_next (below_of_alloc b1) b2⟩
  · have hv := hide (show t.valid = false by simp [Ty.valid, hs])
    go_enter Tryz.func59, Tryz.ntmps59
    go_wp2_with fail
    refine (implSizeOfType_any t _ _ _ (h.below (by repeat (first | exact Below.refl _ _ | assumption | refine Below.drew ?_ | refine below_drewN ?_ _ | refine Below.alloc ?_ (by first | omega | (simp; done) | (simp; omega)) _ | refine Below.setCell ?_ (by first | omega | (simp; done) | (simp; omega)) _))) hz).mono ?_
    rintro e w1 ⟨rfl, b1⟩
    go_wp2_with fail
    go_ret
    exact ⟨ret_bool hv.out.symm, below_of_alloc b1⟩
theorem specIsValidType_law (t : Ty) (c0 c1 : Value) (w : World) (h : Rd w t c0 c1) (hz : Ty.sizes t.args ≤ 1048576) :
    Calls Tryz.prog 80 #[.agg #[c0, c1]] w fun e w' => e = .returned (.bool t.valid) ∧ Below w.heap.size w w' := specIsValidType_any t c0 c1 w h
theorem implIsValidType_law (t : Ty) (c0 c1 : Value) (w : World) (h : Rd w t c0 c1) (hz : Ty.sizes t.args ≤ 1048576) :
    Calls Tryz.prog 59 #[.agg #[c0, c1]] w fun e w' => e = .returned (.bool t.valid) ∧ Below w.heap.size w w' := implIsValidType_any t c0 c1 w h hz
end Go.Proofs.YtklifieahcoljaaGreat
