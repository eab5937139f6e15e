/-
  The walk of the reference's FormatInt; the program's over the library's Itoa, under the library's table.
-/
import Derived.Test.YtiofojaifonefaaDoorRep
import Derived.Test.YtiofojaifonefaaDoorRows
import Derived.Laws.IdiomStrings
import Derived.Lib.ItoaNum
import Derived.Lib.LaidTab
import Derived.Lib.ItoaMem
import Derived.Lib.ItoaLen
import Derived.Test.YtiofojaifonefaaDoorShelfF
namespace Go.Proofs.YtiofojaifonefaaDoor
open Go.RowKit
set_option maxRecDepth 100000
set_option linter.unusedVariables false
set_option linter.unusedSimpArgs false

/-- The library's table of powers of ten reads as its text lays it. -/
def Tab (w : World) : Prop := Lib.TabIs Tryd.prog w "internal/strconv.uint64pow10" .u64 Lib.pow10Tab
theorem Tab.below {w w' : World} (h : Tab w) (hb : Below w.heap.size w w') : Tab w' := by
  unfold Tab Lib.TabIs at h ⊢
  rw [World.var?] at h ⊢
  revert h
  cases hg : Tryd.prog.globalNamed "internal/strconv.uint64pow10" with
  | none => simp
  | some g =>
    simp only [Option.bind_some]
    intro h
    have hl : g < w.heap.size := by
      rcases Nat.lt_or_ge g w.heap.size with h1 | h1
      · exact h1
      · rw [Array.getElem?_eq_none h1] at h
        simp at h
    rw [hb.block g hl]
    exact h

/-- The last digit. -/
def dg (k : Nat) : UInt8 := UInt8.ofNat (48 + k % 10)
theorem dg_nat (k : Nat) : (dg k).toNat = 48 + k % 10 := by
  rw [dg, UInt8.toNat_ofNat']
  omega
/-- The digits still to come. -/
def more (q : Nat) : List UInt8 := if q = 0 then [] else Lib.decDigits q
theorem more_step {q : Nat} (h : 0 < q) (s : ByteArray) : more (q / 10) ++ (⟨#[dg q]⟩ ++ s : ByteArray).data.toList = more q ++ s.data.toList := by
  have e : (⟨#[dg q]⟩ ++ s : ByteArray).data.toList = dg q :: s.data.toList := by simp
  rw [e]
  have e2 : more q = more (q / 10) ++ [dg q] := by
    rw [more, if_neg (by omega), Lib.decDigits]
    by_cases h10 : q < 10
    · rw [dif_pos h10, more, if_pos (by omega), dg]
      simp
      congr 2
      omega
    · rw [dif_neg h10, more, if_neg (by omega), dg]
  rw [e2]
  simp
/-- One digit as a text. -/
theorem one_digit {P : Program} (w : World) (src dst e : TypeId) (hs : P.underlying src = some (.slice e)) (he : P.underlying e = some (.int .u8)) (hd : P.underlying dst = some .string) (q : Nat) (v : Int) (hv : v = 48 + ((q % 10 : Nat) : Int)) :
    Sem.run P (convert src dst (.slice (some ⟨w.heap.size, 0, none⟩) 1 1)) (w.alloc (.cells #[.int .u8 v] e)) =
      .ok (.string ⟨#[dg q]⟩) (w.alloc (.cells #[.int .u8 v] e)) := by
  have h := run_convert_bytes_back (P := P) (w.alloc (.cells #[.int .u8 v] e)) src dst e ⟨w.heap.size, 0, none⟩ 1 [dg q] hs he hd (fun j hj => by
    have : j = 0 := by simpa using hj
    subst this
    have hc := (Blk.new w e #[.int .u8 v]).cell 0
    simp only [Addr.add_lit, Nat.add_zero, List.getElem_cons_zero]
    rw [hc, dg_nat, hv]
    simp)
  exact h
def itoaS (n : Int) : ByteArray := ⟨(Lib.itoa n).toArray⟩

set_option maxHeartbeats 1600000 in
theorem specFormatInt_pos (n : Nat) (w : World) (hn : 0 < n) (h64 : n ≤ 9223372036854775807) : Calls Tryd.prog 27 #[.int .i64 (n : Int)] w fun e w' => e = .returned (.string (itoaS n)) ∧ Below w.heap.size w w' := by
  have hf : Hid ((itoaS n).data.toList = more n) := by
    unfold Hid
    simp only [itoaS, Lib.itoa, more]
    rw [if_neg (by omega), if_neg (by omega)]
    simp
  have hneg : decide ((n : Int) < 0) = false := by simp
  have hne : ((n : Int) == 0) = false := by simp; omega
  have hml : (more n).length ≤ 21 := by
    rw [← hf.out]
    have := Lib.itoa_length_le (n := (n : Int)) (by omega) (by omega)
    simpa [itoaS] using this
  go_enter Tryd.func27, Tryd.ntmps27
  go_wp2_with fail
  go_loopw [0, 4, 5] (fun c o d wr => ∃ q : Nat, q ≤ n ∧ c = .int .i64 (q : Int) ∧ (∃ s : ByteArray, o = .string s ∧ Hid (more q ++ s.data.toList = more n)) ∧ Below w.heap.size w wr) (fun c _ _ _ => (intOf c).toNat)
  case atStart => exact ⟨n, by omega, rfl, ⟨⟨#[]⟩, rfl, by simp [Hid]⟩, Below.refl _ _⟩
  case round =>
    obtain ⟨q, hq, rfl, ⟨s, rfl, Hs⟩, hb⟩ := hrel
    have hsz := hb.size
    by_cases hq0 : q = 0
    · subst hq0
      go_wp2_with fail
      go_ret
      refine ⟨ret_string ?_, hb⟩
      have h3 := Hs.out
      rw [← hf.out] at h3
      simp [more] at h3
      exact ByteArray.ext h3
    · have hs : s.size ≤ 30 := by
        have h3 := congrArg List.length Hs.out
        rw [List.length_append] at h3
        have : s.data.toList.length = s.size := rfl
        omega
      have hcv := one_digit (P := Tryd.prog) wr 61 9 5 Tryd.underlying61 Tryd.underlying5 Tryd.underlying9 q (48 + (q : Int) % 10) (by omega)
      have hdiv : ((q / 10 : Nat) : Int) = (q : Int) / 10 := by omega
      have hstep := hide (more_step (q := q) (by omega) s)
      replace hdiv := hide hdiv
      have hd0 : decide ((q : Int) % 10 < 0) = false := by simp; omega
      go_wp2_with fail
      go_roundw
      case rel =>
        refine ⟨q / 10, by omega, by rw [hdiv.out], ⟨_, rfl, ?_⟩, hb.alloc hsz _⟩
        rw [Hid, hstep.out]
        exact Hs.out
      case measure => simp [intOf]; omega
set_option maxHeartbeats 1600000 in
theorem specFormatInt_neg (n : Nat) (w : World) (hn : 0 < n) (h64 : n ≤ 9223372036854775808) : Calls Tryd.prog 27 #[.int .i64 (-(n : Int))] w fun e w' => e = .returned (.string (itoaS (-(n : Int)))) ∧ Below w.heap.size w w' := by
  have hf : Hid ((itoaS (-(n : Int))).data.toList = 45 :: more n) := by
    unfold Hid
    simp only [itoaS, Lib.itoa, more]
    rw [if_pos (by omega), if_neg (by omega)]
    simp
  have hneg : decide (-(n : Int) < 0) = true := by simp; omega
  have hne : (-(n : Int) == 0) = false := by simp; omega
  have hml : (more n).length ≤ 21 := by
    have := Lib.itoa_length_le (n := -(n : Int)) (by omega) (by omega)
    have h2 : (Lib.itoa (-(n : Int))).length = (more n).length + 1 := by
      have := congrArg List.length hf.out
      simpa [itoaS] using this
    omega
  go_enter Tryd.func27, Tryd.ntmps27
  go_wp2_with fail
  go_loopw [0, 4, 5] (fun c o d wr => ∃ q : Nat, q ≤ n ∧ c = .int .i64 (-(q : Int)) ∧ (∃ s : ByteArray, o = .string s ∧ Hid (more q ++ s.data.toList = more n)) ∧ Below w.heap.size w wr) (fun c _ _ _ => (intOf c).natAbs)
  case atStart => exact ⟨n, by omega, rfl, ⟨⟨#[]⟩, rfl, by simp [Hid]⟩, Below.refl _ _⟩
  case round =>
    obtain ⟨q, hq, rfl, ⟨s, rfl, Hs⟩, hb⟩ := hrel
    have hsz := hb.size
    have hs : s.size ≤ 30 := by
      have h3 := congrArg List.length Hs.out
      rw [List.length_append] at h3
      have : s.data.toList.length = s.size := rfl
      omega
    by_cases hq0 : q = 0
    · subst hq0
      have hz : (-((0 : Nat) : Int) != 0) = false := by simp
      go_wp2_with fail
      go_ret
      refine ⟨ret_string ?_, hb⟩
      have h3 : s.data.toList = more n := by
        have := Hs.out
        simpa [more] using this
      refine ByteArray.ext (Array.ext' ?_)
      rw [hf.out, ← h3]
      simp
    · have hz : (-(q : Int) != 0) = true := by simp; omega
      have e1 : (-(q : Int)).tmod 10 = -((q : Int) % 10) := by rw [Int.neg_tmod, Int.tmod_eq_emod_of_nonneg (by omega)]
      have e2 : (-(q : Int)).tdiv 10 = -((q : Int) / 10) := by rw [Int.neg_tdiv, Int.tdiv_eq_ediv_of_nonneg (by omega)]
      have hdiv : -((q / 10 : Nat) : Int) = -((q : Int) / 10) := by omega
      have hstep := hide (more_step (q := q) (by omega) s)
      replace hdiv := hide hdiv
      by_cases h10 : (q : Int) % 10 = 0
      · have hd0 : decide (-((q : Int) % 10) < 0) = false := by simp; omega
        have hcv := one_digit (P := Tryd.prog) wr 61 9 5 Tryd.underlying61 Tryd.underlying5 Tryd.underlying9 q 48 (by omega)
        go_wp2_with fail
        go_roundw
        case rel =>
          refine ⟨q / 10, by omega, by rw [hdiv.out], ⟨_, rfl, ?_⟩, hb.alloc hsz _⟩
          rw [Hid, hstep.out]
          exact Hs.out
        case measure => simp [intOf]; omega
      · have hd0 : decide (-((q : Int) % 10) < 0) = true := by simp; omega
        have hcv := one_digit (P := Tryd.prog) wr 61 9 5 Tryd.underlying61 Tryd.underlying5 Tryd.underlying9 q (48 + (q : Int) % 10) (by omega)
        go_wp2_with fail
        go_roundw
        case rel =>
          refine ⟨q / 10, by omega, by rw [hdiv.out], ⟨_, rfl, ?_⟩, hb.alloc hsz _⟩
          rw [Hid, hstep.out]
          exact Hs.out
        case measure => simp [intOf]; omega
theorem specFormatInt_any (n : Int) (w : World) (hn : i64 n) : Calls Tryd.prog 27 #[.int .i64 n] w fun e w' => e = .returned (.string (itoaS n)) ∧ Below w.heap.size w w' := by
  obtain ⟨h0, h1⟩ := hn
  rcases Int.lt_trichotomy n 0 with h | rfl | h
  · obtain ⟨m, rfl⟩ : ∃ m : Nat, n = -(m : Int) := ⟨n.natAbs, by omega⟩
    exact specFormatInt_neg m w (by omega) (by omega)
  · go_enter Tryd.func27, Tryd.ntmps27
    go_wp2_with fail
    go_ret
    refine ⟨ret_string ?_, Below.refl _ _⟩
    have : Lib.itoa 0 = [48] := by
      rw [Lib.itoa, if_neg (by omega)]
      exact Lib.decDigits_one (i := 0) (by omega)
    rw [itoaS, this]
  · obtain ⟨m, rfl⟩ : ∃ m : Nat, n = (m : Int) := ⟨n.toNat, by omega⟩
    exact specFormatInt_pos m w (by omega) (by omega)
theorem below_sortgrow (w : World) (k : Nat) (os : Array Obj) : Below w.heap.size w (Sort.grow (w.drewN k) os) :=
  ⟨rfl, rfl, rfl, by simp [Sort.grow, World.drewN], fun j hj => by simp only [Sort.grow, World.drewN]; exact Array.getElem?_append_left hj⟩
theorem implFormatInt_any (n : Int) (w : World) (hn : i64 n) (ht : Tab w) : Calls Tryd.prog 32 #[.int .i64 n] w fun e w' => e = .returned (.string (itoaS n)) ∧ Below w.heap.size w w' := by
  have C : Calls Tryd.prog 52 #[.int .i64 n] w fun e w' => e = .returned (.string (itoaS n)) ∧ Below w.heap.size w w' :=
    (Tryd.strconv_Itoa n hn.1 hn.2 w ht).mono fun e w' ⟨he, k, os, hw⟩ => ⟨he, hw ▸ below_sortgrow w k os⟩
  replace C := hide C
  go_enter Tryd.func32, Tryd.ntmps32
  go_wp2_with (go_at_call 52; (with_reducible refine C.out.mono ?_); rintro e w1 ⟨rfl, b1⟩)
  go_ret
  exact ⟨rfl, b1⟩
end Go.Proofs.YtiofojaifonefaaDoor
