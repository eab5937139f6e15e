/-
  The walks of the functions that count a term's nodes of a kind, in both texts.
-/
import Derived.Test.YtaackbedahpnaaaTm
import Derived.Test.YtaackbedahpnaaaBit
import Derived.Test.YtaackbedahpnaaaPlain
import Derived.Test.YtaackbedahpnaaaRows
import Derived.LoopTactic
import Derived.Outline
namespace Go.Proofs.Ytaackbedahpnaaa
open Go.RowKit
set_option linter.unusedVariables false
set_option linter.unusedSimpArgs false

mutual
/-- The number of nodes that have the property. -/
def Tm.count (p : Tm → Bool) : Tm → Nat
  | ⟨k, nm, ot, n, ty, re, xs⟩ => (p ⟨k, nm, ot, n, ty, re, xs⟩).toNat + Tm.counts p xs
def Tm.counts (p : Tm → Bool) : List Tm → Nat
  | [] => 0
  | t :: ts => t.count p + Tm.counts p ts
end
theorem Tm.count_eq (p : Tm → Bool) (t : Tm) : t.count p = (p t).toNat + Tm.counts p t.args := by cases t; rw [Tm.count]
theorem Tm.counts_append (p : Tm → Bool) (xs ys : List Tm) : Tm.counts p (xs ++ ys) = Tm.counts p xs + Tm.counts p ys := by
  induction xs with
  | nil => simp [Tm.counts]
  | cons a xs ih => simp [Tm.counts, ih]; omega
theorem Tm.counts_take (p : Tm → Bool) (xs : List Tm) (k : Nat) (h : k < xs.length) : Tm.counts p (xs.take (k + 1)) = Tm.counts p (xs.take k) + xs[k].count p := by
  rw [take_snoc xs k h, Tm.counts_append]
  simp [Tm.counts]
theorem Tm.counts_le_of (p : Tm → Bool) (xs : List Tm) (h : ∀ t ∈ xs, t.count p ≤ t.size) : Tm.counts p xs ≤ Tm.sizes xs := by
  induction xs with
  | nil => simp [Tm.counts]
  | cons x xs ih =>
    have h1 := h x (by simp)
    have h2 := ih fun t ht => h t (by simp [ht])
    simp only [Tm.counts, Tm.sizes]
    omega
theorem Tm.count_le (p : Tm → Bool) (t : Tm) : t.count p ≤ t.size := by
  induction t using Tm.ind' with | h t ih => ?_
  have := Tm.counts_le_of p t.args ih
  have h1 := t.count_eq p
  have h2 := t.size_eq
  have h3 := Bool.toNat_le (p t)
  omega
theorem Tm.counts_le (p : Tm → Bool) (xs : List Tm) : Tm.counts p xs ≤ Tm.sizes xs := Tm.counts_le_of p xs fun t _ => t.count_le p
theorem Tm.counts_zero_of (p : Tm → Bool) (xs : List Tm) (h : ∀ t ∈ xs, (t.count p = 0 ↔ t.all (fun x => !p x) = true)) : Tm.counts p xs = 0 ↔ xs.all (Tm.all fun x => !p x) = true := by
  induction xs with
  | nil => simp [Tm.counts]
  | cons x xs ih =>
    have h1 := h x (by simp)
    have h2 := ih fun t ht => h t (by simp [ht])
    simp only [Tm.counts, List.all_cons, Bool.and_eq_true, ← h1, ← h2]
    omega
theorem Tm.count_zero (p : Tm → Bool) (t : Tm) : t.count p = 0 ↔ t.all (fun x => !p x) = true := by
  induction t using Tm.ind' with | h t ih => ?_
  have h1 := Tm.counts_zero_of p t.args ih
  rw [Tm.count_eq, Tm.all_eq, Bool.and_eq_true, ← h1]
  cases p t <;> simp
theorem bitI_nat (b : Bool) : bitI b = (b.toNat : Int) := by cases b <;> rfl

/-- An application; a splice; a stage. -/
def Tm.isApp (t : Tm) : Bool := t.kind == 7
def Tm.isSplice (t : Tm) : Bool := t.kind == 11
def Tm.isStage (t : Tm) : Bool := inB t.kind 10 13
theorem isStage_is {n : Int} {b : Bool} (h : inB n 10 13 = b) (w : World) : Calls Try.prog 49 #[.int .i64 n] w fun e w' => e = .returned (.bool b) ∧ w = w' := by
  go_enter Try.func49, Try.ntmps49
  go_wp2_with (go_at_call 62; (with_reducible refine (within_is h _).mono ?_); rintro e w1 ⟨rfl, rfl⟩)
  go_ret
  exact ⟨rfl, rfl⟩
theorem lit_Tm.isApp (t : Tm) (l : Lt) (w : World) (h : Md w t l) : Calls Try.prog 45 #[.agg #[.int .i64 t.kind, .string t.name, .string t.other, .int .i64 t.n, .int .i64 t.type.kind, .slice l.ta l.tn l.tc, .int .i64 t.res.kind, .slice l.ra l.rn l.rc, .slice l.aa l.an l.ac]] w fun e w' => e = .returned (.bool (Tm.isApp t)) ∧ Below w.heap.size w w' := by
  go_enter Try.func45, Try.ntmps45
  go_wp2_with fail
  go_ret
  exact ⟨rfl, below_new _ _⟩
theorem lit_Tm.isSplice (t : Tm) (l : Lt) (w : World) (h : Md w t l) : Calls Try.prog 47 #[.agg #[.int .i64 t.kind, .string t.name, .string t.other, .int .i64 t.n, .int .i64 t.type.kind, .slice l.ta l.tn l.tc, .int .i64 t.res.kind, .slice l.ra l.rn l.rc, .slice l.aa l.an l.ac]] w fun e w' => e = .returned (.bool (Tm.isSplice t)) ∧ Below w.heap.size w w' := by
  go_enter Try.func47, Try.ntmps47
  go_wp2_with fail
  go_ret
  exact ⟨rfl, below_new _ _⟩
theorem lit_Tm.isStage (t : Tm) (l : Lt) (w : World) (h : Md w t l) : Calls Try.prog 48 #[.agg #[.int .i64 t.kind, .string t.name, .string t.other, .int .i64 t.n, .int .i64 t.type.kind, .slice l.ta l.tn l.tc, .int .i64 t.res.kind, .slice l.ra l.rn l.rc, .slice l.aa l.an l.ac]] w fun e w' => e = .returned (.bool (Tm.isStage t)) ∧ Below w.heap.size w w' := by
  go_enter Try.func48, Try.ntmps48
  go_wp2_with (go_at_call 49; (with_reducible refine (isStage_is rfl _).mono ?_); rintro e w1 ⟨rfl, rfl⟩)
  go_ret
  exact ⟨rfl, below_new _ _⟩

set_option maxHeartbeats 1600000 in
theorem specCountSplices_any (t : Tm) : ∀ (l : Lt) (w : World), Md w t l → Tm.sizes t.args ≤ 1048576 →
    Calls Try.prog 24 #[.agg #[.int .i64 t.kind, .string t.name, .string t.other, .int .i64 t.n, .int .i64 t.type.kind, .slice l.ta l.tn l.tc, .int .i64 t.res.kind, .slice l.ra l.rn l.rc, .slice l.aa l.an l.ac]] w fun e w' => e = .returned (.int .i64 (t.count Tm.isSplice : Int)) ∧ Below w.heap.size w w' := by
  induction t using Tm.ind' with | h t ih => ?_
  intro l w h hl
  have IH := hide ih
  clear ih
  obtain ⟨h0, ht, hrr, hr⟩ := h.shape
  clear ht hrr
  have hn : l.an ≤ 1048576 := by
    have := Tm.length_le_sizes t.args
    have h1 : l.an = t.args.length := hr.1
    omega
  have hce := hide (t.count_eq Tm.isSplice)
  go_enter Try.func24, Try.ntmps24
  go_wp2_with (go_at_call 46; (with_reducible refine (specl1Bit_any _ _).mono ?_); rintro e w1 ⟨rfl, rfl⟩)
  go_loopw [3, 4] (fun s i wr => ∃ j : Nat, j ≤ l.an ∧ i = .int .i64 j ∧ (∃ q : Nat, q ≤ 1048577 ∧ s = .int .i64 (q : Int) ∧ Hid (q = (Tm.isSplice t).toNat + Tm.counts Tm.isSplice (t.args.take j))) ∧ Blk wr w.heap.size 35 #[.int .i64 t.kind, .string t.name, .string t.other, .int .i64 t.n, .int .i64 t.type.kind, .slice l.ta l.tn l.tc, .int .i64 t.res.kind, .slice l.ra l.rn l.rc, .slice l.aa l.an l.ac] ∧ Below w.heap.size w wr) (fun _ i _ => l.an - (intOf i).toNat)
  case atStart => exact ⟨0, by omega, rfl, ⟨(Tm.isSplice t).toNat, by have := Bool.toNat_le (Tm.isSplice t); omega, by first | (rw [bitI_nat]; done) | (rw [bitI_nat]; rfl), by simp [Hid, Tm.counts]⟩, Blk.new _ _ _, below_new _ _⟩
  case round =>
    obtain ⟨j, hj, rfl, ⟨q, hq, rfl, Hq⟩, hB, hb⟩ := hrel
    have hsz := hb.size
    have hcell8 := (hB.nine).2.2.2.2.2.2.2.2
    by_cases hjn : j < l.an
    · have hjx : j < t.args.length := by rw [← hr.1]; exact hjn
      obtain ⟨b, off, l', ha, hlt, hc, hd⟩ := (hr.below hb).get j hjx
      obtain ⟨e0, e1, e2, e3, e4, e5, e6, e7, e8⟩ := hc.nine
      clear hc
      rw [ha] at hcell8 ⊢
      have hz : Tm.sizes t.args[j].args ≤ 1048576 ∧ q + t.args[j].count Tm.isSplice ≤ 1048577 := by
        have h1 := Tm.sizes_take t.args j hjx
        have h2 := Tm.sizes_take_le t.args (j + 1)
        have h3 := Hq.out
        have h4 := Tm.size_eq t.args[j]
        have h5 := Tm.counts_le Tm.isSplice (t.args.take j)
        have h6 := Tm.count_le Tm.isSplice t.args[j]
        have h7 := Bool.toNat_le (Tm.isSplice t)
        omega
      obtain ⟨hz1, hz2⟩ := hz
      go_wp2_with (go_at_call 24; (with_reducible refine (IH.out _ (List.getElem_mem hjx) _ _ hd hz1).mono ?_); rintro e w' ⟨rfl, hb'⟩)
      go_roundw
      case rel =>
        refine ⟨j + 1, by omega, by go_num, ⟨q + t.args[j].count Tm.isSplice, hz2, by go_num, ?_⟩, (by have hB2 := hB.under hb'; rw [ha] at hB2; exact hB2), hb.trans (by repeat (first | exact Below.refl _ _ | refine Below.drew ?_ | refine below_drewN ?_ _ | refine Below.alloc ?_ (by first | omega | (simp; done) | (simp; omega)) _ | refine Below.setCell ?_ (by first | omega | (simp; done) | (simp; omega)) _ | refine Below.trans ?_ (Below.mono hb' (by first | omega | (simp; done) | (simp; omega)))))⟩
        have h1 := Tm.counts_take Tm.isSplice t.args j hjx
        have h3 := Hq.out
        unfold Hid
        omega
      case measure => simp [intOf]; omega
    · go_wp2
      go_ret
      refine ⟨ret_int ?_, hb⟩
      have h3 := Hq.out
      have h4 : l.an = t.args.length := hr.1
      rw [List.take_of_length_le (by omega)] at h3
      rw [hce.out]
      simp only [h3]

set_option maxHeartbeats 1600000 in
theorem specCountStages_any (t : Tm) : ∀ (l : Lt) (w : World), Md w t l → Tm.sizes t.args ≤ 1048576 →
    Calls Try.prog 26 #[.agg #[.int .i64 t.kind, .string t.name, .string t.other, .int .i64 t.n, .int .i64 t.type.kind, .slice l.ta l.tn l.tc, .int .i64 t.res.kind, .slice l.ra l.rn l.rc, .slice l.aa l.an l.ac]] w fun e w' => e = .returned (.int .i64 (t.count Tm.isStage : Int)) ∧ Below w.heap.size w w' := by
  induction t using Tm.ind' with | h t ih => ?_
  intro l w h hl
  have IH := hide ih
  clear ih
  obtain ⟨h0, ht, hrr, hr⟩ := h.shape
  clear ht hrr
  have hn : l.an ≤ 1048576 := by
    have := Tm.length_le_sizes t.args
    have h1 : l.an = t.args.length := hr.1
    omega
  have hce := hide (t.count_eq Tm.isStage)
  go_enter Try.func26, Try.ntmps26
  go_wp2_with (first | (go_at_call 38; (with_reducible refine (l1In_any _ _ _ _).mono ?_); rintro e w1 ⟨rfl, rfl⟩) | (go_at_call 46; (with_reducible refine (specl1Bit_any _ _).mono ?_); rintro e w1 ⟨rfl, rfl⟩))
  go_loopw [3, 4] (fun s i wr => ∃ j : Nat, j ≤ l.an ∧ i = .int .i64 j ∧ (∃ q : Nat, q ≤ 1048577 ∧ s = .int .i64 (q : Int) ∧ Hid (q = (Tm.isStage t).toNat + Tm.counts Tm.isStage (t.args.take j))) ∧ Blk wr w.heap.size 35 #[.int .i64 t.kind, .string t.name, .string t.other, .int .i64 t.n, .int .i64 t.type.kind, .slice l.ta l.tn l.tc, .int .i64 t.res.kind, .slice l.ra l.rn l.rc, .slice l.aa l.an l.ac] ∧ Below w.heap.size w wr) (fun _ i _ => l.an - (intOf i).toNat)
  case atStart => exact ⟨0, by omega, rfl, ⟨(Tm.isStage t).toNat, by have := Bool.toNat_le (Tm.isStage t); omega, by first | (rw [bitI_nat]; done) | (rw [bitI_nat]; rfl), by simp [Hid, Tm.counts]⟩, Blk.new _ _ _, below_new _ _⟩
  case round =>
    obtain ⟨j, hj, rfl, ⟨q, hq, rfl, Hq⟩, hB, hb⟩ := hrel
    have hsz := hb.size
    have hcell8 := (hB.nine).2.2.2.2.2.2.2.2
    by_cases hjn : j < l.an
    · have hjx : j < t.args.length := by rw [← hr.1]; exact hjn
      obtain ⟨b, off, l', ha, hlt, hc, hd⟩ := (hr.below hb).get j hjx
      obtain ⟨e0, e1, e2, e3, e4, e5, e6, e7, e8⟩ := hc.nine
      clear hc
      rw [ha] at hcell8 ⊢
      have hz : Tm.sizes t.args[j].args ≤ 1048576 ∧ q + t.args[j].count Tm.isStage ≤ 1048577 := by
        have h1 := Tm.sizes_take t.args j hjx
        have h2 := Tm.sizes_take_le t.args (j + 1)
        have h3 := Hq.out
        have h4 := Tm.size_eq t.args[j]
        have h5 := Tm.counts_le Tm.isStage (t.args.take j)
        have h6 := Tm.count_le Tm.isStage t.args[j]
        have h7 := Bool.toNat_le (Tm.isStage t)
        omega
      obtain ⟨hz1, hz2⟩ := hz
      go_wp2_with (go_at_call 26; (with_reducible refine (IH.out _ (List.getElem_mem hjx) _ _ hd hz1).mono ?_); rintro e w' ⟨rfl, hb'⟩)
      go_roundw
      case rel =>
        refine ⟨j + 1, by omega, by go_num, ⟨q + t.args[j].count Tm.isStage, hz2, by go_num, ?_⟩, (by have hB2 := hB.under hb'; rw [ha] at hB2; exact hB2), hb.trans (by repeat (first | exact Below.refl _ _ | refine Below.drew ?_ | refine below_drewN ?_ _ | refine Below.alloc ?_ (by first | omega | (simp; done) | (simp; omega)) _ | refine Below.setCell ?_ (by first | omega | (simp; done) | (simp; omega)) _ | refine Below.trans ?_ (Below.mono hb' (by first | omega | (simp; done) | (simp; omega)))))⟩
        have h1 := Tm.counts_take Tm.isStage t.args j hjx
        have h3 := Hq.out
        unfold Hid
        omega
      case measure => simp [intOf]; omega
    · go_wp2
      go_ret
      refine ⟨ret_int ?_, hb⟩
      have h3 := Hq.out
      have h4 : l.an = t.args.length := hr.1
      rw [List.take_of_length_le (by omega)] at h3
      rw [hce.out]
      simp only [h3]

set_option maxHeartbeats 1600000 in
theorem implcount_isApp (t : Tm) : ∀ (l : Lt) (w : World), Md w t l → Tm.sizes t.args ≤ 1048576 →
    Calls Try.prog 44 #[.agg #[.int .i64 t.kind, .string t.name, .string t.other, .int .i64 t.n, .int .i64 t.type.kind, .slice l.ta l.tn l.tc, .int .i64 t.res.kind, .slice l.ra l.rn l.rc, .slice l.aa l.an l.ac], .func (.func 45) #[] #[]] w fun e w' => e = .returned (.int .i64 (t.count Tm.isApp : Int)) ∧ Below w.heap.size w w' := by
  induction t using Tm.ind' with | h t ih => ?_
  intro l w h hl
  have IH := hide ih
  clear ih
  obtain ⟨h0, ht, hrr, hr⟩ := h.shape
  clear ht hrr
  have hn : l.an ≤ 1048576 := by
    have := Tm.length_le_sizes t.args
    have h1 : l.an = t.args.length := hr.1
    omega
  have hce := hide (t.count_eq Tm.isApp)
  go_enter Try.func44, Try.ntmps44
  have hA := h.below (below_new w (.cells #[.int .i64 t.kind, .string t.name, .string t.other, .int .i64 t.n, .int .i64 t.type.kind, .slice l.ta l.tn l.tc, .int .i64 t.res.kind, .slice l.ra l.rn l.rc, .slice l.aa l.an l.ac] 35))
  go_wp2_with (first
    | (go_at_call 45; (with_reducible refine (lit_Tm.isApp t l _ hA).mono ?_); rintro e w1 ⟨rfl, b1⟩; have B1 := ((Blk.new w _ _).under b1).nine.2.2.2.2.2.2.2.2)
    | (go_at_call 61; (with_reducible refine (implbit_any _ _).mono ?_); rintro e w2 ⟨rfl, rfl⟩))
  go_loopw [5, 15] (fun s i wr => ∃ j : Nat, j ≤ l.an ∧ i = .int .i64 j ∧ (∃ q : Nat, q ≤ 1048577 ∧ s = .int .i64 (q : Int) ∧ Hid (q = (Tm.isApp t).toNat + Tm.counts Tm.isApp (t.args.take j))) ∧ Below w.heap.size w wr) (fun _ i _ => l.an - (intOf i).toNat)
  case atStart => exact ⟨0, by omega, rfl, ⟨(Tm.isApp t).toNat, by have := Bool.toNat_le (Tm.isApp t); omega, by first | (rw [bitI_nat]; done) | (rw [bitI_nat]; rfl), by simp [Hid, Tm.counts]⟩, below_of_alloc b1⟩
  case round =>
    obtain ⟨j, hj, rfl, ⟨q, hq, rfl, Hq⟩, hb⟩ := hrel
    have hsz := hb.size
    by_cases hjn : j < l.an
    · have hjx : j < t.args.length := by rw [← hr.1]; exact hjn
      obtain ⟨b, off, l', ha, hlt, hc, hd⟩ := (hr.below hb).get j hjx
      obtain ⟨e0, e1, e2, e3, e4, e5, e6, e7, e8⟩ := hc.nine
      clear hc
      rw [ha]
      have hz : Tm.sizes t.args[j].args ≤ 1048576 ∧ q + t.args[j].count Tm.isApp ≤ 1048577 := by
        have h1 := Tm.sizes_take t.args j hjx
        have h2 := Tm.sizes_take_le t.args (j + 1)
        have h3 := Hq.out
        have h4 := Tm.size_eq t.args[j]
        have h5 := Tm.counts_le Tm.isApp (t.args.take j)
        have h6 := Tm.count_le Tm.isApp t.args[j]
        have h7 := Bool.toNat_le (Tm.isApp t)
        omega
      obtain ⟨hz1, hz2⟩ := hz
      go_wp2_with (go_at_call 44; (with_reducible refine (IH.out _ (List.getElem_mem hjx) _ _ (hd.below (by repeat (first | exact Below.refl _ _ | assumption | refine Below.drew ?_ | refine below_drewN ?_ _ | refine Below.alloc ?_ (by first | omega | (simp; done) | (simp; omega)) _ | refine Below.setCell ?_ (by first | omega | (simp; done) | (simp; omega)) _))) hz1).mono ?_); rintro e w' ⟨rfl, hb'⟩)
      go_roundw
      case rel =>
        refine ⟨j + 1, by omega, by go_num, ⟨q + t.args[j].count Tm.isApp, hz2, by go_num, ?_⟩, hb.trans (by repeat (first | exact Below.refl _ _ | refine Below.drew ?_ | refine below_drewN ?_ _ | refine Below.alloc ?_ (by first | omega | (simp; done) | (simp; omega)) _ | refine Below.setCell ?_ (by first | omega | (simp; done) | (simp; omega)) _ | refine Below.trans ?_ (Below.mono hb' (by first | omega | (simp; done) | (simp; omega)))))⟩
        have h1 := Tm.counts_take Tm.isApp t.args j hjx
        have h3 := Hq.out
        unfold Hid
        omega
      case measure => simp [intOf]; omega
    · go_wp2
      go_ret
      refine ⟨ret_int ?_, hb⟩
      have h3 := Hq.out
      have h4 : l.an = t.args.length := hr.1
      rw [List.take_of_length_le (by omega)] at h3
      rw [hce.out]
      simp only [h3]

set_option maxHeartbeats 1600000 in
theorem implcount_isSplice (t : Tm) : ∀ (l : Lt) (w : World), Md w t l → Tm.sizes t.args ≤ 1048576 →
    Calls Try.prog 44 #[.agg #[.int .i64 t.kind, .string t.name, .string t.other, .int .i64 t.n, .int .i64 t.type.kind, .slice l.ta l.tn l.tc, .int .i64 t.res.kind, .slice l.ra l.rn l.rc, .slice l.aa l.an l.ac], .func (.func 47) #[] #[]] w fun e w' => e = .returned (.int .i64 (t.count Tm.isSplice : Int)) ∧ Below w.heap.size w w' := by
  induction t using Tm.ind' with | h t ih => ?_
  intro l w h hl
  have IH := hide ih
  clear ih
  obtain ⟨h0, ht, hrr, hr⟩ := h.shape
  clear ht hrr
  have hn : l.an ≤ 1048576 := by
    have := Tm.length_le_sizes t.args
    have h1 : l.an = t.args.length := hr.1
    omega
  have hce := hide (t.count_eq Tm.isSplice)
  go_enter Try.func44, Try.ntmps44
  have hA := h.below (below_new w (.cells #[.int .i64 t.kind, .string t.name, .string t.other, .int .i64 t.n, .int .i64 t.type.kind, .slice l.ta l.tn l.tc, .int .i64 t.res.kind, .slice l.ra l.rn l.rc, .slice l.aa l.an l.ac] 35))
  go_wp2_with (first
    | (go_at_call 47; (with_reducible refine (lit_Tm.isSplice t l _ hA).mono ?_); rintro e w1 ⟨rfl, b1⟩; have B1 := ((Blk.new w _ _).under b1).nine.2.2.2.2.2.2.2.2)
    | (go_at_call 61; (with_reducible refine (implbit_any _ _).mono ?_); rintro e w2 ⟨rfl, rfl⟩))
  go_loopw [5, 15] (fun s i wr => ∃ j : Nat, j ≤ l.an ∧ i = .int .i64 j ∧ (∃ q : Nat, q ≤ 1048577 ∧ s = .int .i64 (q : Int) ∧ Hid (q = (Tm.isSplice t).toNat + Tm.counts Tm.isSplice (t.args.take j))) ∧ Below w.heap.size w wr) (fun _ i _ => l.an - (intOf i).toNat)
  case atStart => exact ⟨0, by omega, rfl, ⟨(Tm.isSplice t).toNat, by have := Bool.toNat_le (Tm.isSplice t); omega, by first | (rw [bitI_nat]; done) | (rw [bitI_nat]; rfl), by simp [Hid, Tm.counts]⟩, below_of_alloc b1⟩
  case round =>
    obtain ⟨j, hj, rfl, ⟨q, hq, rfl, Hq⟩, hb⟩ := hrel
    have hsz := hb.size
    by_cases hjn : j < l.an
    · have hjx : j < t.args.length := by rw [← hr.1]; exact hjn
      obtain ⟨b, off, l', ha, hlt, hc, hd⟩ := (hr.below hb).get j hjx
      obtain ⟨e0, e1, e2, e3, e4, e5, e6, e7, e8⟩ := hc.nine
      clear hc
      rw [ha]
      have hz : Tm.sizes t.args[j].args ≤ 1048576 ∧ q + t.args[j].count Tm.isSplice ≤ 1048577 := by
        have h1 := Tm.sizes_take t.args j hjx
        have h2 := Tm.sizes_take_le t.args (j + 1)
        have h3 := Hq.out
        have h4 := Tm.size_eq t.args[j]
        have h5 := Tm.counts_le Tm.isSplice (t.args.take j)
        have h6 := Tm.count_le Tm.isSplice t.args[j]
        have h7 := Bool.toNat_le (Tm.isSplice t)
        omega
      obtain ⟨hz1, hz2⟩ := hz
      go_wp2_with (go_at_call 44; (with_reducible refine (IH.out _ (List.getElem_mem hjx) _ _ (hd.below (by repeat (first | exact Below.refl _ _ | assumption | refine Below.drew ?_ | refine below_drewN ?_ _ | refine Below.alloc ?_ (by first | omega | (simp; done) | (simp; omega)) _ | refine Below.setCell ?_ (by first | omega | (simp; done) | (simp; omega)) _))) hz1).mono ?_); rintro e w' ⟨rfl, hb'⟩)
      go_roundw
      case rel =>
        refine ⟨j + 1, by omega, by go_num, ⟨q + t.args[j].count Tm.isSplice, hz2, by go_num, ?_⟩, hb.trans (by repeat (first | exact Below.refl _ _ | refine Below.drew ?_ | refine below_drewN ?_ _ | refine Below.alloc ?_ (by first | omega | (simp; done) | (simp; omega)) _ | refine Below.setCell ?_ (by first | omega | (simp; done) | (simp; omega)) _ | refine Below.trans ?_ (Below.mono hb' (by first | omega | (simp; done) | (simp; omega)))))⟩
        have h1 := Tm.counts_take Tm.isSplice t.args j hjx
        have h3 := Hq.out
        unfold Hid
        omega
      case measure => simp [intOf]; omega
    · go_wp2
      go_ret
      refine ⟨ret_int ?_, hb⟩
      have h3 := Hq.out
      have h4 : l.an = t.args.length := hr.1
      rw [List.take_of_length_le (by omega)] at h3
      rw [hce.out]
      simp only [h3]

set_option maxHeartbeats 1600000 in
theorem implcount_isStage (t : Tm) : ∀ (l : Lt) (w : World), Md w t l → Tm.sizes t.args ≤ 1048576 →
    Calls Try.prog 44 #[.agg #[.int .i64 t.kind, .string t.name, .string t.other, .int .i64 t.n, .int .i64 t.type.kind, .slice l.ta l.tn l.tc, .int .i64 t.res.kind, .slice l.ra l.rn l.rc, .slice l.aa l.an l.ac], .func (.func 48) #[] #[]] w fun e w' => e = .returned (.int .i64 (t.count Tm.isStage : Int)) ∧ Below w.heap.size w w' := by
  induction t using Tm.ind' with | h t ih => ?_
  intro l w h hl
  have IH := hide ih
  clear ih
  obtain ⟨h0, ht, hrr, hr⟩ := h.shape
  clear ht hrr
  have hn : l.an ≤ 1048576 := by
    have := Tm.length_le_sizes t.args
    have h1 : l.an = t.args.length := hr.1
    omega
  have hce := hide (t.count_eq Tm.isStage)
  go_enter Try.func44, Try.ntmps44
  have hA := h.below (below_new w (.cells #[.int .i64 t.kind, .string t.name, .string t.other, .int .i64 t.n, .int .i64 t.type.kind, .slice l.ta l.tn l.tc, .int .i64 t.res.kind, .slice l.ra l.rn l.rc, .slice l.aa l.an l.ac] 35))
  go_wp2_with (first
    | (go_at_call 48; (with_reducible refine (lit_Tm.isStage t l _ hA).mono ?_); rintro e w1 ⟨rfl, b1⟩; have B1 := ((Blk.new w _ _).under b1).nine.2.2.2.2.2.2.2.2)
    | (go_at_call 61; (with_reducible refine (implbit_any _ _).mono ?_); rintro e w2 ⟨rfl, rfl⟩))
  go_loopw [5, 15] (fun s i wr => ∃ j : Nat, j ≤ l.an ∧ i = .int .i64 j ∧ (∃ q : Nat, q ≤ 1048577 ∧ s = .int .i64 (q : Int) ∧ Hid (q = (Tm.isStage t).toNat + Tm.counts Tm.isStage (t.args.take j))) ∧ Below w.heap.size w wr) (fun _ i _ => l.an - (intOf i).toNat)
  case atStart => exact ⟨0, by omega, rfl, ⟨(Tm.isStage t).toNat, by have := Bool.toNat_le (Tm.isStage t); omega, by first | (rw [bitI_nat]; done) | (rw [bitI_nat]; rfl), by simp [Hid, Tm.counts]⟩, below_of_alloc b1⟩
  case round =>
    obtain ⟨j, hj, rfl, ⟨q, hq, rfl, Hq⟩, hb⟩ := hrel
    have hsz := hb.size
    by_cases hjn : j < l.an
    · have hjx : j < t.args.length := by rw [← hr.1]; exact hjn
      obtain ⟨b, off, l', ha, hlt, hc, hd⟩ := (hr.below hb).get j hjx
      obtain ⟨e0, e1, e2, e3, e4, e5, e6, e7, e8⟩ := hc.nine
      clear hc
      rw [ha]
      have hz : Tm.sizes t.args[j].args ≤ 1048576 ∧ q + t.args[j].count Tm.isStage ≤ 1048577 := by
        have h1 := Tm.sizes_take t.args j hjx
        have h2 := Tm.sizes_take_le t.args (j + 1)
        have h3 := Hq.out
        have h4 := Tm.size_eq t.args[j]
        have h5 := Tm.counts_le Tm.isStage (t.args.take j)
        have h6 := Tm.count_le Tm.isStage t.args[j]
        have h7 := Bool.toNat_le (Tm.isStage t)
        omega
      obtain ⟨hz1, hz2⟩ := hz
      go_wp2_with (go_at_call 44; (with_reducible refine (IH.out _ (List.getElem_mem hjx) _ _ (hd.below (by repeat (first | exact Below.refl _ _ | assumption | refine Below.drew ?_ | refine below_drewN ?_ _ | refine Below.alloc ?_ (by first | omega | (simp; done) | (simp; omega)) _ | refine Below.setCell ?_ (by first | omega | (simp; done) | (simp; omega)) _))) hz1).mono ?_); rintro e w' ⟨rfl, hb'⟩)
      go_roundw
      case rel =>
        refine ⟨j + 1, by omega, by go_num, ⟨q + t.args[j].count Tm.isStage, hz2, by go_num, ?_⟩, hb.trans (by repeat (first | exact Below.refl _ _ | refine Below.drew ?_ | refine below_drewN ?_ _ | refine Below.alloc ?_ (by first | omega | (simp; done) | (simp; omega)) _ | refine Below.setCell ?_ (by first | omega | (simp; done) | (simp; omega)) _ | refine Below.trans ?_ (Below.mono hb' (by first | omega | (simp; done) | (simp; omega)))))⟩
        have h1 := Tm.counts_take Tm.isStage t.args j hjx
        have h3 := Hq.out
        unfold Hid
        omega
      case measure => simp [intOf]; omega
    · go_wp2
      go_ret
      refine ⟨ret_int ?_, hb⟩
      have h3 := Hq.out
      have h4 : l.an = t.args.length := hr.1
      rw [List.take_of_length_le (by omega)] at h3
      rw [hce.out]
      simp only [h3]
end Go.Proofs.Ytaackbedahpnaaa
