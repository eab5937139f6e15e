/-
  The reader of a text, third part.
-/
import Derived.Test.YtklifieahcoljaaGreatPkRdB
import Derived.Test.YtklifieahcoljaaGreatPkTy
import Derived.WideShapes
namespace Go.Proofs.YtklifieahcoljaaGreat
open Go.RowKit
set_option maxRecDepth 100000
set_option linter.unusedVariables false
set_option linter.unusedSimpArgs false

theorem ba_same {x s : ByteArray} (h : x = s) : (x.toList == s.toList) = true := by subst h; simp
theorem ba_other {x s : ByteArray} (h : ¬ x = s) : (x.toList == s.toList) = false := by
  rw [beq_eq_false_iff_ne]
  exact fun e => h (Go.WideShapes.bytes_inj (by rw [← ByteArray.toList_eq, ← ByteArray.toList_eq]; exact e))
/-- What a reading of a number gives. -/
def GivesI (w : World) (e : Ending) (w' : World) : Prop := ∃ (n : Int) (b : Bool), e = .returned (.tuple #[.int .i64 n, .bool b]) ∧ i64 n ∧ Below w.heap.size w w'
theorem ten_step {u j c : Nat} (h : u < 10 ^ j) (hc : c ≤ 57) (hc2 : 48 ≤ c) : u * 10 + (c - 48) < 10 ^ (j + 1) := by
  rw [Nat.pow_succ]
  omega
theorem ten_le {j : Nat} (h : j ≤ 6) : 10 ^ j ≤ 1000000 := Nat.pow_le_pow_right (n := 10) (by omega) h

set_option maxHeartbeats 3200000 in
theorem l1Read_some (s : ByteArray) (w : World) (hs : s.size ≤ 1048576) : Calls Tryz.prog 129 #[.string s, .int .i64 6] w (GivesI w) := by
  by_cases h0 : s.size = 0
  · go_enter Tryz.func129, Tryz.ntmps129
    go_wp2_with fail
    go_ret2
    exact ⟨0, false, rfl, by simp [i64], Below.refl _ _⟩
  · have hf : (decide ((s.size : Int) > 0)) = true := by simp; omega
    by_cases hm : s[0].toNat = 45
    · obtain ⟨r, hr⟩ : ∃ r, s.extract 1 s.size = r := ⟨_, rfl⟩
      have hrs : r.size = s.size - 1 := by rw [← hr]; simp
      by_cases hb : r.size < 1 ∨ 6 < r.size
      · go_enter Tryz.func129, Tryz.ntmps129
        go_wp2_with fail
        all_goals
          go_ret2
          exact ⟨0, false, rfl, by simp [i64], Below.refl _ _⟩
      · have hb1 : decide ((r.size : Int) < 1) = false := by simp; omega
        have hb2 : decide ((r.size : Int) > 6) = false := by simp; omega
        have hrk : r.size ≤ 6 := by omega
        go_enter Tryz.func129, Tryz.ntmps129
        go_wp2_with fail
        go_loopw [8, 9] (fun n i wr => ∃ j : Nat, j ≤ r.size ∧ i = .int .i64 j ∧ (∃ u : Nat, n = .int .i64 u ∧ u < 1000000 ∧ Hid (u < 10 ^ j)) ∧ w = wr) (fun _ i _ => r.size - (intOf i).toNat)
        case atStart => exact ⟨0, by omega, rfl, ⟨0, rfl, by omega, by simp [Hid]⟩, rfl⟩
        case round =>
          obtain ⟨j, hj, rfl, ⟨u, rfl, hu, HU⟩, rfl⟩ := hrel
          by_cases hjr : j < r.size
          · obtain ⟨c, hc⟩ : ∃ c : Nat, r[j].toNat = c := ⟨_, rfl⟩
            have hc8 : c < 256 := by rw [← hc]; exact UInt8.toNat_lt _
            by_cases hd1 : c < 48
            · have t1 : decide ((c : Int) < 48) = true := by simp; omega
              go_wp2_with fail
              go_ret2
              exact ⟨0, false, rfl, by simp [i64], Below.refl _ _⟩
            · by_cases hd2 : 57 < c
              · have t1 : decide ((c : Int) < 48) = false := by simp; omega
                have t2 : decide ((c : Int) > 57) = true := by simp; omega
                go_wp2_with fail
                go_ret2
                exact ⟨0, false, rfl, by simp [i64], Below.refl _ _⟩
              · have t1 : decide ((c : Int) < 48) = false := by simp; omega
                have t2 : decide ((c : Int) > 57) = false := by simp; omega
                have hu2 := ten_step HU.out (c := c) (by omega) (by omega)
                have hu4 := ten_le (j := j + 1) (by omega)
                have hu5 : u * 10 + (c - 48) < 1000000 := by omega
                clear hu4
                replace hu2 := hide hu2
                have w1 : IntKind.u8.wrap ((c : Int) - 48) = (c : Int) - 48 := IntWalk.u8_in _ (by omega)
                have e1 : ((u * 10 + (c - 48) : Nat) : Int) = 10 * (u : Int) + ((c : Int) - 48) := by omega
                replace e1 := hide e1
                go_wp2_with fail
                go_roundw
                case rel =>
                  exact ⟨j + 1, by omega, by go_num, ⟨u * 10 + (c - 48), by rw [e1.out], hu5, hu2⟩, by trivial⟩
                case measure => simp [intOf]; omega
          · have C := specFormatInt_any (-(u : Int)) w ⟨by omega, by omega⟩
            generalize itoaS (-(u : Int)) = x at C
            replace C := hide C
            by_cases hx : x = s
            · have hx1 : (x.toList == s.toList) = true := ba_same hx
              clear hx
              go_wp2_with (go_at_call 126; (with_reducible refine C.out.mono ?_); rintro e w1 ⟨rfl, b1⟩)
              go_ret2
              exact ⟨_, true, rfl, ⟨by omega, by omega⟩, b1⟩
            · have hx1 : (x.toList == s.toList) = false := ba_other hx
              clear hx
              go_wp2_with (go_at_call 126; (with_reducible refine C.out.mono ?_); rintro e w1 ⟨rfl, b1⟩)
              go_ret2
              exact ⟨0, false, rfl, by simp [i64], b1⟩
    · have hm1 : ((s[0].toNat : Int) == 45) = false := by simp; omega
      by_cases hb : s.size < 1 ∨ 6 < s.size
      · go_enter Tryz.func129, Tryz.ntmps129
        go_wp2_with fail
        all_goals
          go_ret2
          exact ⟨0, false, rfl, by simp [i64], Below.refl _ _⟩
      · have hb1 : decide ((s.size : Int) < 1) = false := by simp; omega
        have hb2 : decide ((s.size : Int) > 6) = false := by simp; omega
        have hrk : s.size ≤ 6 := by omega
        go_enter Tryz.func129, Tryz.ntmps129
        go_wp2_with fail
        go_loopw [8, 9] (fun n i wr => ∃ j : Nat, j ≤ s.size ∧ i = .int .i64 j ∧ (∃ u : Nat, n = .int .i64 u ∧ u < 1000000 ∧ Hid (u < 10 ^ j)) ∧ w = wr) (fun _ i _ => s.size - (intOf i).toNat)
        case atStart => exact ⟨0, by omega, rfl, ⟨0, rfl, by omega, by simp [Hid]⟩, rfl⟩
        case round =>
          obtain ⟨j, hj, rfl, ⟨u, rfl, hu, HU⟩, rfl⟩ := hrel
          by_cases hjr : j < s.size
          · obtain ⟨c, hc⟩ : ∃ c : Nat, s[j].toNat = c := ⟨_, rfl⟩
            have hc8 : c < 256 := by rw [← hc]; exact UInt8.toNat_lt _
            by_cases hd1 : c < 48
            · have t1 : decide ((c : Int) < 48) = true := by simp; omega
              go_wp2_with fail
              go_ret2
              exact ⟨0, false, rfl, by simp [i64], Below.refl _ _⟩
            · by_cases hd2 : 57 < c
              · have t1 : decide ((c : Int) < 48) = false := by simp; omega
                have t2 : decide ((c : Int) > 57) = true := by simp; omega
                go_wp2_with fail
                go_ret2
                exact ⟨0, false, rfl, by simp [i64], Below.refl _ _⟩
              · have t1 : decide ((c : Int) < 48) = false := by simp; omega
                have t2 : decide ((c : Int) > 57) = false := by simp; omega
                have hu2 := ten_step HU.out (c := c) (by omega) (by omega)
                have hu4 := ten_le (j := j + 1) (by omega)
                have hu5 : u * 10 + (c - 48) < 1000000 := by omega
                clear hu4
                replace hu2 := hide hu2
                have w1 : IntKind.u8.wrap ((c : Int) - 48) = (c : Int) - 48 := IntWalk.u8_in _ (by omega)
                have e1 : ((u * 10 + (c - 48) : Nat) : Int) = 10 * (u : Int) + ((c : Int) - 48) := by omega
                replace e1 := hide e1
                go_wp2_with fail
                go_roundw
                case rel =>
                  exact ⟨j + 1, by omega, by go_num, ⟨u * 10 + (c - 48), by rw [e1.out], hu5, hu2⟩, by trivial⟩
                case measure => simp [intOf]; omega
          · have C := specFormatInt_any ((u : Int)) w ⟨by omega, by omega⟩
            generalize itoaS ((u : Int)) = x at C
            replace C := hide C
            by_cases hx : x = s
            · have hx1 : (x.toList == s.toList) = true := ba_same hx
              clear hx
              go_wp2_with (go_at_call 126; (with_reducible refine C.out.mono ?_); rintro e w1 ⟨rfl, b1⟩)
              go_ret2
              exact ⟨_, true, rfl, ⟨by omega, by omega⟩, b1⟩
            · have hx1 : (x.toList == s.toList) = false := ba_other hx
              clear hx
              go_wp2_with (go_at_call 126; (with_reducible refine C.out.mono ?_); rintro e w1 ⟨rfl, b1⟩)
              go_ret2
              exact ⟨0, false, rfl, by simp [i64], b1⟩
theorem ParseNumber_some (s : ByteArray) (w : World) (hs : s.size ≤ 1048576) : Calls Tryz.prog 123 #[.string s] w (GivesI w) := by
  have C := hide (l1Read_some s w hs)
  go_enter Tryz.func123, Tryz.ntmps123
  go_wp2_with fail
  refine C.out.mono ?_
  rintro e w1 ⟨n, b, rfl, hn, b1⟩
  go_wp2_with fail
  all_goals
    go_ret2
    first
      | exact ⟨0, false, rfl, by simp [i64], b1⟩
      | exact ⟨n, true, rfl, hn, b1⟩
set_option maxHeartbeats 3200000 in
theorem l6Number_any (q : Nat) (s : ByteArray) (i : Nat) (w : World) (h : Rdr w q s i false) :
    Calls Tryz.prog 114 #[.pointer (some ⟨q, 0, none⟩)] w (GivesR q s i false 0 w) := by
  have hq := h.lt
  have R0 := Blk.new w 29 #[.int .i64 0, .string ⟨#[]⟩, .string ⟨#[]⟩, .int .i64 0, .int .i64 0, .slice none 0 0, .int .i64 0, .slice none 0 0, .slice none 0 0]
  have r0 := h.alloc (.cells #[.int .i64 0, .string ⟨#[]⟩, .string ⟨#[]⟩, .int .i64 0, .int .i64 0, .slice none 0 0, .int .i64 0, .slice none 0 0, .slice none 0 0] 29)
  have W0 := Wrote.alloc q w (.cells #[.int .i64 0, .string ⟨#[]⟩, .string ⟨#[]⟩, .int .i64 0, .int .i64 0, .slice none 0 0, .int .i64 0, .slice none 0 0, .slice none 0 0] 29)
  go_enter Tryz.func114, Tryz.ntmps114
  go_upto_region 1 with fail
  generalize w.alloc (.cells #[.int .i64 0, .string ⟨#[]⟩, .string ⟨#[]⟩, .int .i64 0, .int .i64 0, .slice none 0 0, .int .i64 0, .slice none 0 0, .slice none 0 0] 29) = w0 at R0 r0 W0 ⊢
  go_wp2_with fail
  refine (l4Word_any q s i false w0 r0).mono ?_
  rintro e w1 ⟨nm, i1, rfl, r1, hi1, hn1, k1⟩
  have R1 := k1.blk R0 (by omega)
  have W1 := W0.trans k1
  have hr2 := r1.2
  go_wp2_with fail
  refine (ParseNumber_some nm w1 (by omega)).mono ?_
  rintro e w2 ⟨n, ok, rfl, hn, b2⟩
  have R2 := R1.under b2
  have W2 := W1.next b2
  have r2 := r1.under b2
  have c2 := r2.1.cell 2
  have f2 := r2.1.free 2
  simp at c2
  go_upto_region 3 with fail
  have r3 := r2.bad (!ok)
  have R3 := R2.aside (p := ⟨q, 2, none⟩) (by simp; omega) (.bool (!ok))
  have W3 := W2.set_ 2 (.bool (!ok))
  generalize w2.setCell ⟨q, 2, none⟩ (.bool (!ok)) = w3 at r3 R3 W3 ⊢
  clear c2 f2
  go_wp2_with fail
  refine (l5Int_eq n w3).mono ?_
  rintro e w4 ⟨rfl, b4⟩
  have R4 := R3.under b4
  have W4 := W3.next b4
  have r4 := r3.under b4
  have hp : (leafM 2 n ⟨#[]⟩).wt + phi s i1 (!ok) ≤ 0 + phi s i false := by
    rw [leafM_wt]
    have h0 : (ByteArray.mk #[]).size = 0 := rfl
    have := phi_le s (i := i) (i' := i1) (b := false) (b' := !ok) (.inr ⟨rfl, hi1⟩)
    omega
  have HD := hide (GivesR.mk (N := 0) hq rfl (leafM_own (w.heap.size + 1) w4 (k := 2) (n := n) (nm := ⟨#[]⟩) (by simp [i64]) hn (by simp [ByteArray.size])) (by omega) r4 hp W4)
  have HB := (put_box R4 rfl (leafM 2 n ⟨#[]⟩) lt0).nine
  have E := putAt_zero w4 w.heap.size (leafM 2 n ⟨#[]⟩) lt0
  dsimp only [leafM, lt0, ty0] at HB E
  replace HB := hide HB
  replace E := hide E
  obtain ⟨q0, q1, q2, q3, q4, q5, q6, q7, q8⟩ : _ ∧ _ ∧ _ ∧ _ ∧ _ ∧ _ ∧ _ ∧ _ ∧ _ := ⟨R4.cell 0, R4.cell 1, R4.cell 2, R4.cell 3, R4.cell 4, R4.cell 5, R4.cell 6, R4.cell 7, R4.cell 8⟩
  simp at q0 q1 q2 q3 q4 q5 q6 q7 q8
  obtain ⟨z0, z1, z2, z3, z4, z5, z6, z7, z8⟩ : _ ∧ _ ∧ _ ∧ _ ∧ _ ∧ _ ∧ _ ∧ _ ∧ _ := ⟨R4.free 0, R4.free 1, R4.free 2, R4.free 3, R4.free 4, R4.free 5, R4.free 6, R4.free 7, R4.free 8⟩
  go_wp2_with fail
  rw [← E.out]
  obtain ⟨r0, r1, r2, r3, r4, r5, r6, r7, r8⟩ := HB.out
  refine bodyPost_ret (v := .agg #[.int .i64 (leafM 2 n ⟨#[]⟩).kind, .string (leafM 2 n ⟨#[]⟩).name, .string (leafM 2 n ⟨#[]⟩).other, .int .i64 (leafM 2 n ⟨#[]⟩).n, .int .i64 (leafM 2 n ⟨#[]⟩).type.kind, .slice lt0.ta lt0.tn lt0.tc, .int .i64 (leafM 2 n ⟨#[]⟩).res.kind, .slice lt0.ra lt0.rn lt0.rc, .slice lt0.aa lt0.an lt0.ac]) ?_ rfl HD.out
  simp [results, Tryz.results114, go_sem, r0, r1, r2, r3, r4, r5, r6, r7, r8, leafM, lt0, ty0]
end Go.Proofs.YtklifieahcoljaaGreat

namespace Go.Proofs.YtklifieahcoljaaGreat
open Go.RowKit
set_option maxRecDepth 100000
set_option linter.unusedVariables false
set_option linter.unusedSimpArgs false

set_option maxHeartbeats 51200000 in
theorem l6Term_step (q : Nat) (s : ByteArray) (d : Nat) (ih : d ≤ 20 → TermC q s (d + 1)) (hd : d ≤ 21) : TermC q s d := by
  intro i b w h
  have hq := h.lt
  have RB0 := Blk.new w 29 #[.int .i64 0, .string ⟨#[]⟩, .string ⟨#[]⟩, .int .i64 0, .int .i64 0, .slice none 0 0, .int .i64 0, .slice none 0 0, .slice none 0 0]
  have r0 := h.alloc (.cells #[.int .i64 0, .string ⟨#[]⟩, .string ⟨#[]⟩, .int .i64 0, .int .i64 0, .slice none 0 0, .int .i64 0, .slice none 0 0, .slice none 0 0] 29)
  have W0 := Wrote.alloc q w (.cells #[.int .i64 0, .string ⟨#[]⟩, .string ⟨#[]⟩, .int .i64 0, .int .i64 0, .slice none 0 0, .int .i64 0, .slice none 0 0, .slice none 0 0] 29)
  go_enter Tryz.func92, Tryz.ntmps92
  go_upto_region 1 with fail
  generalize w.alloc (.cells #[.int .i64 0, .string ⟨#[]⟩, .string ⟨#[]⟩, .int .i64 0, .int .i64 0, .slice none 0 0, .int .i64 0, .slice none 0 0, .slice none 0 0] 29) = w0 at RB0 r0 W0 ⊢
  go_cut [] (fun wx => ∃ bb : Bool, Rdr wx q s i bb ∧ (bb = false → b = false ∧ d ≤ 20 ∧ i < s.size) ∧ Blk wx w.heap.size 29 #[.int .i64 0, .string ⟨#[]⟩, .string ⟨#[]⟩, .int .i64 0, .int .i64 0, .slice none 0 0, .int .i64 0, .slice none 0 0, .slice none 0 0] ∧ Wrote [q] w wx)
  case first =>
    have HS : Hid (∀ W, Below w0.heap.size w0 W → (W.cell? ⟨q, 0, none⟩ = some (.string s) ∧ W.cell? ⟨q, 1, none⟩ = some (.int .i64 (i : Int)))) := hide fun W hW => ⟨(r0.under hW).1.cell 0, (r0.under hW).1.cell 1⟩
    have kc := below_drew w0
    have c2 := (r0.under kc).1.cell 2
    have f2 := (r0.under kc).1.free 2
    simp at c2
    have RB2 := RB0.under kc
    have r2 := r0.under kc
    have W2 := W0.next kc
    have fin : ∀ bb : Bool, Rdr (w0.drew.setCell ⟨q, 2, none⟩ (.bool bb)) q s i bb ∧ Blk (w0.drew.setCell ⟨q, 2, none⟩ (.bool bb)) w.heap.size 29 #[.int .i64 0, .string ⟨#[]⟩, .string ⟨#[]⟩, .int .i64 0, .int .i64 0, .slice none 0 0, .int .i64 0, .slice none 0 0, .slice none 0 0] ∧ Wrote [q] w (w0.drew.setCell ⟨q, 2, none⟩ (.bool bb)) := fun bb =>
      ⟨r2.bad bb, RB2.aside (p := ⟨q, 2, none⟩) (by simp; omega) _, W2.set_ 2 _⟩
    have HF := hide fin
    have HX : Hid (∀ v : Value, (w0.drew.setCell ⟨q, 2, none⟩ v).cell? ⟨q, 0, none⟩ = some (.string s) ∧ (w0.drew.setCell ⟨q, 2, none⟩ v).cell? ⟨q, 1, none⟩ = some (.int .i64 (i : Int))) := hide fun v => ⟨(World.cell?_setCell_other _ _ _ _ (by simp)).trans (HS.out _ kc).1, (World.cell?_setCell_other _ _ _ _ (by simp)).trans (HS.out _ kc).2⟩
    clear fin RB2 r2 W2
    cases b with
    | true =>
      refine wp_region_noPanic ?_
      refine wp_region_held_drew (S := (fun W => W.cell? ⟨q, 0, none⟩ = some (.string s) ∧ W.cell? ⟨q, 1, none⟩ = some (.int .i64 (i : Int)))) (by kernel_rfl) ?_ (fun hHeld => ?_)
      · (try dsimp only)
        exact HS.out _ kc
      refine takeW 0 (v := ?_) rfl (by kernel_rfl) (by kernel_rfl) (by kernel_rfl) (fun _ _ _ h => h) (by rfl) (by assumption) ?_ ?_
      rotate_left
      · intro w hSw
        (try dsimp only at hSw)
        go_simp
        (try with_reducible rfl)
      try simp only [Act.put, List.setIfInBounds_toArray, List.set_cons_zero, List.set_cons_succ]
      refine takeW 1 (v := ?_) rfl (by kernel_rfl) (by kernel_rfl) (by kernel_rfl) (fun _ _ _ h => h) (by rfl) (by assumption) ?_ ?_
      rotate_left
      · intro w hSw
        (try dsimp only at hSw)
        go_simp
        (try with_reducible rfl)
      try simp only [Act.put, List.setIfInBounds_toArray, List.set_cons_zero, List.set_cons_succ]
      refine takeW 2 (v := ?_) rfl (by kernel_rfl) (by kernel_rfl) (by kernel_rfl) (fun _ _ _ h => h) (by rfl) (by assumption) ?_ ?_
      rotate_left
      · intro w hSw
        (try dsimp only at hSw)
        go_simp
        (try with_reducible rfl)
      try simp only [Act.put, List.setIfInBounds_toArray, List.set_cons_zero, List.set_cons_succ]
      refine takeW 3 (v := ?_) rfl (by kernel_rfl) (by kernel_rfl) (by kernel_rfl) (fun _ _ _ h => h) (by rfl) (by assumption) ?_ ?_
      rotate_left
      · intro w hSw
        (try dsimp only at hSw)
        go_simp
        (try with_reducible rfl)
      try simp only [Act.put, List.setIfInBounds_toArray, List.set_cons_zero, List.set_cons_succ]
      refine goW 4 rfl (by kernel_rfl) (fun K hK => ?_)
      go_simp
      refine hK.out _ _ ?_ (fun hHeld => ?_)
      · (try dsimp only)
        exact HS.out _ kc
      clear hK K
      try simp only [Act.put, List.setIfInBounds_toArray, List.set_cons_zero, List.set_cons_succ]
      refine takeW 5 (v := ?_) rfl (by kernel_rfl) (by kernel_rfl) (by kernel_rfl) (fun _ _ _ h => h) (by rfl) (by assumption) ?_ ?_
      rotate_left
      · intro w hSw
        (try dsimp only at hSw)
        go_simp
        (try with_reducible rfl)
      try simp only [Act.put, List.setIfInBounds_toArray, List.set_cons_zero, List.set_cons_succ]
      refine skipW 6 rfl (by kernel_rfl) (by kernel_rfl) (by kernel_rfl) (fun _ _ _ h => h) (by rfl) (by assumption) ?_
      try simp only [Act.put, List.setIfInBounds_toArray, List.set_cons_zero, List.set_cons_succ]
      refine skipW 7 rfl (by kernel_rfl) (by kernel_rfl) (by kernel_rfl) (fun _ _ _ h => h) (by rfl) (by assumption) ?_
      try simp only [Act.put, List.setIfInBounds_toArray, List.set_cons_zero, List.set_cons_succ]
      refine takeW 8 (v := ?_) rfl (by kernel_rfl) (by kernel_rfl) (by kernel_rfl) (fun _ _ _ h => h) (by rfl) (by assumption) ?_ ?_
      rotate_left
      · intro w hSw
        (try dsimp only at hSw)
        go_simp
        (try with_reducible rfl)
      try simp only [Act.put, List.setIfInBounds_toArray, List.set_cons_zero, List.set_cons_succ]
      refine takeW 9 (v := ?_) rfl (by kernel_rfl) (by kernel_rfl) (by kernel_rfl) (fun _ _ _ h => h) (by rfl) (by assumption) ?_ ?_
      rotate_left
      · intro w hSw
        (try dsimp only at hSw)
        go_simp
        (try with_reducible rfl)
      try simp only [Act.put, List.setIfInBounds_toArray, List.set_cons_zero, List.set_cons_succ]
      refine skipW 10 rfl (by kernel_rfl) (by kernel_rfl) (by kernel_rfl) (fun _ _ _ h => h) (by rfl) (by assumption) ?_
      try simp only [Act.put, List.setIfInBounds_toArray, List.set_cons_zero, List.set_cons_succ]
      refine skipW 11 rfl (by kernel_rfl) (by kernel_rfl) (by kernel_rfl) (fun _ _ _ h => h) (by rfl) (by assumption) ?_
      try simp only [Act.put, List.setIfInBounds_toArray, List.set_cons_zero, List.set_cons_succ]
      refine skipW 12 rfl (by kernel_rfl) (by kernel_rfl) (by kernel_rfl) (fun _ _ _ h => h) (by rfl) (by assumption) ?_
      try simp only [Act.put, List.setIfInBounds_toArray, List.set_cons_zero, List.set_cons_succ]
      refine skipW 13 rfl (by kernel_rfl) (by kernel_rfl) (by kernel_rfl) (fun _ _ _ h => h) (by rfl) (by assumption) ?_
      try simp only [Act.put, List.setIfInBounds_toArray, List.set_cons_zero, List.set_cons_succ]
      refine skipW 14 rfl (by kernel_rfl) (by kernel_rfl) (by kernel_rfl) (fun _ _ _ h => h) (by rfl) (by assumption) ?_
      try simp only [Act.put, List.setIfInBounds_toArray, List.set_cons_zero, List.set_cons_succ]
      refine skipW 15 rfl (by kernel_rfl) (by kernel_rfl) (by kernel_rfl) (fun _ _ _ h => h) (by rfl) (by assumption) ?_
      try simp only [Act.put, List.setIfInBounds_toArray, List.set_cons_zero, List.set_cons_succ]
      refine skipW 16 rfl (by kernel_rfl) (by kernel_rfl) (by kernel_rfl) (fun _ _ _ h => h) (by rfl) (by assumption) ?_
      try simp only [Act.put, List.setIfInBounds_toArray, List.set_cons_zero, List.set_cons_succ]
      refine skipW 17 rfl (by kernel_rfl) (by kernel_rfl) (by kernel_rfl) (fun _ _ _ h => h) (by rfl) (by assumption) ?_
      try simp only [Act.put, List.setIfInBounds_toArray, List.set_cons_zero, List.set_cons_succ]
      refine skipW 18 rfl (by kernel_rfl) (by kernel_rfl) (by kernel_rfl) (fun _ _ _ h => h) (by rfl) (by assumption) ?_
      try simp only [Act.put, List.setIfInBounds_toArray, List.set_cons_zero, List.set_cons_succ]
      refine skipW 19 rfl (by kernel_rfl) (by kernel_rfl) (by kernel_rfl) (fun _ _ _ h => h) (by rfl) (by assumption) ?_
      try simp only [Act.put, List.setIfInBounds_toArray, List.set_cons_zero, List.set_cons_succ]
      refine takeW 20 (v := ?_) rfl (by kernel_rfl) (by kernel_rfl) (by kernel_rfl) (fun _ _ _ h => h) (by rfl) (by assumption) ?_ ?_
      rotate_left
      · intro w hSw
        (try dsimp only at hSw)
        go_simp
        (try with_reducible rfl)
      try simp only [Act.put, List.setIfInBounds_toArray, List.set_cons_zero, List.set_cons_succ]
      refine takeW 21 (v := ?_) rfl (by kernel_rfl) (by kernel_rfl) (by kernel_rfl) (fun _ _ _ h => h) (by rfl) (by assumption) ?_ ?_
      rotate_left
      · intro w hSw
        (try dsimp only at hSw)
        go_simp
        (try with_reducible rfl)
      try simp only [Act.put, List.setIfInBounds_toArray, List.set_cons_zero, List.set_cons_succ]
      refine takeW 22 (v := ?_) rfl (by kernel_rfl) (by kernel_rfl) (by kernel_rfl) (fun _ _ _ h => h) (by rfl) (by assumption) ?_ ?_
      rotate_left
      · intro w hSw
        (try dsimp only at hSw)
        go_simp
        (try with_reducible rfl)
      try simp only [Act.put, List.setIfInBounds_toArray, List.set_cons_zero, List.set_cons_succ]
      refine goW 23 rfl (by kernel_rfl) (fun K hK => ?_)
      go_simp
      refine hK.out _ _ ?_ (fun hHeld => ?_)
      · (try dsimp only)
        first | exact HX.out _ | exact HS.out _ kc
      clear hK K
      try simp only [Act.put, List.setIfInBounds_toArray, List.set_cons_zero, List.set_cons_succ]
      refine wpAnyH_done (by kernel_rfl) ?_ _
      refine NoPanic.normal ?_
      go_wp2_with fail
      go_meet
      exact ⟨true, (HF.out true).1, fun h => absurd h (by simp), (HF.out true).2⟩
    | false =>
      by_cases hd20 : d ≤ 20
      · have hd1 : ¬ (20 : Int) < (d : Int) := by omega
        have hd2 : (d : Int) ≤ 20 := by omega
        by_cases his : i < s.size
        · have his2 : ¬ (s.size : Int) ≤ (i : Int) := by omega
          refine wp_region_noPanic ?_
          refine wp_region_held_drew (S := (fun W => W.cell? ⟨q, 0, none⟩ = some (.string s) ∧ W.cell? ⟨q, 1, none⟩ = some (.int .i64 (i : Int)))) (by kernel_rfl) ?_ (fun hHeld => ?_)
          · (try dsimp only)
            exact HS.out _ kc
          refine takeW 0 (v := ?_) rfl (by kernel_rfl) (by kernel_rfl) (by kernel_rfl) (fun _ _ _ h => h) (by rfl) (by assumption) ?_ ?_
          rotate_left
          · intro w hSw
            (try dsimp only at hSw)
            go_simp
            (try with_reducible rfl)
          try simp only [Act.put, List.setIfInBounds_toArray, List.set_cons_zero, List.set_cons_succ]
          refine takeW 1 (v := ?_) rfl (by kernel_rfl) (by kernel_rfl) (by kernel_rfl) (fun _ _ _ h => h) (by rfl) (by assumption) ?_ ?_
          rotate_left
          · intro w hSw
            (try dsimp only at hSw)
            go_simp
            (try with_reducible rfl)
          try simp only [Act.put, List.setIfInBounds_toArray, List.set_cons_zero, List.set_cons_succ]
          refine takeW 2 (v := ?_) rfl (by kernel_rfl) (by kernel_rfl) (by kernel_rfl) (fun _ _ _ h => h) (by rfl) (by assumption) ?_ ?_
          rotate_left
          · intro w hSw
            (try dsimp only at hSw)
            go_simp
            (try with_reducible rfl)
          try simp only [Act.put, List.setIfInBounds_toArray, List.set_cons_zero, List.set_cons_succ]
          refine takeW 3 (v := ?_) rfl (by kernel_rfl) (by kernel_rfl) (by kernel_rfl) (fun _ _ _ h => h) (by rfl) (by assumption) ?_ ?_
          rotate_left
          · intro w hSw
            (try dsimp only at hSw)
            go_simp
            (try with_reducible rfl)
          try simp only [Act.put, List.setIfInBounds_toArray, List.set_cons_zero, List.set_cons_succ]
          refine goW 4 rfl (by kernel_rfl) (fun K hK => ?_)
          go_simp
          refine hK.out _ _ ?_ (fun hHeld => ?_)
          · (try dsimp only)
            exact HS.out _ kc
          clear hK K
          try simp only [Act.put, List.setIfInBounds_toArray, List.set_cons_zero, List.set_cons_succ]
          refine takeW 5 (v := ?_) rfl (by kernel_rfl) (by kernel_rfl) (by kernel_rfl) (fun _ _ _ h => h) (by rfl) (by assumption) ?_ ?_
          rotate_left
          · intro w hSw
            (try dsimp only at hSw)
            go_simp
            (try with_reducible rfl)
          try simp only [Act.put, List.setIfInBounds_toArray, List.set_cons_zero, List.set_cons_succ]
          refine takeW 6 (v := ?_) rfl (by kernel_rfl) (by kernel_rfl) (by kernel_rfl) (fun _ _ _ h => h) (by rfl) (by assumption) ?_ ?_
          rotate_left
          · intro w hSw
            (try dsimp only at hSw)
            go_simp
            (try with_reducible rfl)
          try simp only [Act.put, List.setIfInBounds_toArray, List.set_cons_zero, List.set_cons_succ]
          refine takeW 7 (v := ?_) rfl (by kernel_rfl) (by kernel_rfl) (by kernel_rfl) (fun _ _ _ h => h) (by rfl) (by assumption) ?_ ?_
          rotate_left
          · intro w hSw
            (try dsimp only at hSw)
            go_simp
            (try with_reducible rfl)
          try simp only [Act.put, List.setIfInBounds_toArray, List.set_cons_zero, List.set_cons_succ]
          refine takeW 8 (v := ?_) rfl (by kernel_rfl) (by kernel_rfl) (by kernel_rfl) (fun _ _ _ h => h) (by rfl) (by assumption) ?_ ?_
          rotate_left
          · intro w hSw
            (try dsimp only at hSw)
            go_simp
            (try with_reducible rfl)
          try simp only [Act.put, List.setIfInBounds_toArray, List.set_cons_zero, List.set_cons_succ]
          refine takeW 9 (v := ?_) rfl (by kernel_rfl) (by kernel_rfl) (by kernel_rfl) (fun _ _ _ h => h) (by rfl) (by assumption) ?_ ?_
          rotate_left
          · intro w hSw
            (try dsimp only at hSw)
            go_simp
            (try with_reducible rfl)
          try simp only [Act.put, List.setIfInBounds_toArray, List.set_cons_zero, List.set_cons_succ]
          refine takeW 10 (v := ?_) rfl (by kernel_rfl) (by kernel_rfl) (by kernel_rfl) (fun _ _ _ h => h) (by rfl) (by assumption) ?_ ?_
          rotate_left
          · intro w hSw
            (try dsimp only at hSw)
            go_simp
            (try with_reducible rfl)
          try simp only [Act.put, List.setIfInBounds_toArray, List.set_cons_zero, List.set_cons_succ]
          refine takeW 11 (v := ?_) rfl (by kernel_rfl) (by kernel_rfl) (by kernel_rfl) (fun _ _ _ h => h) (by rfl) (by assumption) ?_ ?_
          rotate_left
          · intro w hSw
            (try dsimp only at hSw)
            go_simp
            (try with_reducible rfl)
          try simp only [Act.put, List.setIfInBounds_toArray, List.set_cons_zero, List.set_cons_succ]
          refine takeW 12 (v := ?_) rfl (by kernel_rfl) (by kernel_rfl) (by kernel_rfl) (fun _ _ _ h => h) (by rfl) (by assumption) ?_ ?_
          rotate_left
          · intro w hSw
            (try dsimp only at hSw)
            go_simp
            (try with_reducible rfl)
          try simp only [Act.put, List.setIfInBounds_toArray, List.set_cons_zero, List.set_cons_succ]
          refine takeW 13 (v := ?_) rfl (by kernel_rfl) (by kernel_rfl) (by kernel_rfl) (fun _ _ _ h => h) (by rfl) (by assumption) ?_ ?_
          rotate_left
          · intro w hSw
            (try dsimp only at hSw)
            go_simp
            (try with_reducible rfl)
          try simp only [Act.put, List.setIfInBounds_toArray, List.set_cons_zero, List.set_cons_succ]
          refine takeW 14 (v := ?_) rfl (by kernel_rfl) (by kernel_rfl) (by kernel_rfl) (fun _ _ _ h => h) (by rfl) (by assumption) ?_ ?_
          rotate_left
          · intro w hSw
            (try dsimp only at hSw)
            go_simp
            (try with_reducible rfl)
          try simp only [Act.put, List.setIfInBounds_toArray, List.set_cons_zero, List.set_cons_succ]
          refine takeW 15 (v := ?_) rfl (by kernel_rfl) (by kernel_rfl) (by kernel_rfl) (fun _ _ _ h => h) (by rfl) (by assumption) ?_ ?_
          rotate_left
          · intro w hSw
            (try dsimp only at hSw)
            go_simp
            (try with_reducible rfl)
          try simp only [Act.put, List.setIfInBounds_toArray, List.set_cons_zero, List.set_cons_succ]
          refine takeW 16 (v := ?_) rfl (by kernel_rfl) (by kernel_rfl) (by kernel_rfl) (fun _ _ _ h => h) (by rfl) (by assumption) ?_ ?_
          rotate_left
          · intro w hSw
            (try dsimp only at hSw)
            go_simp
            (try with_reducible rfl)
          try simp only [Act.put, List.setIfInBounds_toArray, List.set_cons_zero, List.set_cons_succ]
          refine takeW 17 (v := ?_) rfl (by kernel_rfl) (by kernel_rfl) (by kernel_rfl) (fun _ _ _ h => h) (by rfl) (by assumption) ?_ ?_
          rotate_left
          · intro w hSw
            (try dsimp only at hSw)
            go_simp
            (try with_reducible rfl)
          try simp only [Act.put, List.setIfInBounds_toArray, List.set_cons_zero, List.set_cons_succ]
          refine takeW 18 (v := ?_) rfl (by kernel_rfl) (by kernel_rfl) (by kernel_rfl) (fun _ _ _ h => h) (by rfl) (by assumption) ?_ ?_
          rotate_left
          · intro w hSw
            (try dsimp only at hSw)
            go_simp
            (try with_reducible rfl)
          try simp only [Act.put, List.setIfInBounds_toArray, List.set_cons_zero, List.set_cons_succ]
          refine takeW 19 (v := ?_) rfl (by kernel_rfl) (by kernel_rfl) (by kernel_rfl) (fun _ _ _ h => h) (by rfl) (by assumption) ?_ ?_
          rotate_left
          · intro w hSw
            (try dsimp only at hSw)
            go_simp
            (try with_reducible rfl)
          try simp only [Act.put, List.setIfInBounds_toArray, List.set_cons_zero, List.set_cons_succ]
          refine takeW 20 (v := ?_) rfl (by kernel_rfl) (by kernel_rfl) (by kernel_rfl) (fun _ _ _ h => h) (by rfl) (by assumption) ?_ ?_
          rotate_left
          · intro w hSw
            (try dsimp only at hSw)
            go_simp
            (try with_reducible rfl)
          try simp only [Act.put, List.setIfInBounds_toArray, List.set_cons_zero, List.set_cons_succ]
          refine takeW 21 (v := ?_) rfl (by kernel_rfl) (by kernel_rfl) (by kernel_rfl) (fun _ _ _ h => h) (by rfl) (by assumption) ?_ ?_
          rotate_left
          · intro w hSw
            (try dsimp only at hSw)
            go_simp
            (try with_reducible rfl)
          try simp only [Act.put, List.setIfInBounds_toArray, List.set_cons_zero, List.set_cons_succ]
          refine takeW 22 (v := ?_) rfl (by kernel_rfl) (by kernel_rfl) (by kernel_rfl) (fun _ _ _ h => h) (by rfl) (by assumption) ?_ ?_
          rotate_left
          · intro w hSw
            (try dsimp only at hSw)
            go_simp
            (try with_reducible rfl)
          try simp only [Act.put, List.setIfInBounds_toArray, List.set_cons_zero, List.set_cons_succ]
          refine goW 23 rfl (by kernel_rfl) (fun K hK => ?_)
          go_simp
          refine hK.out _ _ ?_ (fun hHeld => ?_)
          · (try dsimp only)
            first | exact HX.out _ | exact HS.out _ kc
          clear hK K
          try simp only [Act.put, List.setIfInBounds_toArray, List.set_cons_zero, List.set_cons_succ]
          refine wpAnyH_done (by kernel_rfl) ?_ _
          refine NoPanic.normal ?_
          go_wp2_with fail
          go_meet
          exact ⟨false, (HF.out false).1, fun _ => ⟨by trivial, hd20, his⟩, (HF.out false).2⟩
        · have his2 : (s.size : Int) ≤ (i : Int) := by omega
          refine wp_region_noPanic ?_
          refine wp_region_held_drew (S := (fun W => W.cell? ⟨q, 0, none⟩ = some (.string s) ∧ W.cell? ⟨q, 1, none⟩ = some (.int .i64 (i : Int)))) (by kernel_rfl) ?_ (fun hHeld => ?_)
          · (try dsimp only)
            exact HS.out _ kc
          refine takeW 0 (v := ?_) rfl (by kernel_rfl) (by kernel_rfl) (by kernel_rfl) (fun _ _ _ h => h) (by rfl) (by assumption) ?_ ?_
          rotate_left
          · intro w hSw
            (try dsimp only at hSw)
            go_simp
            (try with_reducible rfl)
          try simp only [Act.put, List.setIfInBounds_toArray, List.set_cons_zero, List.set_cons_succ]
          refine takeW 1 (v := ?_) rfl (by kernel_rfl) (by kernel_rfl) (by kernel_rfl) (fun _ _ _ h => h) (by rfl) (by assumption) ?_ ?_
          rotate_left
          · intro w hSw
            (try dsimp only at hSw)
            go_simp
            (try with_reducible rfl)
          try simp only [Act.put, List.setIfInBounds_toArray, List.set_cons_zero, List.set_cons_succ]
          refine takeW 2 (v := ?_) rfl (by kernel_rfl) (by kernel_rfl) (by kernel_rfl) (fun _ _ _ h => h) (by rfl) (by assumption) ?_ ?_
          rotate_left
          · intro w hSw
            (try dsimp only at hSw)
            go_simp
            (try with_reducible rfl)
          try simp only [Act.put, List.setIfInBounds_toArray, List.set_cons_zero, List.set_cons_succ]
          refine takeW 3 (v := ?_) rfl (by kernel_rfl) (by kernel_rfl) (by kernel_rfl) (fun _ _ _ h => h) (by rfl) (by assumption) ?_ ?_
          rotate_left
          · intro w hSw
            (try dsimp only at hSw)
            go_simp
            (try with_reducible rfl)
          try simp only [Act.put, List.setIfInBounds_toArray, List.set_cons_zero, List.set_cons_succ]
          refine goW 4 rfl (by kernel_rfl) (fun K hK => ?_)
          go_simp
          refine hK.out _ _ ?_ (fun hHeld => ?_)
          · (try dsimp only)
            exact HS.out _ kc
          clear hK K
          try simp only [Act.put, List.setIfInBounds_toArray, List.set_cons_zero, List.set_cons_succ]
          refine takeW 5 (v := ?_) rfl (by kernel_rfl) (by kernel_rfl) (by kernel_rfl) (fun _ _ _ h => h) (by rfl) (by assumption) ?_ ?_
          rotate_left
          · intro w hSw
            (try dsimp only at hSw)
            go_simp
            (try with_reducible rfl)
          try simp only [Act.put, List.setIfInBounds_toArray, List.set_cons_zero, List.set_cons_succ]
          refine takeW 6 (v := ?_) rfl (by kernel_rfl) (by kernel_rfl) (by kernel_rfl) (fun _ _ _ h => h) (by rfl) (by assumption) ?_ ?_
          rotate_left
          · intro w hSw
            (try dsimp only at hSw)
            go_simp
            (try with_reducible rfl)
          try simp only [Act.put, List.setIfInBounds_toArray, List.set_cons_zero, List.set_cons_succ]
          refine takeW 7 (v := ?_) rfl (by kernel_rfl) (by kernel_rfl) (by kernel_rfl) (fun _ _ _ h => h) (by rfl) (by assumption) ?_ ?_
          rotate_left
          · intro w hSw
            (try dsimp only at hSw)
            go_simp
            (try with_reducible rfl)
          try simp only [Act.put, List.setIfInBounds_toArray, List.set_cons_zero, List.set_cons_succ]
          refine takeW 8 (v := ?_) rfl (by kernel_rfl) (by kernel_rfl) (by kernel_rfl) (fun _ _ _ h => h) (by rfl) (by assumption) ?_ ?_
          rotate_left
          · intro w hSw
            (try dsimp only at hSw)
            go_simp
            (try with_reducible rfl)
          try simp only [Act.put, List.setIfInBounds_toArray, List.set_cons_zero, List.set_cons_succ]
          refine takeW 9 (v := ?_) rfl (by kernel_rfl) (by kernel_rfl) (by kernel_rfl) (fun _ _ _ h => h) (by rfl) (by assumption) ?_ ?_
          rotate_left
          · intro w hSw
            (try dsimp only at hSw)
            go_simp
            (try with_reducible rfl)
          try simp only [Act.put, List.setIfInBounds_toArray, List.set_cons_zero, List.set_cons_succ]
          refine takeW 10 (v := ?_) rfl (by kernel_rfl) (by kernel_rfl) (by kernel_rfl) (fun _ _ _ h => h) (by rfl) (by assumption) ?_ ?_
          rotate_left
          · intro w hSw
            (try dsimp only at hSw)
            go_simp
            (try with_reducible rfl)
          try simp only [Act.put, List.setIfInBounds_toArray, List.set_cons_zero, List.set_cons_succ]
          refine takeW 11 (v := ?_) rfl (by kernel_rfl) (by kernel_rfl) (by kernel_rfl) (fun _ _ _ h => h) (by rfl) (by assumption) ?_ ?_
          rotate_left
          · intro w hSw
            (try dsimp only at hSw)
            go_simp
            (try with_reducible rfl)
          try simp only [Act.put, List.setIfInBounds_toArray, List.set_cons_zero, List.set_cons_succ]
          refine takeW 12 (v := ?_) rfl (by kernel_rfl) (by kernel_rfl) (by kernel_rfl) (fun _ _ _ h => h) (by rfl) (by assumption) ?_ ?_
          rotate_left
          · intro w hSw
            (try dsimp only at hSw)
            go_simp
            (try with_reducible rfl)
          try simp only [Act.put, List.setIfInBounds_toArray, List.set_cons_zero, List.set_cons_succ]
          refine takeW 13 (v := ?_) rfl (by kernel_rfl) (by kernel_rfl) (by kernel_rfl) (fun _ _ _ h => h) (by rfl) (by assumption) ?_ ?_
          rotate_left
          · intro w hSw
            (try dsimp only at hSw)
            go_simp
            (try with_reducible rfl)
          try simp only [Act.put, List.setIfInBounds_toArray, List.set_cons_zero, List.set_cons_succ]
          refine takeW 14 (v := ?_) rfl (by kernel_rfl) (by kernel_rfl) (by kernel_rfl) (fun _ _ _ h => h) (by rfl) (by assumption) ?_ ?_
          rotate_left
          · intro w hSw
            (try dsimp only at hSw)
            go_simp
            (try with_reducible rfl)
          try simp only [Act.put, List.setIfInBounds_toArray, List.set_cons_zero, List.set_cons_succ]
          refine takeW 15 (v := ?_) rfl (by kernel_rfl) (by kernel_rfl) (by kernel_rfl) (fun _ _ _ h => h) (by rfl) (by assumption) ?_ ?_
          rotate_left
          · intro w hSw
            (try dsimp only at hSw)
            go_simp
            (try with_reducible rfl)
          try simp only [Act.put, List.setIfInBounds_toArray, List.set_cons_zero, List.set_cons_succ]
          refine takeW 16 (v := ?_) rfl (by kernel_rfl) (by kernel_rfl) (by kernel_rfl) (fun _ _ _ h => h) (by rfl) (by assumption) ?_ ?_
          rotate_left
          · intro w hSw
            (try dsimp only at hSw)
            go_simp
            (try with_reducible rfl)
          try simp only [Act.put, List.setIfInBounds_toArray, List.set_cons_zero, List.set_cons_succ]
          refine takeW 17 (v := ?_) rfl (by kernel_rfl) (by kernel_rfl) (by kernel_rfl) (fun _ _ _ h => h) (by rfl) (by assumption) ?_ ?_
          rotate_left
          · intro w hSw
            (try dsimp only at hSw)
            go_simp
            (try with_reducible rfl)
          try simp only [Act.put, List.setIfInBounds_toArray, List.set_cons_zero, List.set_cons_succ]
          refine takeW 18 (v := ?_) rfl (by kernel_rfl) (by kernel_rfl) (by kernel_rfl) (fun _ _ _ h => h) (by rfl) (by assumption) ?_ ?_
          rotate_left
          · intro w hSw
            (try dsimp only at hSw)
            go_simp
            (try with_reducible rfl)
          try simp only [Act.put, List.setIfInBounds_toArray, List.set_cons_zero, List.set_cons_succ]
          refine takeW 19 (v := ?_) rfl (by kernel_rfl) (by kernel_rfl) (by kernel_rfl) (fun _ _ _ h => h) (by rfl) (by assumption) ?_ ?_
          rotate_left
          · intro w hSw
            (try dsimp only at hSw)
            go_simp
            (try with_reducible rfl)
          try simp only [Act.put, List.setIfInBounds_toArray, List.set_cons_zero, List.set_cons_succ]
          refine takeW 20 (v := ?_) rfl (by kernel_rfl) (by kernel_rfl) (by kernel_rfl) (fun _ _ _ h => h) (by rfl) (by assumption) ?_ ?_
          rotate_left
          · intro w hSw
            (try dsimp only at hSw)
            go_simp
            (try with_reducible rfl)
          try simp only [Act.put, List.setIfInBounds_toArray, List.set_cons_zero, List.set_cons_succ]
          refine takeW 21 (v := ?_) rfl (by kernel_rfl) (by kernel_rfl) (by kernel_rfl) (fun _ _ _ h => h) (by rfl) (by assumption) ?_ ?_
          rotate_left
          · intro w hSw
            (try dsimp only at hSw)
            go_simp
            (try with_reducible rfl)
          try simp only [Act.put, List.setIfInBounds_toArray, List.set_cons_zero, List.set_cons_succ]
          refine takeW 22 (v := ?_) rfl (by kernel_rfl) (by kernel_rfl) (by kernel_rfl) (fun _ _ _ h => h) (by rfl) (by assumption) ?_ ?_
          rotate_left
          · intro w hSw
            (try dsimp only at hSw)
            go_simp
            (try with_reducible rfl)
          try simp only [Act.put, List.setIfInBounds_toArray, List.set_cons_zero, List.set_cons_succ]
          refine goW 23 rfl (by kernel_rfl) (fun K hK => ?_)
          go_simp
          refine hK.out _ _ ?_ (fun hHeld => ?_)
          · (try dsimp only)
            first | exact HX.out _ | exact HS.out _ kc
          clear hK K
          try simp only [Act.put, List.setIfInBounds_toArray, List.set_cons_zero, List.set_cons_succ]
          refine wpAnyH_done (by kernel_rfl) ?_ _
          refine NoPanic.normal ?_
          go_wp2_with fail
          go_meet
          exact ⟨true, (HF.out true).1, fun h => absurd h (by simp), (HF.out true).2⟩
      · have hd1 : (20 : Int) < (d : Int) := by omega
        refine wp_region_noPanic ?_
        refine wp_region_held_drew (S := (fun W => W.cell? ⟨q, 0, none⟩ = some (.string s) ∧ W.cell? ⟨q, 1, none⟩ = some (.int .i64 (i : Int)))) (by kernel_rfl) ?_ (fun hHeld => ?_)
        · (try dsimp only)
          exact HS.out _ kc
        refine takeW 0 (v := ?_) rfl (by kernel_rfl) (by kernel_rfl) (by kernel_rfl) (fun _ _ _ h => h) (by rfl) (by assumption) ?_ ?_
        rotate_left
        · intro w hSw
          (try dsimp only at hSw)
          go_simp
          (try with_reducible rfl)
        try simp only [Act.put, List.setIfInBounds_toArray, List.set_cons_zero, List.set_cons_succ]
        refine takeW 1 (v := ?_) rfl (by kernel_rfl) (by kernel_rfl) (by kernel_rfl) (fun _ _ _ h => h) (by rfl) (by assumption) ?_ ?_
        rotate_left
        · intro w hSw
          (try dsimp only at hSw)
          go_simp
          (try with_reducible rfl)
        try simp only [Act.put, List.setIfInBounds_toArray, List.set_cons_zero, List.set_cons_succ]
        refine takeW 2 (v := ?_) rfl (by kernel_rfl) (by kernel_rfl) (by kernel_rfl) (fun _ _ _ h => h) (by rfl) (by assumption) ?_ ?_
        rotate_left
        · intro w hSw
          (try dsimp only at hSw)
          go_simp
          (try with_reducible rfl)
        try simp only [Act.put, List.setIfInBounds_toArray, List.set_cons_zero, List.set_cons_succ]
        refine takeW 3 (v := ?_) rfl (by kernel_rfl) (by kernel_rfl) (by kernel_rfl) (fun _ _ _ h => h) (by rfl) (by assumption) ?_ ?_
        rotate_left
        · intro w hSw
          (try dsimp only at hSw)
          go_simp
          (try with_reducible rfl)
        try simp only [Act.put, List.setIfInBounds_toArray, List.set_cons_zero, List.set_cons_succ]
        refine goW 4 rfl (by kernel_rfl) (fun K hK => ?_)
        go_simp
        refine hK.out _ _ ?_ (fun hHeld => ?_)
        · (try dsimp only)
          exact HS.out _ kc
        clear hK K
        try simp only [Act.put, List.setIfInBounds_toArray, List.set_cons_zero, List.set_cons_succ]
        refine takeW 5 (v := ?_) rfl (by kernel_rfl) (by kernel_rfl) (by kernel_rfl) (fun _ _ _ h => h) (by rfl) (by assumption) ?_ ?_
        rotate_left
        · intro w hSw
          (try dsimp only at hSw)
          go_simp
          (try with_reducible rfl)
        try simp only [Act.put, List.setIfInBounds_toArray, List.set_cons_zero, List.set_cons_succ]
        refine takeW 6 (v := ?_) rfl (by kernel_rfl) (by kernel_rfl) (by kernel_rfl) (fun _ _ _ h => h) (by rfl) (by assumption) ?_ ?_
        rotate_left
        · intro w hSw
          (try dsimp only at hSw)
          go_simp
          (try with_reducible rfl)
        try simp only [Act.put, List.setIfInBounds_toArray, List.set_cons_zero, List.set_cons_succ]
        refine takeW 7 (v := ?_) rfl (by kernel_rfl) (by kernel_rfl) (by kernel_rfl) (fun _ _ _ h => h) (by rfl) (by assumption) ?_ ?_
        rotate_left
        · intro w hSw
          (try dsimp only at hSw)
          go_simp
          (try with_reducible rfl)
        try simp only [Act.put, List.setIfInBounds_toArray, List.set_cons_zero, List.set_cons_succ]
        refine takeW 8 (v := ?_) rfl (by kernel_rfl) (by kernel_rfl) (by kernel_rfl) (fun _ _ _ h => h) (by rfl) (by assumption) ?_ ?_
        rotate_left
        · intro w hSw
          (try dsimp only at hSw)
          go_simp
          (try with_reducible rfl)
        try simp only [Act.put, List.setIfInBounds_toArray, List.set_cons_zero, List.set_cons_succ]
        refine takeW 9 (v := ?_) rfl (by kernel_rfl) (by kernel_rfl) (by kernel_rfl) (fun _ _ _ h => h) (by rfl) (by assumption) ?_ ?_
        rotate_left
        · intro w hSw
          (try dsimp only at hSw)
          go_simp
          (try with_reducible rfl)
        try simp only [Act.put, List.setIfInBounds_toArray, List.set_cons_zero, List.set_cons_succ]
        refine skipW 10 rfl (by kernel_rfl) (by kernel_rfl) (by kernel_rfl) (fun _ _ _ h => h) (by rfl) (by assumption) ?_
        try simp only [Act.put, List.setIfInBounds_toArray, List.set_cons_zero, List.set_cons_succ]
        refine skipW 11 rfl (by kernel_rfl) (by kernel_rfl) (by kernel_rfl) (fun _ _ _ h => h) (by rfl) (by assumption) ?_
        try simp only [Act.put, List.setIfInBounds_toArray, List.set_cons_zero, List.set_cons_succ]
        refine skipW 12 rfl (by kernel_rfl) (by kernel_rfl) (by kernel_rfl) (fun _ _ _ h => h) (by rfl) (by assumption) ?_
        try simp only [Act.put, List.setIfInBounds_toArray, List.set_cons_zero, List.set_cons_succ]
        refine skipW 13 rfl (by kernel_rfl) (by kernel_rfl) (by kernel_rfl) (fun _ _ _ h => h) (by rfl) (by assumption) ?_
        try simp only [Act.put, List.setIfInBounds_toArray, List.set_cons_zero, List.set_cons_succ]
        refine skipW 14 rfl (by kernel_rfl) (by kernel_rfl) (by kernel_rfl) (fun _ _ _ h => h) (by rfl) (by assumption) ?_
        try simp only [Act.put, List.setIfInBounds_toArray, List.set_cons_zero, List.set_cons_succ]
        refine skipW 15 rfl (by kernel_rfl) (by kernel_rfl) (by kernel_rfl) (fun _ _ _ h => h) (by rfl) (by assumption) ?_
        try simp only [Act.put, List.setIfInBounds_toArray, List.set_cons_zero, List.set_cons_succ]
        refine skipW 16 rfl (by kernel_rfl) (by kernel_rfl) (by kernel_rfl) (fun _ _ _ h => h) (by rfl) (by assumption) ?_
        try simp only [Act.put, List.setIfInBounds_toArray, List.set_cons_zero, List.set_cons_succ]
        refine skipW 17 rfl (by kernel_rfl) (by kernel_rfl) (by kernel_rfl) (fun _ _ _ h => h) (by rfl) (by assumption) ?_
        try simp only [Act.put, List.setIfInBounds_toArray, List.set_cons_zero, List.set_cons_succ]
        refine skipW 18 rfl (by kernel_rfl) (by kernel_rfl) (by kernel_rfl) (fun _ _ _ h => h) (by rfl) (by assumption) ?_
        try simp only [Act.put, List.setIfInBounds_toArray, List.set_cons_zero, List.set_cons_succ]
        refine skipW 19 rfl (by kernel_rfl) (by kernel_rfl) (by kernel_rfl) (fun _ _ _ h => h) (by rfl) (by assumption) ?_
        try simp only [Act.put, List.setIfInBounds_toArray, List.set_cons_zero, List.set_cons_succ]
        refine takeW 20 (v := ?_) rfl (by kernel_rfl) (by kernel_rfl) (by kernel_rfl) (fun _ _ _ h => h) (by rfl) (by assumption) ?_ ?_
        rotate_left
        · intro w hSw
          (try dsimp only at hSw)
          go_simp
          (try with_reducible rfl)
        try simp only [Act.put, List.setIfInBounds_toArray, List.set_cons_zero, List.set_cons_succ]
        refine takeW 21 (v := ?_) rfl (by kernel_rfl) (by kernel_rfl) (by kernel_rfl) (fun _ _ _ h => h) (by rfl) (by assumption) ?_ ?_
        rotate_left
        · intro w hSw
          (try dsimp only at hSw)
          go_simp
          (try with_reducible rfl)
        try simp only [Act.put, List.setIfInBounds_toArray, List.set_cons_zero, List.set_cons_succ]
        refine takeW 22 (v := ?_) rfl (by kernel_rfl) (by kernel_rfl) (by kernel_rfl) (fun _ _ _ h => h) (by rfl) (by assumption) ?_ ?_
        rotate_left
        · intro w hSw
          (try dsimp only at hSw)
          go_simp
          (try with_reducible rfl)
        try simp only [Act.put, List.setIfInBounds_toArray, List.set_cons_zero, List.set_cons_succ]
        refine goW 23 rfl (by kernel_rfl) (fun K hK => ?_)
        go_simp
        refine hK.out _ _ ?_ (fun hHeld => ?_)
        · (try dsimp only)
          first | exact HX.out _ | exact HS.out _ kc
        clear hK K
        try simp only [Act.put, List.setIfInBounds_toArray, List.set_cons_zero, List.set_cons_succ]
        refine wpAnyH_done (by kernel_rfl) ?_ _
        refine NoPanic.normal ?_
        go_wp2_with fail
        go_meet
        exact ⟨true, (HF.out true).1, fun h => absurd h (by simp), (HF.out true).2⟩
  case rest =>
  clear RB0 r0 W0
  obtain ⟨bb, ra, hbb, RA, WA⟩ := hcut
  have c2 := ra.1.cell 2
  simp at c2
  cases bb with
  | true =>
    clear hbb ih
    have RB := RA
    have hp : (leafM 0 0 ⟨#[]⟩).wt + phi s i true ≤ 0 + phi s i b := by
      rw [leafM_wt]
      have h0 : (ByteArray.mk #[]).size = 0 := rfl
      rw [phi_bad]; omega
    have HD := hide (GivesR.mk (N := 0) hq rfl (leafM_own (w.heap.size + 1) wc (by simp [i64]) (by simp [i64]) (by first | omega | (simp [ByteArray.size]; done))) (by omega) ra hp WA)
    have HB := (put_box RB rfl (leafM 0 0 ⟨#[]⟩) lt0).nine
    have E := putAt_zero wc w.heap.size (leafM 0 0 ⟨#[]⟩) lt0
    dsimp only [leafM, lt0, ty0] at HB E
    replace HB := hide HB
    replace E := hide E
    obtain ⟨q0, q1, q2, q3, q4, q5, q6, q7, q8⟩ : _ ∧ _ ∧ _ ∧ _ ∧ _ ∧ _ ∧ _ ∧ _ ∧ _ := ⟨RB.cell 0, RB.cell 1, RB.cell 2, RB.cell 3, RB.cell 4, RB.cell 5, RB.cell 6, RB.cell 7, RB.cell 8⟩
    simp at q0 q1 q2 q3 q4 q5 q6 q7 q8
    obtain ⟨z0, z1, z2, z3, z4, z5, z6, z7, z8⟩ : _ ∧ _ ∧ _ ∧ _ ∧ _ ∧ _ ∧ _ ∧ _ ∧ _ := ⟨RB.free 0, RB.free 1, RB.free 2, RB.free 3, RB.free 4, RB.free 5, RB.free 6, RB.free 7, RB.free 8⟩
    go_wp2_with fail
    rw [← E.out]
    obtain ⟨r0, r1, r2, r3, r4, r5, r6, r7, r8⟩ := HB.out
    refine bodyPost_ret (v := .agg #[.int .i64 (leafM 0 0 ⟨#[]⟩).kind, .string (leafM 0 0 ⟨#[]⟩).name, .string (leafM 0 0 ⟨#[]⟩).other, .int .i64 (leafM 0 0 ⟨#[]⟩).n, .int .i64 (leafM 0 0 ⟨#[]⟩).type.kind, .slice lt0.ta lt0.tn lt0.tc, .int .i64 (leafM 0 0 ⟨#[]⟩).res.kind, .slice lt0.ra lt0.rn lt0.rc, .slice lt0.aa lt0.an lt0.ac]) ?_ rfl HD.out
    simp [results, Tryz.results92, go_sem, r0, r1, r2, r3, r4, r5, r6, r7, r8, leafM, lt0, ty0]
  | false =>
    obtain ⟨rfl, hd20, his⟩ := hbb rfl
    have IH := hide (ih hd20)
    clear ih
    have hwd : IntKind.i64.wrap ((d : Int) + 1) = ((d + 1 : Nat) : Int) := (IntWalk.i64_in _ (by omega)).trans (by omega)
    go_upto_region 4 with fail
    generalize wc = wa at ra RA WA c2 ⊢
    go_wp2_with fail
    refine (l4Take_good q s ⟨#[35, 116]⟩ i wa ra (by decide)).mono ?_
    rintro e wb ⟨r, i1, rfl, rb, hr0, hr1, kb⟩
    have Rb := kb.blk RA (by omega)
    have Wb := WA.trans kb
    cases r with
    | true =>
      replace hr1 : _ + 10 * 2 = _ := hr1 rfl
      clear hr0 RA WA c2
      go_wp2_with fail
      refine (l5Bool_eq 1 wb).mono ?_
      rintro e w3 ⟨rfl, b3⟩
      have RB := Rb.under b3
      have r3 := rb.under b3
      have W3 := Wb.next b3
      have hp : (leafM 3 1 ⟨#[]⟩).wt + phi s i1 false ≤ 0 + phi s i false := by
        rw [leafM_wt]
        have h0 : (ByteArray.mk #[]).size = 0 := rfl
        omega
      have HD := hide (GivesR.mk (N := 0) hq rfl (leafM_own (w.heap.size + 1) w3 (by simp [i64]) (by simp [i64]) (by first | omega | (simp [ByteArray.size]; done))) (by omega) r3 hp W3)
      have HB := (put_box RB rfl (leafM 3 1 ⟨#[]⟩) lt0).nine
      have E := putAt_zero w3 w.heap.size (leafM 3 1 ⟨#[]⟩) lt0
      dsimp only [leafM, lt0, ty0] at HB E
      replace HB := hide HB
      replace E := hide E
      obtain ⟨q0, q1, q2, q3, q4, q5, q6, q7, q8⟩ : _ ∧ _ ∧ _ ∧ _ ∧ _ ∧ _ ∧ _ ∧ _ ∧ _ := ⟨RB.cell 0, RB.cell 1, RB.cell 2, RB.cell 3, RB.cell 4, RB.cell 5, RB.cell 6, RB.cell 7, RB.cell 8⟩
      simp at q0 q1 q2 q3 q4 q5 q6 q7 q8
      obtain ⟨z0, z1, z2, z3, z4, z5, z6, z7, z8⟩ : _ ∧ _ ∧ _ ∧ _ ∧ _ ∧ _ ∧ _ ∧ _ ∧ _ := ⟨RB.free 0, RB.free 1, RB.free 2, RB.free 3, RB.free 4, RB.free 5, RB.free 6, RB.free 7, RB.free 8⟩
      go_wp2_with fail
      rw [← E.out]
      obtain ⟨r0, r1, r2, r3, r4, r5, r6, r7, r8⟩ := HB.out
      refine bodyPost_ret (v := .agg #[.int .i64 (leafM 3 1 ⟨#[]⟩).kind, .string (leafM 3 1 ⟨#[]⟩).name, .string (leafM 3 1 ⟨#[]⟩).other, .int .i64 (leafM 3 1 ⟨#[]⟩).n, .int .i64 (leafM 3 1 ⟨#[]⟩).type.kind, .slice lt0.ta lt0.tn lt0.tc, .int .i64 (leafM 3 1 ⟨#[]⟩).res.kind, .slice lt0.ra lt0.rn lt0.rc, .slice lt0.aa lt0.an lt0.ac]) ?_ rfl HD.out
      simp [results, Tryz.results92, go_sem, r0, r1, r2, r3, r4, r5, r6, r7, r8, leafM, lt0, ty0]
    | false =>
      have hi2 := (hr0 rfl).symm
      subst hi2
      clear hr0 hr1 RA WA ra kb c2
      have RA := Rb
      have ra := rb
      have WA := Wb
      have c2 := ra.1.cell 2
      simp at c2
      clear Rb rb Wb
      generalize wb = wa at RA ra WA c2 ⊢
      go_wp2_with fail
      refine (l4Take_good q s ⟨#[35, 102]⟩ i wa ra (by decide)).mono ?_
      rintro e wb ⟨r, i1, rfl, rb, hr0, hr1, kb⟩
      have Rb := kb.blk RA (by omega)
      have Wb := WA.trans kb
      cases r with
      | true =>
        replace hr1 : _ + 10 * 2 = _ := hr1 rfl
        clear hr0 RA WA c2
        go_wp2_with fail
        refine (l5Bool_eq 0 wb).mono ?_
        rintro e w3 ⟨rfl, b3⟩
        have RB := Rb.under b3
        have r3 := rb.under b3
        have W3 := Wb.next b3
        have hp : (leafM 3 0 ⟨#[]⟩).wt + phi s i1 false ≤ 0 + phi s i false := by
          rw [leafM_wt]
          have h0 : (ByteArray.mk #[]).size = 0 := rfl
          omega
        have HD := hide (GivesR.mk (N := 0) hq rfl (leafM_own (w.heap.size + 1) w3 (by simp [i64]) (by simp [i64]) (by first | omega | (simp [ByteArray.size]; done))) (by omega) r3 hp W3)
        have HB := (put_box RB rfl (leafM 3 0 ⟨#[]⟩) lt0).nine
        have E := putAt_zero w3 w.heap.size (leafM 3 0 ⟨#[]⟩) lt0
        dsimp only [leafM, lt0, ty0] at HB E
        replace HB := hide HB
        replace E := hide E
        obtain ⟨q0, q1, q2, q3, q4, q5, q6, q7, q8⟩ : _ ∧ _ ∧ _ ∧ _ ∧ _ ∧ _ ∧ _ ∧ _ ∧ _ := ⟨RB.cell 0, RB.cell 1, RB.cell 2, RB.cell 3, RB.cell 4, RB.cell 5, RB.cell 6, RB.cell 7, RB.cell 8⟩
        simp at q0 q1 q2 q3 q4 q5 q6 q7 q8
        obtain ⟨z0, z1, z2, z3, z4, z5, z6, z7, z8⟩ : _ ∧ _ ∧ _ ∧ _ ∧ _ ∧ _ ∧ _ ∧ _ ∧ _ := ⟨RB.free 0, RB.free 1, RB.free 2, RB.free 3, RB.free 4, RB.free 5, RB.free 6, RB.free 7, RB.free 8⟩
        go_wp2_with fail
        rw [← E.out]
        obtain ⟨r0, r1, r2, r3, r4, r5, r6, r7, r8⟩ := HB.out
        refine bodyPost_ret (v := .agg #[.int .i64 (leafM 3 0 ⟨#[]⟩).kind, .string (leafM 3 0 ⟨#[]⟩).name, .string (leafM 3 0 ⟨#[]⟩).other, .int .i64 (leafM 3 0 ⟨#[]⟩).n, .int .i64 (leafM 3 0 ⟨#[]⟩).type.kind, .slice lt0.ta lt0.tn lt0.tc, .int .i64 (leafM 3 0 ⟨#[]⟩).res.kind, .slice lt0.ra lt0.rn lt0.rc, .slice lt0.aa lt0.an lt0.ac]) ?_ rfl HD.out
        simp [results, Tryz.results92, go_sem, r0, r1, r2, r3, r4, r5, r6, r7, r8, leafM, lt0, ty0]
      | false =>
        have hi2 := (hr0 rfl).symm
        subst hi2
        clear hr0 hr1 RA WA ra kb c2
        have RA := Rb
        have ra := rb
        have WA := Wb
        have c2 := ra.1.cell 2
        simp at c2
        clear Rb rb Wb
        generalize wb = wa at RA ra WA c2 ⊢
        go_wp2_with fail
        refine (l4Take_good q s ⟨#[126]⟩ i wa ra (by decide)).mono ?_
        rintro e wb ⟨r, i1, rfl, rb, hr0, hr1, kb⟩
        have Rb := kb.blk RA (by omega)
        have Wb := WA.trans kb
        cases r with
        | true =>
          replace hr1 : _ + 10 * 1 = _ := hr1 rfl
          clear hr0 RA WA c2
          go_wp2_with fail
          refine (IH.out i1 false wb rb).mono ?_
          rintro e w5 ⟨t, l, i5, b5, rfl, O5, r5, p5, k5⟩
          have sb := Rb.lt
          have R5 := k5.blk Rb (by omega)
          have W5 := Wb.trans k5
          have s5 := k5.size
          have O6 := (O5.base (show w.heap.size + 1 ≤ wb.heap.size by omega)).wrap (by omega) 11 (by simp [i64])
          have RB := R5.alloc (.cells #[.int .i64 t.kind, .string t.name, .string t.other, .int .i64 t.n, .int .i64 t.type.kind, .slice l.ta l.tn l.tc, .int .i64 t.res.kind, .slice l.ra l.rn l.rc, .slice l.aa l.an l.ac] 29)
          have r6 := r5.alloc (.cells #[.int .i64 t.kind, .string t.name, .string t.other, .int .i64 t.n, .int .i64 t.type.kind, .slice l.ta l.tn l.tc, .int .i64 t.res.kind, .slice l.ra l.rn l.rc, .slice l.aa l.an l.ac] 29)
          have W6 := W5.next (below_new w5 (.cells #[.int .i64 t.kind, .string t.name, .string t.other, .int .i64 t.n, .int .i64 t.type.kind, .slice l.ta l.tn l.tc, .int .i64 t.res.kind, .slice l.ra l.rn l.rc, .slice l.aa l.an l.ac] 29))
          have hw6 := wrapM_wt 11 t
          have HD := hide (GivesR.mk (i := i) (b := false) (N := 0) hq rfl O6 (by omega) r6 (by omega) W6)
          have HB := (put_box RB rfl (wrapM 11 t) (wrapL w5.heap.size)).nine
          have E := putAt_zero (w5.alloc (.cells #[.int .i64 t.kind, .string t.name, .string t.other, .int .i64 t.n, .int .i64 t.type.kind, .slice l.ta l.tn l.tc, .int .i64 t.res.kind, .slice l.ra l.rn l.rc, .slice l.aa l.an l.ac] 29)) w.heap.size (wrapM 11 t) (wrapL w5.heap.size)
          dsimp only [wrapM, wrapL, ty0] at HB E
          replace HB := hide HB
          replace E := hide E
          obtain ⟨q0, q1, q2, q3, q4, q5, q6, q7, q8⟩ : _ ∧ _ ∧ _ ∧ _ ∧ _ ∧ _ ∧ _ ∧ _ ∧ _ := ⟨RB.cell 0, RB.cell 1, RB.cell 2, RB.cell 3, RB.cell 4, RB.cell 5, RB.cell 6, RB.cell 7, RB.cell 8⟩
          simp at q0 q1 q2 q3 q4 q5 q6 q7 q8
          obtain ⟨z0, z1, z2, z3, z4, z5, z6, z7, z8⟩ : _ ∧ _ ∧ _ ∧ _ ∧ _ ∧ _ ∧ _ ∧ _ ∧ _ := ⟨RB.free 0, RB.free 1, RB.free 2, RB.free 3, RB.free 4, RB.free 5, RB.free 6, RB.free 7, RB.free 8⟩
          go_wp2_with fail
          rw [← E.out]
          obtain ⟨r0, r1, r2, r3, r4, r5, r6, r7, r8⟩ := HB.out
          refine bodyPost_ret (v := .agg #[.int .i64 (wrapM 11 t).kind, .string (wrapM 11 t).name, .string (wrapM 11 t).other, .int .i64 (wrapM 11 t).n, .int .i64 (wrapM 11 t).type.kind, .slice (wrapL w5.heap.size).ta (wrapL w5.heap.size).tn (wrapL w5.heap.size).tc, .int .i64 (wrapM 11 t).res.kind, .slice (wrapL w5.heap.size).ra (wrapL w5.heap.size).rn (wrapL w5.heap.size).rc, .slice (wrapL w5.heap.size).aa (wrapL w5.heap.size).an (wrapL w5.heap.size).ac]) ?_ rfl HD.out
          simp [results, Tryz.results92, go_sem, r0, r1, r2, r3, r4, r5, r6, r7, r8, wrapM, wrapL, ty0]
        | false =>
          have hi2 := (hr0 rfl).symm
          subst hi2
          clear hr0 hr1 RA WA ra kb c2
          have RA := Rb
          have ra := rb
          have WA := Wb
          have c2 := ra.1.cell 2
          simp at c2
          clear Rb rb Wb
          generalize wb = wa at RA ra WA c2 ⊢
          go_wp2_with fail
          refine (l4Take_good q s ⟨#[60]⟩ i wa ra (by decide)).mono ?_
          rintro e wb ⟨r, i1, rfl, rb, hr0, hr1, kb⟩
          have Rb := kb.blk RA (by omega)
          have Wb := WA.trans kb
          cases r with
          | true =>
            replace hr1 : _ + 10 * 1 = _ := hr1 rfl
            clear hr0 RA WA c2
            go_wp2_with fail
            refine (IH.out i1 false wb rb).mono ?_
            rintro e w5 ⟨t, l, i5, b5, rfl, O5, r5, p5, k5⟩
            have sb := Rb.lt
            have R5 := k5.blk Rb (by omega)
            have W5 := Wb.trans k5
            have s5 := k5.size
            have O6 := (O5.base (show w.heap.size + 1 ≤ wb.heap.size by omega)).wrap (by omega) 10 (by simp [i64])
            have L7 := LaidM.of_own O6 (by simp; omega)
            have R7 := (R5.alloc (.cells #[.int .i64 t.kind, .string t.name, .string t.other, .int .i64 t.n, .int .i64 t.type.kind, .slice l.ta l.tn l.tc, .int .i64 t.res.kind, .slice l.ra l.rn l.rc, .slice l.aa l.an l.ac] 29)).alloc (.cells #[.int .i64 (wrapM 10 t).kind, .string (wrapM 10 t).name, .string (wrapM 10 t).other, .int .i64 (wrapM 10 t).n, .int .i64 (wrapM 10 t).type.kind, .slice (wrapL w5.heap.size).ta (wrapL w5.heap.size).tn (wrapL w5.heap.size).tc, .int .i64 (wrapM 10 t).res.kind, .slice (wrapL w5.heap.size).ra (wrapL w5.heap.size).rn (wrapL w5.heap.size).rc, .slice (wrapL w5.heap.size).aa (wrapL w5.heap.size).an (wrapL w5.heap.size).ac] 29)
            have r7 := (r5.alloc (.cells #[.int .i64 t.kind, .string t.name, .string t.other, .int .i64 t.n, .int .i64 t.type.kind, .slice l.ta l.tn l.tc, .int .i64 t.res.kind, .slice l.ra l.rn l.rc, .slice l.aa l.an l.ac] 29)).alloc (.cells #[.int .i64 (wrapM 10 t).kind, .string (wrapM 10 t).name, .string (wrapM 10 t).other, .int .i64 (wrapM 10 t).n, .int .i64 (wrapM 10 t).type.kind, .slice (wrapL w5.heap.size).ta (wrapL w5.heap.size).tn (wrapL w5.heap.size).tc, .int .i64 (wrapM 10 t).res.kind, .slice (wrapL w5.heap.size).ra (wrapL w5.heap.size).rn (wrapL w5.heap.size).rc, .slice (wrapL w5.heap.size).aa (wrapL w5.heap.size).an (wrapL w5.heap.size).ac] 29)
            have W7 := (W5.next (below_new w5 (.cells #[.int .i64 t.kind, .string t.name, .string t.other, .int .i64 t.n, .int .i64 t.type.kind, .slice l.ta l.tn l.tc, .int .i64 t.res.kind, .slice l.ra l.rn l.rc, .slice l.aa l.an l.ac] 29))).next (below_new _ (.cells #[.int .i64 (wrapM 10 t).kind, .string (wrapM 10 t).name, .string (wrapM 10 t).other, .int .i64 (wrapM 10 t).n, .int .i64 (wrapM 10 t).type.kind, .slice (wrapL w5.heap.size).ta (wrapL w5.heap.size).tn (wrapL w5.heap.size).tc, .int .i64 (wrapM 10 t).res.kind, .slice (wrapL w5.heap.size).ra (wrapL w5.heap.size).rn (wrapL w5.heap.size).rc, .slice (wrapL w5.heap.size).aa (wrapL w5.heap.size).an (wrapL w5.heap.size).ac] 29))
            have hw6 := wrapM_wt 10 t
            have eS : (w5.alloc (.cells #[.int .i64 t.kind, .string t.name, .string t.other, .int .i64 t.n, .int .i64 t.type.kind, .slice l.ta l.tn l.tc, .int .i64 t.res.kind, .slice l.ra l.rn l.rc, .slice l.aa l.an l.ac] 29)).heap.size = w5.heap.size + 1 := by simp
            rw [eS] at L7
            go_upto_region 12 with fail
            dsimp only [wrapM, wrapL, ty0] at R7 r7 W7
            change LaidM (w5.heap.size + 1) (w.heap.size + 1) ((w5.alloc (.cells #[.int .i64 t.kind, .string t.name, .string t.other, .int .i64 t.n, .int .i64 t.type.kind, .slice l.ta l.tn l.tc, .int .i64 t.res.kind, .slice l.ra l.rn l.rc, .slice l.aa l.an l.ac] 29)).alloc (.cells #[.int .i64 10, .string ⟨#[]⟩, .string ⟨#[]⟩, .int .i64 0, .int .i64 0, .slice none 0 0, .int .i64 0, .slice none 0 0, .slice (some ⟨w5.heap.size, 0, none⟩) 1 1] 29)) _ _ at L7
            generalize (w5.alloc (.cells #[.int .i64 t.kind, .string t.name, .string t.other, .int .i64 t.n, .int .i64 t.type.kind, .slice l.ta l.tn l.tc, .int .i64 t.res.kind, .slice l.ra l.rn l.rc, .slice l.aa l.an l.ac] 29)).alloc (.cells #[.int .i64 10, .string ⟨#[]⟩, .string ⟨#[]⟩, .int .i64 0, .int .i64 0, .slice none 0 0, .int .i64 0, .slice none 0 0, .slice (some ⟨w5.heap.size, 0, none⟩) 1 1] 29) = w7 at L7 R7 r7 W7 ⊢
            generalize wrapM 10 t = t3 at L7 hw6
            generalize wrapL w5.heap.size = l3 at L7
            go_wp2_with fail
            refine (l4Must_phi q s ⟨#[62]⟩ i5 b5 w7 r7 (by decide)).mono ?_
            rintro e w8 ⟨rfl, i8, b8, r8, p8, -, k8⟩
            have L8 := L7.keep (k8.fresh (by omega))
            have RB := k8.blk R7 (by omega)
            have W8 := W7.trans k8
            obtain ⟨s0, s1, s2, s3, s4, s5, s6, s7, s8⟩ := L8.box.nine
            have HD := hide (GivesR.mk (i := i) (b := false) (N := 0) hq rfl L8.own (by omega) r8 (by omega) W8)
            have HB := hide (put_box RB rfl t3 l3).nine
            obtain ⟨q0, q1, q2, q3, q4, q5, q6, q7, q8⟩ : _ ∧ _ ∧ _ ∧ _ ∧ _ ∧ _ ∧ _ ∧ _ ∧ _ := ⟨RB.cell 0, RB.cell 1, RB.cell 2, RB.cell 3, RB.cell 4, RB.cell 5, RB.cell 6, RB.cell 7, RB.cell 8⟩
            simp at q0 q1 q2 q3 q4 q5 q6 q7 q8
            obtain ⟨z0, z1, z2, z3, z4, z5, z6, z7, z8⟩ : _ ∧ _ ∧ _ ∧ _ ∧ _ ∧ _ ∧ _ ∧ _ ∧ _ := ⟨RB.free 0, RB.free 1, RB.free 2, RB.free 3, RB.free 4, RB.free 5, RB.free 6, RB.free 7, RB.free 8⟩
            go_wp2_with fail
            have E := putAt_zero w8 w.heap.size t3 l3
            rw [← E]
            obtain ⟨r0, r1, r2, r3, r4, r5, r6, r7, r8⟩ := HB.out
            refine bodyPost_ret (v := .agg #[.int .i64 t3.kind, .string t3.name, .string t3.other, .int .i64 t3.n, .int .i64 t3.type.kind, .slice l3.ta l3.tn l3.tc, .int .i64 t3.res.kind, .slice l3.ra l3.rn l3.rc, .slice l3.aa l3.an l3.ac]) ?_ rfl HD.out
            simp [results, Tryz.results92, go_sem, r0, r1, r2, r3, r4, r5, r6, r7, r8]
          | false =>
            have hi2 := (hr0 rfl).symm
            subst hi2
            clear hr0 hr1 RA WA ra kb c2
            have RA := Rb
            have ra := rb
            have WA := Wb
            have c2 := ra.1.cell 2
            simp at c2
            clear Rb rb Wb
            generalize wb = wa at RA ra WA c2 ⊢
            go_wp2_with fail
            refine (l4Take_good q s ⟨#[40]⟩ i wa ra (by decide)).mono ?_
            rintro e wb ⟨r, i1, rfl, rb, hr0, hr1, kb⟩
            have Rb := kb.blk RA (by omega)
            have Wb := WA.trans kb
            cases r with
            | true =>
              replace hr1 : _ + 10 * 1 = _ := hr1 rfl
              clear hr0 RA WA c2
              go_wp2_with fail
              refine (l6Open_of q s (d + 1) IH.out i1 wb rb).mono ?_
              rintro e w5 ⟨t3, l3, i5, b5, rfl, O5, r5, p5, k5⟩
              have sb := Rb.lt
              have RB := k5.blk Rb (by omega)
              have W5 := Wb.trans k5
              have HD := hide (GivesR.mk (i := i) (b := false) (N := 0) hq rfl (O5.base (show w.heap.size + 1 ≤ wb.heap.size by omega)) (by omega) r5 (by omega) W5)
              have HB := hide (put_box RB rfl t3 l3).nine
              obtain ⟨q0, q1, q2, q3, q4, q5, q6, q7, q8⟩ : _ ∧ _ ∧ _ ∧ _ ∧ _ ∧ _ ∧ _ ∧ _ ∧ _ := ⟨RB.cell 0, RB.cell 1, RB.cell 2, RB.cell 3, RB.cell 4, RB.cell 5, RB.cell 6, RB.cell 7, RB.cell 8⟩
              simp at q0 q1 q2 q3 q4 q5 q6 q7 q8
              obtain ⟨z0, z1, z2, z3, z4, z5, z6, z7, z8⟩ : _ ∧ _ ∧ _ ∧ _ ∧ _ ∧ _ ∧ _ ∧ _ ∧ _ := ⟨RB.free 0, RB.free 1, RB.free 2, RB.free 3, RB.free 4, RB.free 5, RB.free 6, RB.free 7, RB.free 8⟩
              go_wp2_with fail
              have E := putAt_zero w5 w.heap.size t3 l3
              rw [← E]
              obtain ⟨r0, r1, r2, r3, r4, r5, r6, r7, r8⟩ := HB.out
              refine bodyPost_ret (v := .agg #[.int .i64 t3.kind, .string t3.name, .string t3.other, .int .i64 t3.n, .int .i64 t3.type.kind, .slice l3.ta l3.tn l3.tc, .int .i64 t3.res.kind, .slice l3.ra l3.rn l3.rc, .slice l3.aa l3.an l3.ac]) ?_ rfl HD.out
              simp [results, Tryz.results92, go_sem, r0, r1, r2, r3, r4, r5, r6, r7, r8]
            | false =>
              have hi2 := (hr0 rfl).symm
              subst hi2
              clear hr0 hr1 RA WA ra kb c2
              have RA := Rb
              have ra := rb
              have WA := Wb
              have c2 := ra.1.cell 2
              simp at c2
              clear Rb rb Wb
              generalize wb = wa at RA ra WA c2 ⊢
              have his1 : (i : Int) < (s.size : Int) := by omega
              obtain ⟨c, hc⟩ : ∃ c : Nat, s[i].toNat = c := ⟨_, rfl⟩
              have hc8 : c < 256 := by rw [← hc]; exact UInt8.toNat_lt _
              have c0 := ra.1.cell 0
              have c1 := ra.1.cell 1
              simp at c0 c1
              clear c2
              rcases (by omega : c < 48 ∨ (48 ≤ c ∧ c ≤ 57) ∨ 57 < c) with hc5 | hc5 | hc5
              · have g48 : decide (48 ≤ (c : Int)) = false := by simp; omega
                go_wp2_with fail
                go_quiet (fail)
                have RA2 := RA.under (below_drewN (Below.refl wa.heap.size wa) nq)
                have ra2 := ra.under (below_drewN (Below.refl wa.heap.size wa) nq)
                have WA2 := WA.next (below_drewN (Below.refl wa.heap.size wa) nq)
                generalize wa.drewN nq = w4 at RA2 ra2 WA2 ⊢
                have s4 := RA2.lt
                go_wp2_with fail
                refine (l4Word_any q s i false w4 ra2).mono ?_
                rintro e w5 ⟨nm, i5, rfl, r5, hi5, hn5, k5⟩
                have R5 := k5.blk RA2 (by omega)
                have W5 := WA2.trans k5
                have p5 := phi_word hi5 r5.2.1
                have hn6 := r5.2
                go_wp2_with fail
                refine (l5Var_eq nm w5).mono ?_
                rintro e w6 ⟨rfl, b6⟩
                have RB := R5.under b6
                have r6 := r5.under b6
                have W6 := W5.next b6
                have hp : (leafM 1 0 nm).wt + phi s i5 false ≤ 0 + phi s i false := by
                  rw [leafM_wt]
                  have h0 : (ByteArray.mk #[]).size = 0 := rfl
                  omega
                have HD := hide (GivesR.mk (N := 0) hq rfl (leafM_own (w.heap.size + 1) w6 (by simp [i64]) (by simp [i64]) (by first | omega | (simp [ByteArray.size]; done))) (by omega) r6 hp W6)
                have HB := (put_box RB rfl (leafM 1 0 nm) lt0).nine
                have E := putAt_zero w6 w.heap.size (leafM 1 0 nm) lt0
                dsimp only [leafM, lt0, ty0] at HB E
                replace HB := hide HB
                replace E := hide E
                obtain ⟨q0, q1, q2, q3, q4, q5, q6, q7, q8⟩ : _ ∧ _ ∧ _ ∧ _ ∧ _ ∧ _ ∧ _ ∧ _ ∧ _ := ⟨RB.cell 0, RB.cell 1, RB.cell 2, RB.cell 3, RB.cell 4, RB.cell 5, RB.cell 6, RB.cell 7, RB.cell 8⟩
                simp at q0 q1 q2 q3 q4 q5 q6 q7 q8
                obtain ⟨z0, z1, z2, z3, z4, z5, z6, z7, z8⟩ : _ ∧ _ ∧ _ ∧ _ ∧ _ ∧ _ ∧ _ ∧ _ ∧ _ := ⟨RB.free 0, RB.free 1, RB.free 2, RB.free 3, RB.free 4, RB.free 5, RB.free 6, RB.free 7, RB.free 8⟩
                go_wp2_with fail
                rw [← E.out]
                obtain ⟨r0, r1, r2, r3, r4, r5, r6, r7, r8⟩ := HB.out
                refine bodyPost_ret (v := .agg #[.int .i64 (leafM 1 0 nm).kind, .string (leafM 1 0 nm).name, .string (leafM 1 0 nm).other, .int .i64 (leafM 1 0 nm).n, .int .i64 (leafM 1 0 nm).type.kind, .slice lt0.ta lt0.tn lt0.tc, .int .i64 (leafM 1 0 nm).res.kind, .slice lt0.ra lt0.rn lt0.rc, .slice lt0.aa lt0.an lt0.ac]) ?_ rfl HD.out
                simp [results, Tryz.results92, go_sem, r0, r1, r2, r3, r4, r5, r6, r7, r8, leafM, lt0, ty0]
              · have g48 : decide (48 ≤ (c : Int)) = true := by simp; omega
                have g57 : decide ((c : Int) ≤ 57) = true := by simp; omega
                go_wp2_with fail
                go_quiet (fail)
                have RA2 := RA.under (below_drewN (Below.refl wa.heap.size wa) nq)
                have ra2 := ra.under (below_drewN (Below.refl wa.heap.size wa) nq)
                have WA2 := WA.next (below_drewN (Below.refl wa.heap.size wa) nq)
                generalize wa.drewN nq = w4 at RA2 ra2 WA2 ⊢
                have s4 := RA2.lt
                go_wp2_with fail
                refine (l6Number_any q s i w4 ra2).mono ?_
                rintro e w5 ⟨t3, l3, i5, b5, rfl, O5, r5, p5, k5⟩
                have RB := k5.blk RA2 (by omega)
                have W5 := WA2.trans k5
                have HD := hide (GivesR.mk (i := i) (b := false) (N := 0) hq rfl (O5.base (show w.heap.size + 1 ≤ w4.heap.size by omega)) (by omega) r5 (by omega) W5)
                have HB := hide (put_box RB rfl t3 l3).nine
                obtain ⟨q0, q1, q2, q3, q4, q5, q6, q7, q8⟩ : _ ∧ _ ∧ _ ∧ _ ∧ _ ∧ _ ∧ _ ∧ _ ∧ _ := ⟨RB.cell 0, RB.cell 1, RB.cell 2, RB.cell 3, RB.cell 4, RB.cell 5, RB.cell 6, RB.cell 7, RB.cell 8⟩
                simp at q0 q1 q2 q3 q4 q5 q6 q7 q8
                obtain ⟨z0, z1, z2, z3, z4, z5, z6, z7, z8⟩ : _ ∧ _ ∧ _ ∧ _ ∧ _ ∧ _ ∧ _ ∧ _ ∧ _ := ⟨RB.free 0, RB.free 1, RB.free 2, RB.free 3, RB.free 4, RB.free 5, RB.free 6, RB.free 7, RB.free 8⟩
                go_wp2_with fail
                have E := putAt_zero w5 w.heap.size t3 l3
                rw [← E]
                obtain ⟨r0, r1, r2, r3, r4, r5, r6, r7, r8⟩ := HB.out
                refine bodyPost_ret (v := .agg #[.int .i64 t3.kind, .string t3.name, .string t3.other, .int .i64 t3.n, .int .i64 t3.type.kind, .slice l3.ta l3.tn l3.tc, .int .i64 t3.res.kind, .slice l3.ra l3.rn l3.rc, .slice l3.aa l3.an l3.ac]) ?_ rfl HD.out
                simp [results, Tryz.results92, go_sem, r0, r1, r2, r3, r4, r5, r6, r7, r8]
              · have g48 : decide (48 ≤ (c : Int)) = true := by simp; omega
                have g57 : decide ((c : Int) ≤ 57) = false := by simp; omega
                go_wp2_with fail
                go_quiet (fail)
                have RA2 := RA.under (below_drewN (Below.refl wa.heap.size wa) nq)
                have ra2 := ra.under (below_drewN (Below.refl wa.heap.size wa) nq)
                have WA2 := WA.next (below_drewN (Below.refl wa.heap.size wa) nq)
                generalize wa.drewN nq = w4 at RA2 ra2 WA2 ⊢
                have s4 := RA2.lt
                go_wp2_with fail
                refine (l4Word_any q s i false w4 ra2).mono ?_
                rintro e w5 ⟨nm, i5, rfl, r5, hi5, hn5, k5⟩
                have R5 := k5.blk RA2 (by omega)
                have W5 := WA2.trans k5
                have p5 := phi_word hi5 r5.2.1
                have hn6 := r5.2
                go_wp2_with fail
                refine (l5Var_eq nm w5).mono ?_
                rintro e w6 ⟨rfl, b6⟩
                have RB := R5.under b6
                have r6 := r5.under b6
                have W6 := W5.next b6
                have hp : (leafM 1 0 nm).wt + phi s i5 false ≤ 0 + phi s i false := by
                  rw [leafM_wt]
                  have h0 : (ByteArray.mk #[]).size = 0 := rfl
                  omega
                have HD := hide (GivesR.mk (N := 0) hq rfl (leafM_own (w.heap.size + 1) w6 (by simp [i64]) (by simp [i64]) (by first | omega | (simp [ByteArray.size]; done))) (by omega) r6 hp W6)
                have HB := (put_box RB rfl (leafM 1 0 nm) lt0).nine
                have E := putAt_zero w6 w.heap.size (leafM 1 0 nm) lt0
                dsimp only [leafM, lt0, ty0] at HB E
                replace HB := hide HB
                replace E := hide E
                obtain ⟨q0, q1, q2, q3, q4, q5, q6, q7, q8⟩ : _ ∧ _ ∧ _ ∧ _ ∧ _ ∧ _ ∧ _ ∧ _ ∧ _ := ⟨RB.cell 0, RB.cell 1, RB.cell 2, RB.cell 3, RB.cell 4, RB.cell 5, RB.cell 6, RB.cell 7, RB.cell 8⟩
                simp at q0 q1 q2 q3 q4 q5 q6 q7 q8
                obtain ⟨z0, z1, z2, z3, z4, z5, z6, z7, z8⟩ : _ ∧ _ ∧ _ ∧ _ ∧ _ ∧ _ ∧ _ ∧ _ ∧ _ := ⟨RB.free 0, RB.free 1, RB.free 2, RB.free 3, RB.free 4, RB.free 5, RB.free 6, RB.free 7, RB.free 8⟩
                go_wp2_with fail
                rw [← E.out]
                obtain ⟨r0, r1, r2, r3, r4, r5, r6, r7, r8⟩ := HB.out
                refine bodyPost_ret (v := .agg #[.int .i64 (leafM 1 0 nm).kind, .string (leafM 1 0 nm).name, .string (leafM 1 0 nm).other, .int .i64 (leafM 1 0 nm).n, .int .i64 (leafM 1 0 nm).type.kind, .slice lt0.ta lt0.tn lt0.tc, .int .i64 (leafM 1 0 nm).res.kind, .slice lt0.ra lt0.rn lt0.rc, .slice lt0.aa lt0.an lt0.ac]) ?_ rfl HD.out
                simp [results, Tryz.results92, go_sem, r0, r1, r2, r3, r4, r5, r6, r7, r8, leafM, lt0, ty0]

theorem l6Term_any (q : Nat) (s : ByteArray) (m : Nat) : ∀ d, m + d = 21 → TermC q s d := by
  induction m with
  | zero => exact fun d hd => l6Term_step q s d (fun h => by omega) (by omega)
  | succ m ih => exact fun d hd => l6Term_step q s d (fun _ => ih (d + 1) (by omega)) (by omega)
end Go.Proofs.YtklifieahcoljaaGreat
