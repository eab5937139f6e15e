/-
  The walks of the text of a type, in both texts.
-/
import Derived.Test.YtfomakiljojabaaValTy0
import Derived.Test.YtfomakiljojabaaPlain
import Derived.Deep.RegionHeld3
namespace Go.Proofs.Ytfomakiljojabaa
open Go.RowKit
set_option linter.unusedVariables false
set_option linter.unusedSimpArgs false

mutual
/-- The text of a type of the four kinds. -/
def Ty.text : Ty → List UInt8
  | ⟨k, xs⟩ => if k = 1 then [73] else if k = 2 then [66] else if k = 3 then [40] ++ (Ty.texts xs).getD 0 [] ++ [62] ++ (Ty.texts xs).getD 1 [] ++ [41] else [60] ++ (Ty.texts xs).getD 0 [] ++ [62]
def Ty.texts : List Ty → List (List UInt8)
  | [] => []
  | t :: ts => t.text :: Ty.texts ts
end
theorem Ty.texts_eq (xs : List Ty) : Ty.texts xs = xs.map Ty.text := by
  induction xs with
  | nil => rfl
  | cons x xs ih => rw [Ty.texts, ih]; rfl

theorem Ty.text_le (t : Ty) : t.text.length ≤ 3 * t.size := by
  induction t using Ty.ind with | h k xs ih => ?_
  have key : ((Ty.texts xs).getD 0 []).length + ((Ty.texts xs).getD 1 []).length ≤ 3 * Ty.sizes xs := by
    match xs, ih with
    | [], _ => simp [Ty.texts]
    | [x], ih =>
      have := ih x (by simp)
      simp [Ty.texts, Ty.sizes]
      omega
    | x :: y :: zs, ih =>
      have := ih x (by simp)
      have := ih y (by simp)
      simp [Ty.texts, Ty.sizes]
      omega
  rw [Ty.text, Ty.size]
  split
  · simp; omega
  · split
    · simp; omega
    · split
      · simp only [List.length_append, List.length_cons, List.length_nil]
        omega
      · simp only [List.length_append, List.length_cons, List.length_nil]
        omega

theorem text_fun (x y : Ty) : ByteArray.mk #[40] ++ ByteArray.mk x.text.toArray ++ ByteArray.mk #[62] ++ ByteArray.mk y.text.toArray ++ ByteArray.mk #[41] = ByteArray.mk (Ty.text ⟨3, [x, y]⟩).toArray := by
  rw [show ByteArray.mk #[40] = ByteArray.mk [40].toArray from rfl, show ByteArray.mk #[62] = ByteArray.mk [62].toArray from rfl, show ByteArray.mk #[41] = ByteArray.mk [41].toArray from rfl]
  simp only [ByteArray.mk_append_mk]
  rw [Ty.text]
  simp [Ty.texts]
theorem text_code (x : Ty) : ByteArray.mk #[60] ++ ByteArray.mk x.text.toArray ++ ByteArray.mk #[62] = ByteArray.mk (Ty.text ⟨4, [x]⟩).toArray := by
  rw [show ByteArray.mk #[60] = ByteArray.mk [60].toArray from rfl, show ByteArray.mk #[62] = ByteArray.mk [62].toArray from rfl]
  simp only [ByteArray.mk_append_mk]
  rw [Ty.text]
  simp [Ty.texts]

set_option maxHeartbeats 800000 in
theorem l4Text_any (t : Ty) : ∀ (c0 c1 : Value) (w : World), Rd w t c0 c1 → t.all Ty.formed = true → t.size ≤ 1048576 →
    Calls Try.prog 50 #[.agg #[c0, c1]] w fun e w' => e = .returned (.string ⟨t.text.toArray⟩) ∧ Below w.heap.size w w' := by
  induction t using Ty.ind with | h k xs ih => ?_
  intro c0 c1 w h hf hz
  have IH := hide ih
  clear ih
  obtain ⟨a, n, cap, rfl, rfl, hk, hr⟩ := h.shape
  rw [Ty.all_eq, Bool.and_eq_true] at hf
  obtain ⟨hf1, hf2⟩ := hf
  have hx : n = xs.length := hr.1
  by_cases h1 : k = 1
  · subst h1
    clear hf1 hf2 hx
    go_enter Try.func50, Try.ntmps50
    go_wp2
    go_ret
    exact ⟨by rw [Ty.text]; rfl, (by repeat (first | exact Below.refl _ _ | assumption | refine Below.drew ?_ | refine below_drewN ?_ _ | refine Below.alloc ?_ (by first | omega | (simp; done) | (simp; omega)) _ | refine Below.setCell ?_ (by first | omega | (simp; done) | (simp; omega)) _))⟩
  · have f1 : (k == 1) = false := beq_eq_false_iff_ne.2 h1
    by_cases h2 : k = 2
    · subst h2
      clear hf1 hf2 hx
      go_enter Try.func50, Try.ntmps50
      go_wp2
      go_ret
      exact ⟨by rw [Ty.text]; rfl, (by repeat (first | exact Below.refl _ _ | assumption | refine Below.drew ?_ | refine below_drewN ?_ _ | refine Below.alloc ?_ (by first | omega | (simp; done) | (simp; omega)) _ | refine Below.setCell ?_ (by first | omega | (simp; done) | (simp; omega)) _))⟩
    · have f2 : (k == 2) = false := beq_eq_false_iff_ne.2 h2
      by_cases h3 : k = 3
      · subst h3
        have hx2 : xs.length = 2 := by simpa [Ty.formed] using hf1
        match xs, hx2 with
        | [x, y], _ =>
          obtain rfl : n = 2 := hx
          simp only [List.all_cons, List.all_nil, Bool.and_true, Bool.and_eq_true] at hf2
          obtain ⟨b, off, e0, e1, rfl, hlt, q0, q1, hd⟩ := hr.get 0 (by simp)
          obtain ⟨b', off', g0, g1, hb, -, p0, p1, hd'⟩ := hr.get 1 (by simp)
          simp only [Option.some.injEq, Addr.mk.injEq, and_true] at hb
          obtain ⟨rfl, rfl⟩ := hb
          simp only [Nat.zero_mul, Nat.add_zero, Nat.one_mul] at q0 q1 p0 p1
          simp only [List.getElem_cons_zero, List.getElem_cons_succ] at hd hd'
          have hzx : x.size ≤ 1048576 ∧ y.size ≤ 1048576 := by
            have := hz
            simp only [Ty.size, Ty.sizes] at this
            omega
          have KK := hide (fun (W : World) (hW : Below (w.alloc (.cells #[.int .i64 3, .slice (some ⟨b, off, none⟩) 2 cap] 29)).heap.size (w.alloc (.cells #[.int .i64 3, .slice (some ⟨b, off, none⟩) 2 cap] 29)) W) =>
            have q := below_of_alloc hW
            show W.cell? ⟨w.heap.size, 1, none⟩ = some (.slice (some ⟨b, off, none⟩) 2 cap) ∧ W.cell? ⟨b, off, none⟩ = some e0 ∧ W.cell? ⟨b, off + 1, none⟩ = some e1 ∧ W.cell? ⟨b, off + 2, none⟩ = some g0 ∧ W.cell? ⟨b, off + 2 + 1, none⟩ = some g1 from
            ⟨((Blk.new w _ _).under hW).two.2, (q.cell hlt).trans q0, (q.cell hlt).trans q1, (q.cell hlt).trans p0, (q.cell hlt).trans p1⟩)
          clear q0 q1 p0 p1
          have hz1 := hzx.1
          have hz2 := hzx.2
          have hlx : x.text.length ≤ 3145728 := by have := x.text_le; omega
          have hly : y.text.length ≤ 3145728 := by have := y.text_le; omega
          obtain ⟨hfx, hfy⟩ := hf2
          have hs1 : ¬ 9223372036854775807 < 1 + x.text.length := by omega
          have hs2 : ¬ 9223372036854775807 < 1 + x.text.length + 1 := by omega
          have hs3 : ¬ 9223372036854775807 < 1 + x.text.length + 1 + y.text.length := by omega
          have hs4 : ¬ 9223372036854775807 < 1 + x.text.length + 1 + y.text.length + 1 := by omega
          replace hfx := hide hfx
          replace hfy := hide hfy
          clear hf1
          go_enter Try.func50, Try.ntmps50
          go_wp2_with fail
          go_region_held3 (fun W => W.cell? ⟨w.heap.size, 1, none⟩ = some (.slice (some ⟨b, off, none⟩) 2 cap) ∧ W.cell? ⟨b, off, none⟩ = some e0 ∧ W.cell? ⟨b, off + 1, none⟩ = some e1 ∧ W.cell? ⟨b, off + 2, none⟩ = some g0 ∧ W.cell? ⟨b, off + 2 + 1, none⟩ = some g1)
            (first | exact KK.out _ (below_drew _) | exact KK.out _ q1 | exact KK.out _ q2)
            (first
              | (go_at_call 50; (with_reducible refine (IH.out x (by simp) e0 e1 _ (hd.below (below_next (below_new _ _) (below_drew _))) hfx.out hz1).mono ?_); rintro e w1 ⟨rfl, b1⟩
                 have q1 := below_next (below_drew _) b1)
              | (go_at_call 50; (with_reducible refine (IH.out y (by simp) g0 g1 _ (hd'.below (below_next (below_new _ _) q1)) hfy.out hz2).mono ?_); rintro e w2 ⟨rfl, b2⟩
                 have q2 := below_next q1 b2))
          go_wp2_with fail
          go_ret
          refine ⟨ret_string (text_fun x y), below_next (below_new _ _) q2⟩
      · have f3 : (k == 3) = false := beq_eq_false_iff_ne.2 h3
        have h4 : k = 4 ∧ xs.length = 1 := by simpa [Ty.formed, h1, h2, h3] using hf1
        obtain ⟨rfl, hx2⟩ := h4
        match xs, hx2 with
        | [x], _ =>
          obtain rfl : n = 1 := hx
          simp only [List.all_cons, List.all_nil, Bool.and_true] at hf2
          obtain ⟨b, off, e0, e1, rfl, hlt, q0, q1, hd⟩ := hr.get 0 (by simp)
          simp only [Nat.zero_mul, Nat.add_zero] at q0 q1
          simp only [List.getElem_cons_zero] at hd
          have hz1 : x.size ≤ 1048576 := by
            have := hz
            simp only [Ty.size, Ty.sizes] at this
            omega
          have k0 : ∀ o, (w.alloc o).cell? ⟨b, off, none⟩ = some e0 := fun o => (World.cell?_alloc_lt w o _ hlt).trans q0
          have k1 : ∀ o, (w.alloc o).cell? ⟨b, off + 1, none⟩ = some e1 := fun o => (World.cell?_alloc_lt w o _ hlt).trans q1
          clear q0 q1
          have hlx : x.text.length ≤ 3145728 := by have := x.text_le; omega
          replace hf2 := hide hf2
          clear hf1
          go_enter Try.func50, Try.ntmps50
          go_wp2_with (go_at_call 50; (with_reducible refine (IH.out x (by simp) e0 e1 _ (hd.below (below_new _ _)) hf2.out hz1).mono ?_); rintro e w1 ⟨rfl, b1⟩)
          go_ret
          exact ⟨ret_string (text_code x), below_of_alloc b1⟩
set_option maxHeartbeats 800000 in
theorem implText_any (t : Ty) : ∀ (c0 c1 : Value) (w : World), Rd w t c0 c1 → t.all Ty.formed = true → t.size ≤ 1048576 →
    Calls Try.prog 51 #[.agg #[c0, c1]] w fun e w' => e = .returned (.string ⟨t.text.toArray⟩) ∧ Below w.heap.size w w' := by
  induction t using Ty.ind with | h k xs ih => ?_
  intro c0 c1 w h hf hz
  have IH := hide ih
  clear ih
  obtain ⟨a, n, cap, rfl, rfl, hk, hr⟩ := h.shape
  rw [Ty.all_eq, Bool.and_eq_true] at hf
  obtain ⟨hf1, hf2⟩ := hf
  have hx : n = xs.length := hr.1
  by_cases h1 : k = 1
  · subst h1
    clear hf1 hf2 hx
    go_enter Try.func51, Try.ntmps51
    go_wp2
    go_ret
    exact ⟨by rw [Ty.text]; rfl, (by repeat (first | exact Below.refl _ _ | assumption | refine Below.drew ?_ | refine below_drewN ?_ _ | refine Below.alloc ?_ (by first | omega | (simp; done) | (simp; omega)) _ | refine Below.setCell ?_ (by first | omega | (simp; done) | (simp; omega)) _))⟩
  · have f1 : (k == 1) = false := beq_eq_false_iff_ne.2 h1
    by_cases h2 : k = 2
    · subst h2
      clear hf1 hf2 hx
      go_enter Try.func51, Try.ntmps51
      go_wp2
      go_ret
      exact ⟨by rw [Ty.text]; rfl, (by repeat (first | exact Below.refl _ _ | assumption | refine Below.drew ?_ | refine below_drewN ?_ _ | refine Below.alloc ?_ (by first | omega | (simp; done) | (simp; omega)) _ | refine Below.setCell ?_ (by first | omega | (simp; done) | (simp; omega)) _))⟩
    · have f2 : (k == 2) = false := beq_eq_false_iff_ne.2 h2
      by_cases h3 : k = 3
      · subst h3
        have hx2 : xs.length = 2 := by simpa [Ty.formed] using hf1
        match xs, hx2 with
        | [x, y], _ =>
          obtain rfl : n = 2 := hx
          simp only [List.all_cons, List.all_nil, Bool.and_true, Bool.and_eq_true] at hf2
          obtain ⟨b, off, e0, e1, rfl, hlt, q0, q1, hd⟩ := hr.get 0 (by simp)
          obtain ⟨b', off', g0, g1, hb, -, p0, p1, hd'⟩ := hr.get 1 (by simp)
          simp only [Option.some.injEq, Addr.mk.injEq, and_true] at hb
          obtain ⟨rfl, rfl⟩ := hb
          simp only [Nat.zero_mul, Nat.add_zero, Nat.one_mul] at q0 q1 p0 p1
          simp only [List.getElem_cons_zero, List.getElem_cons_succ] at hd hd'
          have hzx : x.size ≤ 1048576 ∧ y.size ≤ 1048576 := by
            have := hz
            simp only [Ty.size, Ty.sizes] at this
            omega
          have KK := hide (fun (W : World) (hW : Below (w.alloc (.cells #[.int .i64 3, .slice (some ⟨b, off, none⟩) 2 cap] 29)).heap.size (w.alloc (.cells #[.int .i64 3, .slice (some ⟨b, off, none⟩) 2 cap] 29)) W) =>
            have q := below_of_alloc hW
            show W.cell? ⟨w.heap.size, 1, none⟩ = some (.slice (some ⟨b, off, none⟩) 2 cap) ∧ W.cell? ⟨b, off, none⟩ = some e0 ∧ W.cell? ⟨b, off + 1, none⟩ = some e1 ∧ W.cell? ⟨b, off + 2, none⟩ = some g0 ∧ W.cell? ⟨b, off + 2 + 1, none⟩ = some g1 from
            ⟨((Blk.new w _ _).under hW).two.2, (q.cell hlt).trans q0, (q.cell hlt).trans q1, (q.cell hlt).trans p0, (q.cell hlt).trans p1⟩)
          clear q0 q1 p0 p1
          have hz1 := hzx.1
          have hz2 := hzx.2
          have hlx : x.text.length ≤ 3145728 := by have := x.text_le; omega
          have hly : y.text.length ≤ 3145728 := by have := y.text_le; omega
          obtain ⟨hfx, hfy⟩ := hf2
          have hs1 : ¬ 9223372036854775807 < 1 + x.text.length := by omega
          have hs2 : ¬ 9223372036854775807 < 1 + x.text.length + 1 := by omega
          have hs3 : ¬ 9223372036854775807 < 1 + x.text.length + 1 + y.text.length := by omega
          have hs4 : ¬ 9223372036854775807 < 1 + x.text.length + 1 + y.text.length + 1 := by omega
          replace hfx := hide hfx
          replace hfy := hide hfy
          clear hf1
          go_enter Try.func51, Try.ntmps51
          go_wp2_with fail
          go_region_held3 (fun W => W.cell? ⟨w.heap.size, 1, none⟩ = some (.slice (some ⟨b, off, none⟩) 2 cap) ∧ W.cell? ⟨b, off, none⟩ = some e0 ∧ W.cell? ⟨b, off + 1, none⟩ = some e1 ∧ W.cell? ⟨b, off + 2, none⟩ = some g0 ∧ W.cell? ⟨b, off + 2 + 1, none⟩ = some g1)
            (first | exact KK.out _ (below_drew _) | exact KK.out _ q1 | exact KK.out _ q2)
            (first
              | (go_at_call 51; (with_reducible refine (IH.out x (by simp) e0 e1 _ (hd.below (below_next (below_new _ _) (below_drew _))) hfx.out hz1).mono ?_); rintro e w1 ⟨rfl, b1⟩
                 have q1 := below_next (below_drew _) b1)
              | (go_at_call 51; (with_reducible refine (IH.out y (by simp) g0 g1 _ (hd'.below (below_next (below_new _ _) q1)) hfy.out hz2).mono ?_); rintro e w2 ⟨rfl, b2⟩
                 have q2 := below_next q1 b2))
          go_wp2_with fail
          go_ret
          refine ⟨ret_string (text_fun x y), below_next (below_new _ _) q2⟩
      · have f3 : (k == 3) = false := beq_eq_false_iff_ne.2 h3
        have h4 : k = 4 ∧ xs.length = 1 := by simpa [Ty.formed, h1, h2, h3] using hf1
        obtain ⟨rfl, hx2⟩ := h4
        match xs, hx2 with
        | [x], _ =>
          obtain rfl : n = 1 := hx
          simp only [List.all_cons, List.all_nil, Bool.and_true] at hf2
          obtain ⟨b, off, e0, e1, rfl, hlt, q0, q1, hd⟩ := hr.get 0 (by simp)
          simp only [Nat.zero_mul, Nat.add_zero] at q0 q1
          simp only [List.getElem_cons_zero] at hd
          have hz1 : x.size ≤ 1048576 := by
            have := hz
            simp only [Ty.size, Ty.sizes] at this
            omega
          have k0 : ∀ o, (w.alloc o).cell? ⟨b, off, none⟩ = some e0 := fun o => (World.cell?_alloc_lt w o _ hlt).trans q0
          have k1 : ∀ o, (w.alloc o).cell? ⟨b, off + 1, none⟩ = some e1 := fun o => (World.cell?_alloc_lt w o _ hlt).trans q1
          clear q0 q1
          have hlx : x.text.length ≤ 3145728 := by have := x.text_le; omega
          replace hf2 := hide hf2
          clear hf1
          go_enter Try.func51, Try.ntmps51
          go_wp2_with (go_at_call 51; (with_reducible refine (IH.out x (by simp) e0 e1 _ (hd.below (below_new _ _)) hf2.out hz1).mono ?_); rintro e w1 ⟨rfl, b1⟩)
          go_ret
          exact ⟨ret_string (text_code x), below_of_alloc b1⟩
end Go.Proofs.Ytfomakiljojabaa
