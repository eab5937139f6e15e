/-
  From the form's reading of an argument that is a slice of records, or of bytes, to a plain list.
-/
import Derived.Test.YtnmpaibocmnabaaRec
import Derived.Test.YtnmpaibocmnabaaOpen
import Derived.ChangeMaps5
namespace Go.Proofs.Ytnmpaibocmnabaa
open Go.RowKit Go.ChangeShapes Go.WideShapes Go.Deep
set_option linter.unusedVariables false

section
variable {H : Type} {enc : TypeId × Value → H} {P : Program} {w : World} {base : Nat} {spare : Nat → Bool} {held : Bool}
theorem open_recs {α : Type} [Last α] {S T Ty' : TypeId} {f0 f1 f2 g0 g1 : Field} (hS : P.underlying S = some (.slice T)) (hT : P.underlying T = some (.struct #[f0, f1, f2]))
    (hY : P.underlying Ty' = some (.struct #[g0, g1])) (hY0 : P.underlying g0.type = some (.int .i64)) (hYS : P.underlying g1.type = some (.slice Ty')) (hYC : P.cellsOf Ty' = 2) (p0 : g0.offset = 0) (p1 : g1.offset = 1) (j0 : P.cellsOf g0.type = 1) (j1 : P.cellsOf g1.type = 1)
    (h0 : P.underlying f0.type = some .string) (h1 : f1.type = Ty') (hC : P.cellsOf T = 4) (o : f0.offset = 0 ∧ f1.offset = 1 ∧ f2.offset = 3) (k : P.cellsOf f0.type = 1 ∧ P.cellsOf f2.type = 1)
    (hl : ∀ fuel c (x : DataW H × List MemPlace), DataW.trod enc P w base spare held fuel f2.type [c] = some x → ∃ v : α, c = Last.val v ∧ Last.ok v)
    (fuel : Nat) {a : Option Addr} {n cap : Nat} {x : DataW H × List MemPlace} (h : DataW.trod enc P w base spare held fuel S [.slice a n cap] = some x) : ∃ xs : List (Rc α), Rcs w xs a n cap := by
  obtain ⟨o0, o1, o2⟩ := o
  obtain ⟨k0, k2⟩ := k
  rcases DataW.trod_slice hS h with ⟨e, _⟩ | ⟨a', len, cap', elems, rest, m, hm, e, _, hb, hlc, hcm, hel, hall, _, _⟩
  · simp only [List.cons.injEq, Value.slice.injEq, and_true] at e
    obtain ⟨rfl, rfl, rfl⟩ := e
    exact ⟨[], rfl, Nat.le_refl _, by simp, .inl rfl⟩
  · simp only [List.cons.injEq, Value.slice.injEq, and_true] at e
    obtain ⟨rfl, rfl, rfl⟩ := e
    by_cases hl0 : n = 0
    · subst hl0
      exact ⟨[], rfl, hlc, hcm, .inl rfl⟩
    · have each : ∀ i, i < n → ∃ (r : Rc α) (ta : Option Addr) (tn tc : Nat), r.name.size ≤ 9223372036854775807 ∧ Last.ok r.last ∧ (∀ j v, [.string r.name, .int .i64 r.type.kind, .slice ta tn tc, Last.val r.last][j]? = some v → w.cell? (a'.add (i * 4 + j)) = some v) ∧
          Rd w r.type (.int .i64 r.type.kind) (.slice ta tn tc) := by
        intro i hi
        have hh := hall i hi
        rw [List.getElem?_eq_getElem (by omega), hC] at hh
        obtain ⟨cs, q1, q2⟩ := Option.bind_eq_some_iff.1 hh
        obtain ⟨xs, n', -, -, hlen, hxl, hf⟩ := DataW.trod_struct hT q2
        rw [hC] at hlen
        match cs, hlen with
        | [c0, c1, c2, c3], _ =>
          match xs, hxl with
          | [y0, y1, y2], _ =>
            have r0 := hf 0 f0 rfl
            have r1 := hf 1 f1 rfl
            have r2 := hf 2 f2 rfl
            simp [o0, k0] at r0
            simp [o1, h1, hYC] at r1
            simp [o2, k2] at r2
            obtain ⟨nm, e0, _, hz⟩ := DataW.trod_string h0 r0
            simp only [List.cons.injEq, and_true] at e0
            subst e0
            obtain ⟨d0, d1, ty, e1, hty⟩ := open_type hY hY0 hYS hYC p0 p1 j0 j1 _ _ _ r1
            simp only [List.cons.injEq, and_true] at e1
            obtain ⟨rfl, rfl⟩ := e1
            obtain ⟨v, rfl, hv⟩ := hl _ _ _ r2
            obtain ⟨ta, tn, tc, rfl, rfl, -, -⟩ := hty.shape
            obtain ⟨_, _, hcell⟩ := World.cells?_some q1
            refine ⟨⟨nm, ty, v⟩, ta, tn, tc, hz, hv, fun j u hu => ?_, hty⟩
            have hj : j < 4 := by
              rcases Nat.lt_or_ge j 4 with h | h
              · exact h
              · rw [List.getElem?_eq_none (by simpa using h)] at hu
                cases hu
            have := hcell j (by omega)
            rw [add_add] at this
            rw [this, hu]
      obtain ⟨b, off, spot⟩ := a'
      obtain ⟨r, ta, tn, tc, -, -, e0, _⟩ := each 0 (by omega)
      have hspot : spot = none := by simpa [Addr.add] using World.cell?_spot (e0 0 _ rfl)
      subst hspot
      have key : ∀ m, m ≤ n → ∃ xs : List (Rc α), xs.length = m ∧ ∀ i (hi : i < xs.length), RcAt w b (off + i * 4) xs[i] := by
        intro m
        induction m with
        | zero => exact fun _ => ⟨[], rfl, fun i hi => by simp at hi⟩
        | succ m ih =>
          intro hm
          obtain ⟨xs, hxl, hxs⟩ := ih (by omega)
          obtain ⟨r, ta, tn, tc, z1, z2, e, hr⟩ := each m (by omega)
          refine ⟨xs ++ [r], by simp [hxl], fun i hi => ?_⟩
          simp only [List.length_append, List.length_cons, List.length_nil] at hi
          by_cases him : i < xs.length
          · rw [List.getElem_append_left him]
            exact hxs i him
          · obtain rfl : i = m := by omega
            rw [List.getElem_append_right (by omega)]
            simp only [hxl, Nat.sub_self, List.getElem_cons_zero]
            have q0 := e 0 _ rfl
            have q1 := e 1 _ rfl
            have q2 := e 2 _ rfl
            have q3 := e 3 _ rfl
            simp only [add_plain, Nat.add_zero, ← Nat.add_assoc] at q0 q1 q2 q3
            exact ⟨z1, z2, ta, tn, tc, q0, q1, q2, q3, hr⟩
      obtain ⟨xs, hxl, hxs⟩ := key n (Nat.le_refl _)
      refine ⟨xs, hxl.symm, hlc, hcm, .inr ⟨?_, b, off, rfl, hxs⟩⟩
      rintro rfl
      simp at hxl
      omega
theorem last_int {t : TypeId} (ht : P.underlying t = some (.int .i64)) : ∀ fuel c (x : DataW H × List MemPlace), DataW.trod enc P w base spare held fuel t [c] = some x → ∃ v : Int, c = Last.val v ∧ Last.ok v := by
  intro fuel c x h
  obtain ⟨v, e, _, hwf⟩ := DataW.trod_int ht h
  simp only [List.cons.injEq, and_true] at e
  exact ⟨v, e, i64_of_wf hwf⟩
theorem last_bool {t : TypeId} (ht : P.underlying t = some .bool) : ∀ fuel c (x : DataW H × List MemPlace), DataW.trod enc P w base spare held fuel t [c] = some x → ∃ v : Bool, c = Last.val v ∧ Last.ok v := by
  intro fuel c x h
  cases fuel with
  | zero => simp [DataW.trod] at h
  | succ fuel =>
    cases c <;> simp [DataW.trod, ht] at h
    exact ⟨_, rfl, trivial⟩
end
end Go.Proofs.Ytnmpaibocmnabaa
