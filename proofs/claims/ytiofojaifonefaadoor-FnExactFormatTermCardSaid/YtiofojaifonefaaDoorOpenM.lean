/-
  From the form's reading of an argument to a plain tree: whatever reads as a value of the term's struct type reads as a 'Tm'.
-/
import Derived.Test.YtiofojaifonefaaDoorTm
import Derived.Test.YtiofojaifonefaaDoorOpen
import Derived.ChangeMaps5
namespace Go.Proofs.YtiofojaifonefaaDoor
open Go.RowKit Go.ChangeShapes Go.WideShapes Go.Deep
set_option linter.unusedVariables false

theorem RMs_of_each {w : World} {b off : Nat} : ∀ (n : Nat), (∀ i, i < n → ∃ t l, CellsAt w b (off + i * 9) (tcells t l) ∧ Md w t l) → ∃ ts fp, ts.length = n ∧ RMs w ts b off fp
  | 0, _ => ⟨[], [], rfl, by rw [RMs]⟩
  | n + 1, h => by
    obtain ⟨ts, fp, hl, hr⟩ := RMs_of_each n fun i hi => h i (by omega)
    obtain ⟨t, l, e0, f, ht⟩ := h n (by omega)
    refine ⟨ts ++ [t], fp ++ f, by simp [hl], RMs_snoc ts hr ?_ ht⟩
    rw [hl]; exact e0

section
variable {H : Type} {enc : TypeId × Value → H} {P : Program} {w : World} {base : Nat} {spare : Nat → Bool} {held : Bool}
theorem open_term {T Ty' : TypeId} {f0 f1 f2 f3 f4 f5 f6 g0 g1 : Field} (hT : P.underlying T = some (.struct #[f0, f1, f2, f3, f4, f5, f6]))
    (hY : P.underlying Ty' = some (.struct #[g0, g1])) (hY0 : P.underlying g0.type = some (.int .i64)) (hYS : P.underlying g1.type = some (.slice Ty')) (hYC : P.cellsOf Ty' = 2) (p0 : g0.offset = 0) (p1 : g1.offset = 1) (j0 : P.cellsOf g0.type = 1) (j1 : P.cellsOf g1.type = 1)
    (h0 : P.underlying f0.type = some (.int .i64)) (h1 : P.underlying f1.type = some .string) (h2 : P.underlying f2.type = some .string) (h3 : P.underlying f3.type = some (.int .i64)) (h4 : f4.type = Ty') (h5 : f5.type = Ty') (h6 : P.underlying f6.type = some (.slice T))
    (hC : P.cellsOf T = 9) (o : f0.offset = 0 ∧ f1.offset = 1 ∧ f2.offset = 2 ∧ f3.offset = 3 ∧ f4.offset = 4 ∧ f5.offset = 6 ∧ f6.offset = 8)
    (k : P.cellsOf f0.type = 1 ∧ P.cellsOf f1.type = 1 ∧ P.cellsOf f2.type = 1 ∧ P.cellsOf f3.type = 1 ∧ P.cellsOf f6.type = 1) :
    ∀ (fuel : Nat) (cs : List Value) (x : DataW H × List MemPlace), DataW.trod enc P w base spare held fuel T cs = some x → ∃ t l, cs = tcells t l ∧ Md w t l := by
  obtain ⟨o0, o1, o2, o3, o4, o5, o6⟩ := o
  obtain ⟨k0, k1, k2, k3, k6⟩ := k
  intro fuel
  induction fuel using Nat.strongRecOn with
  | _ fuel ih =>
    intro cs x h
    obtain ⟨xs, n, rfl, hx, hlen, hxl, hf⟩ := DataW.trod_struct hT h
    rw [hC] at hlen
    match cs, hlen with
    | [c0, c1, c2, c3, c4, c5, c6, c7, c8], _ =>
      match xs, hxl with
      | [y0, y1, y2, y3, y4, y5, y6], _ =>
        have r0 := hf 0 f0 rfl
        have r1 := hf 1 f1 rfl
        have r2 := hf 2 f2 rfl
        have r3 := hf 3 f3 rfl
        have r4 := hf 4 f4 rfl
        have r5 := hf 5 f5 rfl
        have r6 := hf 6 f6 rfl
        simp [o0, k0] at r0
        simp [o1, k1] at r1
        simp [o2, k2] at r2
        simp [o3, k3] at r3
        simp [o4, h4, hYC] at r4
        simp [o5, h5, hYC] at r5
        simp [o6, k6] at r6
        obtain ⟨kd, e0, _, wf0⟩ := DataW.trod_int h0 r0
        simp only [List.cons.injEq, and_true] at e0
        subst e0
        obtain ⟨nm, e1, _, hz1⟩ := DataW.trod_string h1 r1
        simp only [List.cons.injEq, and_true] at e1
        subst e1
        obtain ⟨ot, e2, _, hz2⟩ := DataW.trod_string h2 r2
        simp only [List.cons.injEq, and_true] at e2
        subst e2
        obtain ⟨nn, e3, _, wf3⟩ := DataW.trod_int h3 r3
        simp only [List.cons.injEq, and_true] at e3
        subst e3
        obtain ⟨d4, d5, ty, e4, hty⟩ := open_type hY hY0 hYS hYC p0 p1 j0 j1 _ _ _ r4
        obtain ⟨d6, d7, re, e5, hre⟩ := open_type hY hY0 hYS hYC p0 p1 j0 j1 _ _ _ r5
        simp only [List.cons.injEq, and_true] at e4 e5
        obtain ⟨rfl, rfl⟩ := e4
        obtain ⟨rfl, rfl⟩ := e5
        obtain ⟨ta, tn, tc, rfl, rfl, -, -⟩ := hty.shape
        obtain ⟨ra, rn, rc, rfl, rfl, -, -⟩ := hre.shape
        rcases DataW.trod_slice h6 r6 with ⟨e6, _⟩ | ⟨a, len, cap, elems, rest, m, hm, e6, _, hb, hlc, hcm, hel, hall, _, _⟩
        · simp only [List.cons.injEq, and_true] at e6
          subst e6
          exact ⟨⟨kd, nm, ot, nn, ty, re, []⟩, ⟨ta, tn, tc, ra, rn, rc, none, 0, 0⟩, rfl, Md.mk ⟨i64_of_wf wf0, i64_of_wf wf3, hz1, hz2⟩ hty hre ⟨rfl, by simp, by simp, .inl rfl⟩⟩
        · simp only [List.cons.injEq, and_true] at e6
          subst e6
          by_cases hl0 : len = 0
          · subst hl0
            exact ⟨⟨kd, nm, ot, nn, ty, re, []⟩, ⟨ta, tn, tc, ra, rn, rc, some a, 0, cap⟩, rfl, Md.mk ⟨i64_of_wf wf0, i64_of_wf wf3, hz1, hz2⟩ hty hre ⟨rfl, hlc, hcm, .inl rfl⟩⟩
          · have each : ∀ i, i < len → ∃ t l, (∀ j v, (tcells t l)[j]? = some v → w.cell? (a.add (i * 9 + j)) = some v) ∧ Md w t l := by
              intro i hi
              have hh := hall i hi
              rw [List.getElem?_eq_getElem (by omega), hC] at hh
              obtain ⟨cs', q1, q2⟩ := Option.bind_eq_some_iff.1 hh
              obtain ⟨t, l, rfl, hr⟩ := ih m (by omega) cs' _ q2
              obtain ⟨_, _, hcell⟩ := World.cells?_some q1
              refine ⟨t, l, fun j v hv => ?_, hr⟩
              have hj : j < 9 := by
                rcases Nat.lt_or_ge j 9 with h | h
                · exact h
                · rw [List.getElem?_eq_none (by rw [tcells_len]; exact h)] at hv
                  cases hv
              have := hcell j (by omega)
              rw [add_add] at this
              rw [this, hv]
            obtain ⟨b, off, spot⟩ := a
            obtain ⟨t, l, e0, _⟩ := each 0 (by omega)
            have hspot : spot = none := by simpa [Addr.add] using World.cell?_spot (e0 0 _ rfl)
            subst hspot
            obtain ⟨ts, fp, htl, hts⟩ := RMs_of_each (w := w) (b := b) (off := off) len fun i hi => by
              obtain ⟨t, l, e0, hr⟩ := each i hi
              refine ⟨t, l, fun j v hv => ?_, hr⟩
              have := e0 j v hv
              rw [add_plain] at this
              rw [Nat.add_assoc]
              exact this
            refine ⟨⟨kd, nm, ot, nn, ty, re, ts⟩, ⟨ta, tn, tc, ra, rn, rc, some ⟨b, off, none⟩, len, cap⟩, rfl, Md.mk ⟨i64_of_wf wf0, i64_of_wf wf3, hz1, hz2⟩ hty hre ⟨htl.symm, hlc, hcm, .inr ⟨?_, b, off, fp, rfl, hts⟩⟩⟩
            rintro rfl
            simp at htl
            omega
end
end Go.Proofs.YtiofojaifonefaaDoor
