/-
  From the form's reading of an argument to a plain tree: whatever reads as a value of the recursive struct type reads as a 'Ty'.
-/
import Derived.Test.YtklifieahcoljaaGreatRep
import Derived.Deep.Slices
import Derived.ChangeSame
namespace Go.Proofs.YtklifieahcoljaaGreat
open Go.RowKit Go.ChangeShapes Go.WideShapes Go.Deep
set_option linter.unusedVariables false

theorem i64_of_wf {n : Int} (h : (Lit.int .i64 n).wf = true) : i64 n := by
  simpa [i64, Lit.wf, IntKind.min, IntKind.max, IntKind.signed, IntKind.bits] using h

theorem RTs_of_each {w : World} {b off : Nat} : ∀ (n : Nat), (∀ i, i < n → ∃ c0 c1 t, w.cell? ⟨b, off + i * 2, none⟩ = some c0 ∧ w.cell? ⟨b, off + i * 2 + 1, none⟩ = some c1 ∧ Rd w t c0 c1) →
    ∃ ts fp, ts.length = n ∧ RTs w ts b off fp
  | 0, _ => ⟨[], [], rfl, by rw [RTs]⟩
  | n + 1, h => by
    obtain ⟨ts, fp, hl, hr⟩ := RTs_of_each n fun i hi => h i (by omega)
    obtain ⟨c0, c1, t, e0, e1, f, ht⟩ := h n (by omega)
    refine ⟨ts ++ [t], fp ++ f, by simp [hl], RTs_snoc ts hr ?_ ?_ ht⟩
    · rw [hl]; exact e0
    · rw [hl]; exact e1

section
variable {H : Type} {enc : TypeId × Value → H} {P : Program} {w : World} {base : Nat} {spare : Nat → Bool} {held : Bool}
theorem open_type {T : TypeId} {f0 f1 : Field} (hT : P.underlying T = some (.struct #[f0, f1])) (h0 : P.underlying f0.type = some (.int .i64)) (hS : P.underlying f1.type = some (.slice T))
    (hC : P.cellsOf T = 2) (o0 : f0.offset = 0) (o1 : f1.offset = 1) (k0 : P.cellsOf f0.type = 1) (k1 : P.cellsOf f1.type = 1) :
    ∀ (fuel : Nat) (cs : List Value) (x : DataW H × List MemPlace), DataW.trod enc P w base spare held fuel T cs = some x → ∃ c0 c1 t, cs = [c0, c1] ∧ Rd w t c0 c1 := by
  intro fuel
  induction fuel using Nat.strongRecOn with
  | _ fuel ih =>
    intro cs x h
    obtain ⟨xs, n, rfl, hx, hlen, hxl, hf⟩ := DataW.trod_struct hT h
    rw [hC] at hlen
    match cs, hlen with
    | [c0, c1], _ =>
      match xs, hxl with
      | [y0, y1], _ =>
        have g0 := hf 0 f0 rfl
        have g1 := hf 1 f1 rfl
        simp [o0, k0] at g0
        simp [o1, k1] at g1
        obtain ⟨k, e0, _, hwf⟩ := DataW.trod_int h0 g0
        simp only [List.cons.injEq, and_true] at e0
        subst e0
        rcases DataW.trod_slice hS g1 with ⟨e1, _⟩ | ⟨a, len, cap, elems, rest, m, hm, e1, _, hb, hlc, hcm, hel, hall, _, _⟩
        · simp only [List.cons.injEq, and_true] at e1
          subst e1
          exact ⟨_, _, ⟨k, []⟩, rfl, Rd.mk (i64_of_wf hwf) ⟨rfl, by simp, by simp, .inl rfl⟩⟩
        · simp only [List.cons.injEq, and_true] at e1
          subst e1
          have each : ∀ i, i < len → ∃ d0 d1 t, w.cell? (a.add (i * 2)) = some d0 ∧ w.cell? (a.add (i * 2 + 1)) = some d1 ∧ Rd w t d0 d1 := by
            intro i hi
            have hh := hall i hi
            rw [List.getElem?_eq_getElem (by omega), hC] at hh
            obtain ⟨cs', h1, h2⟩ := Option.bind_eq_some_iff.1 hh
            obtain ⟨d0, d1, t, rfl, hr⟩ := ih m (by omega) cs' _ h2
            obtain ⟨_, _, hcell⟩ := World.cells?_some h1
            refine ⟨d0, d1, t, ?_, ?_, hr⟩
            · have := hcell 0 (by omega)
              rw [add_add] at this
              simpa using this
            · have := hcell 1 (by omega)
              rw [add_add] at this
              simpa using this
          by_cases hl0 : len = 0
          · subst hl0
            exact ⟨_, _, ⟨k, []⟩, rfl, Rd.mk (i64_of_wf hwf) ⟨rfl, hlc, hcm, .inl rfl⟩⟩
          · obtain ⟨b, off, spot⟩ := a
            obtain ⟨d0, d1, t, e0, _, _⟩ := each 0 (by omega)
            have hspot : spot = none := by simpa [Addr.add] using World.cell?_spot e0
            subst hspot
            obtain ⟨ts, fp, htl, hts⟩ := RTs_of_each (w := w) (b := b) (off := off) len fun i hi => by
              obtain ⟨d0, d1, t, e0, e1, hr⟩ := each i hi
              rw [add_plain] at e0 e1
              exact ⟨d0, d1, t, e0, e1, hr⟩
            refine ⟨_, _, ⟨k, ts⟩, rfl, Rd.mk (i64_of_wf hwf) ⟨htl.symm, hlc, hcm, .inr ⟨?_, b, off, fp, rfl, hts⟩⟩⟩
            rintro rfl
            simp at htl
            omega
end
end Go.Proofs.YtklifieahcoljaaGreat
