/-
  The law FnExactFormatTerm: the program's FormatTerm and the reference's return the same string for every term.
  The statement is a card: the library's variables that the row lists lie as the program's text lays them (the tie is given). No other condition beyond the form's own. This text is the row's step over the law's walk, and the card.
-/
import Derived.Test.YtiofojaifonefaaDoorLawFormatTerm
import Derived.Test.YtiofojaifonefaaDoorLaidT
import Derived.Test.YtiofojaifonefaaDoorCards
import Derived.Test.YtiofojaifonefaaDoorTie
import Derived.SevenTiedAt
import Derived.Test.YtiofojaifonefaaDoorOpenM
namespace Go.Proofs.YtiofojaifonefaaDoor.fnExactFormatTerm
open Go.RowKit Go.ChangeShapes Go.WideShapes Go.ChangeAt
set_option linter.unusedVariables false
set_option maxRecDepth 100000

theorem lifted (os : Os) (started : os.Started) (H : Type) (enc : TypeId × Value → H) :
    ReturnsInHanded {} Tryd.checked os 4 .any (fun w args => (Rows.fnExactFormatTermSpec.pre enc Tryd.prog Tryd.f4 Rows.fnExactFormatTermRow.domain false w args ∧ laidMet Tryd.prog L3 w) ∧ sizedMet enc Tryd.prog Tryd.f4 (OpenSpec.ofChange Rows.fnExactFormatTermSpec) false w args)
      (Rows.fnExactFormatTermSpec.post enc Tryd.prog Tryd.f4 false true false false) := by
  refine returnsInHanded_of_change_and (C := Tryd.checked) (X := fun w _ => laidMet Tryd.prog L3 w) (fun _ _ _ hh h => h.of_heap hh) own started (by kernel_rfl) Tryd.func4
    (ChangeSpec.witness_at (enc := enc) (C := Tryd.checked) (os := os) (X := fun w _ => laidMet Tryd.prog L3 w) false (laidWorld3 os) #[.agg #[.int .i64 0, .string ByteArray.empty, .string ByteArray.empty, .int .i64 0, .int .i64 0, .slice none 0 0, .int .i64 0, .slice none 0 0, .slice none 0 0]] 8 rfl (by kernel_rfl) (by kernel_rfl) (by kernel_rfl) (by kernel_rfl) (by kernel_rfl) (laidWorld3_met os _)) ?_
  intro W base args ds gs before hval0 hW hcnd hsz0 hL _
  have hval : ∀ (j : Nat) t v, Tryd.f4.params[j]? = some t → args[j]? = some v → Value.okWide Tryd.prog W .any base t v := hval0
  have hW' := hW
  obtain ⟨p, q, hA0, hV, rfl, hfz, hnd⟩ := hW
  have hA : DataW.TrodAll enc Tryd.prog W 0 (fun _ => true) true Tryd.f4.params.toList args.toList ds p := hA0
  rw [Tryd.params4] at hA hval
  obtain ⟨v0, d0, rfl, rfl, h0⟩ := trodAll_one hA
  obtain ⟨rfl, rfl⟩ := trodVars_none hV
  obtain ⟨cs0, rfl, -⟩ := okWide_struct Tryd.underlying27 (hval 0 27 v0 rfl rfl)
  obtain ⟨fu0, hf0⟩ := h0
  obtain ⟨t0, l0, hcs0, hr0⟩ := open_term Tryd.underlying27 Tryd.underlying24 Tryd.underlying3 Tryd.underlying22 (by kernel_rfl) rfl rfl (by kernel_rfl) (by kernel_rfl) Tryd.underlying3 Tryd.underlying9 Tryd.underlying9 Tryd.underlying3 rfl rfl Tryd.underlying25 (by kernel_rfl) ⟨rfl, rfl, rfl, rfl, rfl, rfl, rfl⟩ ⟨by kernel_rfl, by kernel_rfl, by kernel_rfl, by kernel_rfl, by kernel_rfl⟩ fu0 _ _ hf0
  obtain rfl : cs0 = #[.int .i64 t0.kind, .string t0.name, .string t0.other, .int .i64 t0.n, .int .i64 t0.type.kind, .slice l0.ta l0.tn l0.tc, .int .i64 t0.res.kind, .slice l0.ra l0.rn l0.rc, .slice l0.aa l0.an l0.ac] := by cases cs0; simpa [Value.cells, tcells] using hcs0
  clear hA0 hval0
  refine (walk t0 l0 W hr0 (tab_of_laid3 hL)).mono fun e W' ⟨he, hb⟩ => ?_
  subst he
  exact ⟨_, rfl, law_post (tb := 4) rfl rfl rfl Tryd.underlying4 (by kernel_rfl) (by rw [Tryd.params4]; intro t ht; simp at ht; subst ht; exact ⟨by kernel_rfl, of_decide_eq_true (by kernel_rfl)⟩) hW' hb⟩

theorem over : Rows.fnExactFormatTermRow.holds Tryd.pinned (OpenSpec.ofChange Rows.fnExactFormatTermSpec) :=
  OpenClaim.holds_of_wide 4 Tryd.f4 rfl rfl rfl rfl rfl rfl rfl ⟨rfl, rfl, rfl, rfl, rfl⟩ rfl rfl rfl rfl rfl (by kernel_rfl) Tryd.func4 (by kernel_rfl)
    (of_decide_eq_true (by kernel_rfl)) (by unfold Func.isWrapper; first | (rw [if_pos (by decide +kernel)]; kernel_rfl) | (rw [if_neg (by decide +kernel)]; exact ⟨rfl, rfl⟩))
    (fun os started H enc _ => lifted os started H enc)

theorem proved : Rows.FnExactFormatTermCardSaid :=
  Claim7.holds_tied_plain_at .later [] _ true Rows.fnExactFormatTermCard.stood.harness Rows.fnExactFormatTermCard.stood.looks
    over (fun _ h => by cases h) (by kernel_rfl) (fun _ h => by cases h) fnExactFormatTerm_row_tie rfl ⟨rfl, rfl⟩ (by kernel_rfl) rfl
    (fun f fn hf hfn => by
      obtain rfl : f = 4 := Option.some.inj ((show Tryd.prog.funcNamed Rows.fnExactFormatTermRow.func = some 4 by kernel_rfl).symm.trans hf) |>.symm
      obtain rfl : fn = Tryd.f4 := (Option.some.inj (Tryd.func4.symm.trans hfn)).symm
      exact ⟨by kernel_rfl, fun j t ht => by
        rw [Tryd.params4] at ht
        have ht' := Array.mem_of_getElem? ht
        simp at ht'
        subst ht'
        all_goals first | exact (show Tryd.prog.wantsStandIn 27 = false by kernel_rfl)⟩)
    (by kernel_rfl)
#print axioms proved
end Go.Proofs.YtiofojaifonefaaDoor.fnExactFormatTerm
