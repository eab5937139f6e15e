/-
  The draw of two types: DrawEqualType; and 'big'.
-/
import Derived.Test.YtklifieahcoljaaGreatBentTy
namespace Go.Proofs.YtklifieahcoljaaGreat
open Go.RowKit
set_option maxRecDepth 100000
set_option linter.unusedVariables false
set_option linter.unusedSimpArgs false

/-- What a draw of two types gives. -/
def DrawnTy2 (w : World) (e : Ending) (w' : World) : Prop := ∃ (t u : Ty) (a a' : Option Addr) (n c n' c' : Nat), e = .returned (.tuple #[.agg #[.int .i64 t.kind, .slice a n c], .agg #[.int .i64 u.kind, .slice a' n' c']]) ∧
  Rd w' t (.int .i64 t.kind) (.slice a n c) ∧ Rd w' u (.int .i64 u.kind) (.slice a' n' c') ∧ t.size ≤ 200 ∧ u.size ≤ 200 ∧ Below w.heap.size w w'
theorem four_stores {R S : Nat} {w : World} {a b c d : Value} (base : Nat) (hR : R < base) (hS : S < base) : Fresh base w ((((w.setCell ⟨R, 0, none⟩ a).setCell ⟨R, 1, none⟩ b).setCell ⟨S, 0, none⟩ c).setCell ⟨S, 1, none⟩ d) :=
  (((Fresh.set_ (p := ⟨R, 0, none⟩) hR _).trans (Fresh.set_ (p := ⟨R, 1, none⟩) hR _)).trans (Fresh.set_ (p := ⟨S, 0, none⟩) hS _)).trans (Fresh.set_ (p := ⟨S, 1, none⟩) hS _)
theorem RT.fresh {base : Nat} {w w' : World} {t : Ty} {c0 c1 : Value} {fp : List Nat} (h : RT w t c0 c1 fp) (hge : ∀ b ∈ fp, base ≤ b) (hF : Fresh base w w') : Rd w' t c0 c1 :=
  ⟨fp, RT.keep _ _ _ _ h fun b hb => SameB.of_heap (hF.2 b (hge b hb) (RT.lt _ _ _ _ h b hb))⟩
theorem below_four {B R S : Nat} {w w1 : World} {a b c d : Value} (h : Below B w w1) (hR : B ≤ R) (hS : B ≤ S) : Below B w ((((w1.setCell ⟨R, 0, none⟩ a).setCell ⟨R, 1, none⟩ b).setCell ⟨S, 0, none⟩ c).setCell ⟨S, 1, none⟩ d) :=
  (((h.setCell (p := ⟨R, 0, none⟩) hR _).setCell (p := ⟨R, 1, none⟩) hR _).setCell (p := ⟨S, 0, none⟩) hS _).setCell (p := ⟨S, 1, none⟩) hS _

theorem big_any (a : Option Addr) (n cap : Nat) (w : World) (hn : n ≤ 9223372036854775807) : Calls Tryz.prog 4 #[.slice a n cap] w fun e w' => e = .returned (.bool (decide ((n : Int) > 1048576))) ∧ w = w' := by
  go_enter Tryz.func4, Tryz.ntmps4
  go_wp2_with fail
  go_ret
  exact ⟨rfl, rfl⟩
end Go.Proofs.YtklifieahcoljaaGreat
