/-
  What the cases of isForm's contract share.
-/
import Derived.Test.YtmdmnchnkfjpjaaNamedM
import Derived.Test.YtmdmnchnkfjpjaaEqualTy
namespace Go.Proofs.Ytmdmnchnkfjpjaa
open Go.RowKit

theorem formI_eq (t : Tm) : formI t = (((t.args.length : Int) == arityI t.kind t.name) && (namedI t && ((t.name.toList == (wantName t).toList) && ((t.other.toList == (wantOther t).toList) && ((t.n == wantN t) && (t.type.beq (wantType t) && t.res.beq (wantRes t))))))) := rfl
theorem Rd_zero (w : World) : Rd w ⟨0, []⟩ (.int .i64 0) (.slice none 0 0) := Rd.mk (by unfold i64; omega) ⟨rfl, Nat.le_refl _, by simp, .inl rfl⟩
/-- The nine cells of a term's block behind one new block more. -/
theorem Blk.nine_new {w : World} {g T : Nat} {t : Tm} {l : Lt} (h : Blk w g T #[.int .i64 t.kind, .string t.name, .string t.other, .int .i64 t.n, .int .i64 t.type.kind, .slice l.ta l.tn l.tc, .int .i64 t.res.kind, .slice l.ra l.rn l.rc, .slice l.aa l.an l.ac]) :
    (∀ o, (w.alloc o).cell? ⟨g, 0, none⟩ = some (.int .i64 t.kind)) ∧ (∀ o, (w.alloc o).cell? ⟨g, 1, none⟩ = some (.string t.name)) ∧ (∀ o, (w.alloc o).cell? ⟨g, 2, none⟩ = some (.string t.other)) ∧ (∀ o, (w.alloc o).cell? ⟨g, 3, none⟩ = some (.int .i64 t.n)) ∧
    (∀ o, (w.alloc o).cell? ⟨g, 4, none⟩ = some (.int .i64 t.type.kind)) ∧ (∀ o, (w.alloc o).cell? ⟨g, 5, none⟩ = some (.slice l.ta l.tn l.tc)) ∧ (∀ o, (w.alloc o).cell? ⟨g, 6, none⟩ = some (.int .i64 t.res.kind)) ∧ (∀ o, (w.alloc o).cell? ⟨g, 7, none⟩ = some (.slice l.ra l.rn l.rc)) ∧
    (∀ o, (w.alloc o).cell? ⟨g, 8, none⟩ = some (.slice l.aa l.an l.ac)) :=
  ⟨fun o => (h.alloc o).nine.1, fun o => (h.alloc o).nine.2.1, fun o => (h.alloc o).nine.2.2.1, fun o => (h.alloc o).nine.2.2.2.1, fun o => (h.alloc o).nine.2.2.2.2.1, fun o => (h.alloc o).nine.2.2.2.2.2.1, fun o => (h.alloc o).nine.2.2.2.2.2.2.1, fun o => (h.alloc o).nine.2.2.2.2.2.2.2.1, fun o => (h.alloc o).nine.2.2.2.2.2.2.2.2⟩
end Go.Proofs.Ytmdmnchnkfjpjaa
