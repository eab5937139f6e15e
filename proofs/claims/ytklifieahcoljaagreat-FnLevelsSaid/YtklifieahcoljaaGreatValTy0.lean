/-
  What the function literal of the program's IsValidType says of a node.
-/
import Derived.Test.YtklifieahcoljaaGreatNum
import Derived.LoopTactic
import Derived.Outline
import Derived.Deep.RegionHeld3
import Derived.Deep.RegionWith
namespace Go.Proofs.YtklifieahcoljaaGreat
open Go.RowKit
set_option linter.unusedVariables false
set_option linter.unusedSimpArgs false

/-- A node of one of the four kinds with its number of parts. -/
def Ty.formed (t : Ty) : Bool := (t.kind == 1 && t.args.length == 0) || (t.kind == 2 && t.args.length == 0) || (t.kind == 3 && t.args.length == 2) || (t.kind == 4 && t.args.length == 1)

theorem formed_of1 {n : Nat} {xs : List Ty} (h : n = xs.length) : ((n : Int) == 0) = Ty.formed ⟨1, xs⟩ := by
  subst h
  rw [Bool.eq_iff_iff]
  simp [Ty.formed]
theorem formed_of2 {n : Nat} {xs : List Ty} (h : n = xs.length) : ((n : Int) == 0) = Ty.formed ⟨2, xs⟩ := by
  subst h
  rw [Bool.eq_iff_iff]
  simp [Ty.formed]
theorem formed_of3 {n : Nat} {xs : List Ty} (h : n = xs.length) : ((n : Int) == 2) = Ty.formed ⟨3, xs⟩ := by
  subst h
  rw [Bool.eq_iff_iff]
  simp [Ty.formed]
  omega
theorem formed_of4 {n : Nat} {xs : List Ty} (h : n = xs.length) : ((n : Int) == 1) = Ty.formed ⟨4, xs⟩ := by
  subst h
  rw [Bool.eq_iff_iff]
  simp [Ty.formed]
  omega

end Go.Proofs.YtklifieahcoljaaGreat
