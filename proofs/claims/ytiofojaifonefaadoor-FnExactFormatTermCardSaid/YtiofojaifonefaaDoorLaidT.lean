/-
  A world in which the library's tables lie as its text lays them; and the table read off such a world.
-/
import Derived.Test.YtiofojaifonefaaDoorItoa
import Derived.Test.YtiofojaifonefaaDoorLift
import Derived.SizedLaws
import Derived.ChangeSame
import Derived.ChangeVars
import Derived.ChangeMaps5
import Derived.JoinedOf
import Derived.JoinedAt
import Derived.RowKit
import Derived.RowKit3
import Derived.RowKitTokens
import Derived.LaidLaws
import Derived.Deep.DeepLaidRun
import Derived.Stop.LaidErr
namespace Go.Proofs.YtiofojaifonefaaDoor
open Go.RowKit Go.ChangeShapes Go.WideShapes Go.ChangeAt
set_option maxRecDepth 100000
set_option linter.unusedVariables false
set_option linter.unusedSimpArgs false

/-- The cells of a table. -/
def tabCells : DataW Unit → Array Value
  | .agg xs => (xs.map fun d => match d with
    | .lit (.int k n) => Value.int k n
    | _ => undef).toArray
  | _ => #[]
/-- The tables that lie. -/
def lay3 (w0 : World) : World :=
  { w0 with heap := ((w0.heap.modify 2 fun
      | .cells _ t frozen => .cells (tabCells Rows.laid_math_bits_deBruijn32tab) t frozen
      | o => o).modify 3 fun
      | .cells _ t frozen => .cells (tabCells Rows.laid_math_bits_deBruijn64tab) t frozen
      | o => o).modify 0 fun
      | .cells _ t frozen => .cells (tabCells Rows.laid_internal_strconv_uint64pow10) t frozen
      | o => o }
noncomputable def laidWorld3 (os : Os) : World := lay3 (World.holding Tryd.prog os ⟨#[], #[], []⟩)
abbrev L3 : List (String × DataW Unit) := [("math/bits.deBruijn32tab", Rows.laid_math_bits_deBruijn32tab), ("math/bits.deBruijn64tab", Rows.laid_math_bits_deBruijn64tab), ("internal/strconv.uint64pow10", Rows.laid_internal_strconv_uint64pow10)]
theorem laidWorld3_met (os : Os) (args : Array Value) : laidMet Tryd.prog L3 ((laidWorld3 os).forCall (fun _ _ => 0) ⟨#[], args, []⟩).memory :=
  laidMet_of_run3 8 (by kernel_rfl) (by kernel_rfl) (by kernel_rfl)
theorem pow_data : (Rows.laid_internal_strconv_uint64pow10 : DataW Unit) = Lib.tabData .u64 Lib.pow10Tab := by kernel_rfl
theorem pow_named : Tryd.prog.globalNamed "internal/strconv.uint64pow10" = some 0 := by kernel_rfl
theorem tab_of_head {rest : List (String × DataW Unit)} {W : World} (h : laidMet Tryd.prog (("internal/strconv.uint64pow10", Rows.laid_internal_strconv_uint64pow10) :: rest) W) : Tab W := by
  rw [pow_data] at h
  exact Lib.tabIs_of_head (t := 97) (e := 86) (n := 20) pow_named (by kernel_rfl) (by kernel_rfl) (by kernel_rfl) (by kernel_rfl) (by kernel_rfl) h
theorem tab_of_laid3 {W : World} (h : laidMet Tryd.prog L3 W) : Tab W := tab_of_head (laidMet.tail (laidMet.tail h))
theorem own : ownKnob Tryd.prog.godebug = none := by kernel_rfl
end Go.Proofs.YtiofojaifonefaaDoor
