/-
  A world in which the library's tables and its two errors lie as its text lays them; and what is read off such a world.
-/
import Derived.Test.YtcbgapncmjjmeaaDoorLaidT
import Derived.Test.YtcbgapncmjjmeaaDoorNumA
namespace Go.Proofs.YtcbgapncmjjmeaaDoor
open Go.RowKit Go.ChangeShapes Go.WideShapes Go.ChangeAt
set_option maxRecDepth 100000
set_option linter.unusedVariables false
set_option linter.unusedSimpArgs false

abbrev synS : ByteArray := { data := #[105, 110, 118, 97, 108, 105, 100, 32, 115, 121, 110, 116, 97, 120] }
abbrev rngS : ByteArray := { data := #[118, 97, 108, 117, 101, 32, 111, 117, 116, 32, 111, 102, 32, 114, 97, 110, 103, 101] }
/-- So many blocks has the settled world. -/
noncomputable def low5 : Nat := (World.holding Tryd.prog default ⟨#[], #[], []⟩).heap.size
/-- The tables lie; two blocks more, each a library error; the two variables point to them. -/
noncomputable def laidWorld5 (os : Os) : World :=
  let w0 := lay3 (World.holding Tryd.prog os ⟨#[.cells #[.string synS] 125, .cells #[.string rngS] 125], #[], []⟩)
  { w0 with heap := (w0.heap.modify 1 fun
      | .cells _ t frozen => .cells #[.iface 123 (.pointer (some ⟨low5, 0, none⟩))] t frozen
      | o => o).modify 2 fun
      | .cells _ t frozen => .cells #[.iface 123 (.pointer (some ⟨low5 + 1, 0, none⟩))] t frozen
      | o => o }
abbrev L5 : List (String × DataW Unit) := [("math/bits.deBruijn32tab", Rows.laid_math_bits_deBruijn32tab), ("math/bits.deBruijn64tab", Rows.laid_math_bits_deBruijn64tab), ("internal/strconv.uint64pow10", Rows.laid_internal_strconv_uint64pow10), ("strconv.ErrRange", Rows.laid_strconv_ErrRange), ("strconv.ErrSyntax", Rows.laid_strconv_ErrSyntax)]
theorem laidWorld5_met (os : Os) (args : Array Value) : laidMet Tryd.prog L5 ((laidWorld5 os).forCall (fun _ _ => 0) ⟨#[], args, []⟩).memory :=
  laidMet_of_run' 8 (by kernel_rfl) (by kernel_rfl)
theorem tab_of_laid5 {W : World} (h : laidMet Tryd.prog L5 W) : Tab W := tab_of_head (laidMet.tail (laidMet.tail h))

theorem star : "*" ++ "errors.errorString" = "*errors.errorString" := by decide
theorem gR : Tryd.prog.globalNamed "strconv.ErrRange" = some 2 := by kernel_rfl
theorem gS : Tryd.prog.globalNamed "strconv.ErrSyntax" = some 1 := by kernel_rfl
theorem gRt : (Tryd.prog.globals[2]?).map (·.type) = some 72 := by kernel_rfl
theorem gSt : (Tryd.prog.globals[1]?).map (·.type) = some 72 := by kernel_rfl
theorem errRow (u : TypeId) (h : Tryd.prog.typeName? 3 u = some "*errors.errorString") : u = 123 :=
  typeName_ptr_named (nm := "errors.errorString") (by rw [star]; kernel_rfl) (by kernel_rfl) (by decide) u (by rw [star]; exact h)
theorem rng_of_laid5 {W : World} (h : laidMet Tryd.prog L5 W) : Rng W := by
  obtain ⟨a0, s0, hv0, -, -, -⟩ := laid_sentinel (laidMet.tail (laidMet.tail (laidMet.tail h))) gR gRt Tryd.underlying72 errRow Tryd.underlying123 Tryd.underlying125 rfl rfl Tryd.underlying9 (by kernel_rfl) (by kernel_rfl)
  exact ⟨_, _, hv0⟩
theorem syn_of_laid5 {W : World} (h : laidMet Tryd.prog L5 W) : Syn W := by
  obtain ⟨a0, s0, hv0, -, -, -⟩ := laid_sentinel (laidMet.tail (laidMet.tail (laidMet.tail (laidMet.tail h)))) gS gSt Tryd.underlying72 errRow Tryd.underlying123 Tryd.underlying125 rfl rfl Tryd.underlying9 (by kernel_rfl) (by kernel_rfl)
  exact ⟨_, _, hv0⟩
end Go.Proofs.YtcbgapncmjjmeaaDoor
