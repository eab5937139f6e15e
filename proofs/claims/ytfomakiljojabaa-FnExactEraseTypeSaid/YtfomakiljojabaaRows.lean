/-
  NARROWER THAN 'FOR EVERY INPUT', by the rows' own cells (each row's printed sentence says how): FnExactSizeOfType: loops · FnExactDepthOfType: loops · FnExactEqualType: loops · FnExactIsBase: loops · FnExactIsValidType: loops · FnExactIsPlainType: loops · FnExactEraseType: loops · FnExactFormatType: loops.
  DERIVED. THE GIVEN ROWS OF THIS SEAT. 9 by the template 'for every input the law returns true; each argument reads behind the call as it read before'; 0 by the template 'total and deterministic' (their statements: YtfomakiljojabaaTotals.lean).
  GIVEN WITH THE SEED: the statements are not yours to turn. If you find one false, say at which input.
  Laid BY PROGRAM, IN A SANDBOX (cutbox-rows.mjs): the forced cells as the released guide's own fill.sh prints them over the translation ac72da4c14684204… (all of the seat's roots in one cut). By AI agents, Wed Nov 11 2026. No macro, syntax, notation, axiom, sorry.
-/
import Derived.Test.YtfomakiljojabaaChecked
import GoSem.Claim
import GoSem.ClaimJoined
import GoSem.ClaimMapViews
import Derived.JoinedTies
import Derived.KernelRfl
namespace Go.Proofs.Ytfomakiljojabaa
/- THE CELL 'sum', in the pinned program and in every row, IS THE sha256 OF THE DUMP (.gsa) THAT YtfomakiljojabaaProg.lean LOADS. Nothing in Lean hashes anything: it is a label: what it is worth is what the hold of that sum in a sandbox is worth. -/
noncomputable def Try.pinned : Pinned := { name := "ytfomakiljojabaa", sum := "ac72da4c14684204de0ea96f55bfb81d59c69eb1e5d3c54789e3ef124ce82dc9", checked := Try.checked }
namespace Rows
def none {H : Type} : Left H := { results := [], args := [] }

/-- 'laws.FnExactSizeOfType': WHATEVER THE INPUT: true; the input reads as it did. -/
def fnExactSizeOfTypeSpec : ChangeSpec := { name := "fnExactSizeOfType", fn := fun _ => fun
  | [d] => { results := [.lit (.bool true)], args := [d] }
  | _ => none }
def fnExactSizeOfTypeRow : OpenClaim := { program := "ytfomakiljojabaa", sum := "ac72da4c14684204de0ea96f55bfb81d59c69eb1e5d3c54789e3ef124ce82dc9", func := "loop.example/g00589/laws.FnExactSizeOfType", spec := "fnExactSizeOfType", recurses := true, loops := true, apart := false }
def FnExactSizeOfTypeSaid : Prop := fnExactSizeOfTypeRow.holds Try.pinned (OpenSpec.ofChange fnExactSizeOfTypeSpec)

/-- ITS FALSE NEIGHBOUR: 'it returns false'. Refute it at one input. -/
def fnExactSizeOfTypeWrong : ChangeSpec := { name := "fnExactSizeOfType", fn := fun _ => fun
  | [d] => { results := [.lit (.bool false)], args := [d] }
  | _ => none }
def FnExactSizeOfTypeWrongFalsely : Prop := fnExactSizeOfTypeRow.holds Try.pinned (OpenSpec.ofChange fnExactSizeOfTypeWrong)

/-- 'laws.FnExactDepthOfType': WHATEVER THE INPUT: true; the input reads as it did. -/
def fnExactDepthOfTypeSpec : ChangeSpec := { name := "fnExactDepthOfType", fn := fun _ => fun
  | [d] => { results := [.lit (.bool true)], args := [d] }
  | _ => none }
def fnExactDepthOfTypeRow : OpenClaim := { program := "ytfomakiljojabaa", sum := "ac72da4c14684204de0ea96f55bfb81d59c69eb1e5d3c54789e3ef124ce82dc9", func := "loop.example/g00589/laws.FnExactDepthOfType", spec := "fnExactDepthOfType", recurses := true, loops := true, apart := false }
def FnExactDepthOfTypeSaid : Prop := fnExactDepthOfTypeRow.holds Try.pinned (OpenSpec.ofChange fnExactDepthOfTypeSpec)

/-- ITS FALSE NEIGHBOUR: 'it returns false'. Refute it at one input. -/
def fnExactDepthOfTypeWrong : ChangeSpec := { name := "fnExactDepthOfType", fn := fun _ => fun
  | [d] => { results := [.lit (.bool false)], args := [d] }
  | _ => none }
def FnExactDepthOfTypeWrongFalsely : Prop := fnExactDepthOfTypeRow.holds Try.pinned (OpenSpec.ofChange fnExactDepthOfTypeWrong)

/-- 'laws.FnExactEqualType': WHATEVER THE INPUT: true; the input reads as it did. -/
def fnExactEqualTypeSpec : ChangeSpec := { name := "fnExactEqualType", fn := fun _ => fun
  | [d1, d2] => { results := [.lit (.bool true)], args := [d1, d2] }
  | _ => none }
def fnExactEqualTypeRow : OpenClaim := { program := "ytfomakiljojabaa", sum := "ac72da4c14684204de0ea96f55bfb81d59c69eb1e5d3c54789e3ef124ce82dc9", func := "loop.example/g00589/laws.FnExactEqualType", spec := "fnExactEqualType", unfollowed := true, recurses := true, loops := true, apart := false }
def FnExactEqualTypeSaid : Prop := fnExactEqualTypeRow.holds Try.pinned (OpenSpec.ofChange fnExactEqualTypeSpec)

/-- ITS FALSE NEIGHBOUR: 'it returns false'. Refute it at one input. -/
def fnExactEqualTypeWrong : ChangeSpec := { name := "fnExactEqualType", fn := fun _ => fun
  | [d1, d2] => { results := [.lit (.bool false)], args := [d1, d2] }
  | _ => none }
def FnExactEqualTypeWrongFalsely : Prop := fnExactEqualTypeRow.holds Try.pinned (OpenSpec.ofChange fnExactEqualTypeWrong)

/-- 'laws.FnExactIsBase': WHATEVER THE INPUT: true; the input reads as it did. -/
def fnExactIsBaseSpec : ChangeSpec := { name := "fnExactIsBase", fn := fun _ => fun
  | [d] => { results := [.lit (.bool true)], args := [d] }
  | _ => none }
def fnExactIsBaseRow : OpenClaim := { program := "ytfomakiljojabaa", sum := "ac72da4c14684204de0ea96f55bfb81d59c69eb1e5d3c54789e3ef124ce82dc9", func := "loop.example/g00589/laws.FnExactIsBase", spec := "fnExactIsBase", recurses := true, loops := true, apart := false }
def FnExactIsBaseSaid : Prop := fnExactIsBaseRow.holds Try.pinned (OpenSpec.ofChange fnExactIsBaseSpec)

/-- ITS FALSE NEIGHBOUR: 'it returns false'. Refute it at one input. -/
def fnExactIsBaseWrong : ChangeSpec := { name := "fnExactIsBase", fn := fun _ => fun
  | [d] => { results := [.lit (.bool false)], args := [d] }
  | _ => none }
def FnExactIsBaseWrongFalsely : Prop := fnExactIsBaseRow.holds Try.pinned (OpenSpec.ofChange fnExactIsBaseWrong)

/-- 'laws.FnExactIsValidType': WHATEVER THE INPUT: true; the input reads as it did. -/
def fnExactIsValidTypeSpec : ChangeSpec := { name := "fnExactIsValidType", fn := fun _ => fun
  | [d] => { results := [.lit (.bool true)], args := [d] }
  | _ => none }
def fnExactIsValidTypeRow : OpenClaim := { program := "ytfomakiljojabaa", sum := "ac72da4c14684204de0ea96f55bfb81d59c69eb1e5d3c54789e3ef124ce82dc9", func := "loop.example/g00589/laws.FnExactIsValidType", spec := "fnExactIsValidType", unfollowed := true, recurses := true, loops := true, apart := false }
def FnExactIsValidTypeSaid : Prop := fnExactIsValidTypeRow.holds Try.pinned (OpenSpec.ofChange fnExactIsValidTypeSpec)

/-- ITS FALSE NEIGHBOUR: 'it returns false'. Refute it at one input. -/
def fnExactIsValidTypeWrong : ChangeSpec := { name := "fnExactIsValidType", fn := fun _ => fun
  | [d] => { results := [.lit (.bool false)], args := [d] }
  | _ => none }
def FnExactIsValidTypeWrongFalsely : Prop := fnExactIsValidTypeRow.holds Try.pinned (OpenSpec.ofChange fnExactIsValidTypeWrong)

/-- 'laws.FnExactIsPlainType': WHATEVER THE INPUT: true; the input reads as it did. -/
def fnExactIsPlainTypeSpec : ChangeSpec := { name := "fnExactIsPlainType", fn := fun _ => fun
  | [d] => { results := [.lit (.bool true)], args := [d] }
  | _ => none }
def fnExactIsPlainTypeRow : OpenClaim := { program := "ytfomakiljojabaa", sum := "ac72da4c14684204de0ea96f55bfb81d59c69eb1e5d3c54789e3ef124ce82dc9", func := "loop.example/g00589/laws.FnExactIsPlainType", spec := "fnExactIsPlainType", unfollowed := true, recurses := true, loops := true, apart := false }
def FnExactIsPlainTypeSaid : Prop := fnExactIsPlainTypeRow.holds Try.pinned (OpenSpec.ofChange fnExactIsPlainTypeSpec)

/-- ITS FALSE NEIGHBOUR: 'it returns false'. Refute it at one input. -/
def fnExactIsPlainTypeWrong : ChangeSpec := { name := "fnExactIsPlainType", fn := fun _ => fun
  | [d] => { results := [.lit (.bool false)], args := [d] }
  | _ => none }
def FnExactIsPlainTypeWrongFalsely : Prop := fnExactIsPlainTypeRow.holds Try.pinned (OpenSpec.ofChange fnExactIsPlainTypeWrong)

/-- 'laws.FnExactEraseType': WHATEVER THE INPUT: true; the input reads as it did. -/
def fnExactEraseTypeSpec : ChangeSpec := { name := "fnExactEraseType", fn := fun _ => fun
  | [d] => { results := [.lit (.bool true)], args := [d] }
  | _ => none }
def fnExactEraseTypeRow : OpenClaim := { program := "ytfomakiljojabaa", sum := "ac72da4c14684204de0ea96f55bfb81d59c69eb1e5d3c54789e3ef124ce82dc9", func := "loop.example/g00589/laws.FnExactEraseType", spec := "fnExactEraseType", recurses := true, loops := true, apart := false }
def FnExactEraseTypeSaid : Prop := fnExactEraseTypeRow.holds Try.pinned (OpenSpec.ofChange fnExactEraseTypeSpec)

/-- ITS FALSE NEIGHBOUR: 'it returns false'. Refute it at one input. -/
def fnExactEraseTypeWrong : ChangeSpec := { name := "fnExactEraseType", fn := fun _ => fun
  | [d] => { results := [.lit (.bool false)], args := [d] }
  | _ => none }
def FnExactEraseTypeWrongFalsely : Prop := fnExactEraseTypeRow.holds Try.pinned (OpenSpec.ofChange fnExactEraseTypeWrong)

/-- 'laws.FnExactFormatType': WHATEVER THE INPUT: true; the input reads as it did. -/
def fnExactFormatTypeSpec : ChangeSpec := { name := "fnExactFormatType", fn := fun _ => fun
  | [d] => { results := [.lit (.bool true)], args := [d] }
  | _ => none }
def fnExactFormatTypeRow : OpenClaim := { program := "ytfomakiljojabaa", sum := "ac72da4c14684204de0ea96f55bfb81d59c69eb1e5d3c54789e3ef124ce82dc9", func := "loop.example/g00589/laws.FnExactFormatType", spec := "fnExactFormatType", unfollowed := true, recurses := true, loops := true, apart := false }
def FnExactFormatTypeSaid : Prop := fnExactFormatTypeRow.holds Try.pinned (OpenSpec.ofChange fnExactFormatTypeSpec)

/-- ITS FALSE NEIGHBOUR: 'it returns false'. Refute it at one input. -/
def fnExactFormatTypeWrong : ChangeSpec := { name := "fnExactFormatType", fn := fun _ => fun
  | [d] => { results := [.lit (.bool false)], args := [d] }
  | _ => none }
def FnExactFormatTypeWrongFalsely : Prop := fnExactFormatTypeRow.holds Try.pinned (OpenSpec.ofChange fnExactFormatTypeWrong)

/-- 'laws.FnTypes': WHATEVER THE INPUT: true; the input reads as it did. -/
def fnTypesSpec : ChangeSpec := { name := "fnTypes", fn := fun _ => fun
  | [d] => { results := [.lit (.bool true)], args := [d] }
  | _ => none }
def fnTypesRow : OpenClaim := { program := "ytfomakiljojabaa", sum := "ac72da4c14684204de0ea96f55bfb81d59c69eb1e5d3c54789e3ef124ce82dc9", func := "loop.example/g00589/laws.FnTypes", spec := "fnTypes", unfollowed := true, recurses := true, apart := false }
def FnTypesSaid : Prop := fnTypesRow.holds Try.pinned (OpenSpec.ofChange fnTypesSpec)

/-- ITS FALSE NEIGHBOUR: 'it returns false'. Refute it at one input. -/
def fnTypesWrong : ChangeSpec := { name := "fnTypes", fn := fun _ => fun
  | [d] => { results := [.lit (.bool false)], args := [d] }
  | _ => none }
def FnTypesWrongFalsely : Prop := fnTypesRow.holds Try.pinned (OpenSpec.ofChange fnTypesWrong)

/- THE SECOND FORM. 'bulk': how many values and letters a reading holds, each counted each time it is reached (what is shared counts as often as it is met; a slice's spare places count too). A statement '..UptoSaid' is the law's where the arguments, and the package variables that the reading takes, are together of bulk at most 1048576: NARROWER than '..Said'. Prove '..Said' where nothing that the law and all that it calls make is longer than what came in: it says more and counts as full. Else prove '..UptoSaid'. A law counts once. -/
mutual
def uptoBulk {H : Type} : DataW H → Nat
  | .lit (.string bytes) => bytes.length + 1
  | .lit _ => 1
  | .nil => 1
  | .ptr d => uptoBulk d + 1
  | .slice elems spare => uptoBulkAll elems + uptoBulkAll spare + 1
  | .agg parts => uptoBulkAll parts + 1
  | .iface _ d => uptoBulk d + 1
  | .map entries => uptoBulkEntries entries + 1
  | .held _ => 1
def uptoBulkAll {H : Type} : List (DataW H) → Nat
  | [] => 0
  | d :: r => uptoBulk d + uptoBulkAll r
def uptoBulkEntries {H : Type} : List (Lit × DataW H) → Nat
  | [] => 0
  | x :: r => uptoBulkEntry x + uptoBulkEntries r
def uptoBulkEntry {H : Type} : Lit × DataW H → Nat
  | (.string bytes, d) => bytes.length + uptoBulk d + 1
  | (_, d) => uptoBulk d + 1
 end
def uptoSmall : (H : Type) → List (DataW H) → Bool := fun _ ds => decide (uptoBulkAll ds ≤ 1048576)
def OpenSpec.upto (s : _root_.Go.ChangeSpec) : _root_.Go.OpenSpec := { _root_.Go.OpenSpec.ofChange s with cond := some uptoSmall }

/-- 'laws.FnExactSizeOfType', WHERE WHAT IT READS IS OF BULK AT MOST 1048576: true; the input reads as it did. -/
def fnExactSizeOfTypeUptoRow : OpenClaim := { program := "ytfomakiljojabaa", sum := "ac72da4c14684204de0ea96f55bfb81d59c69eb1e5d3c54789e3ef124ce82dc9", func := "loop.example/g00589/laws.FnExactSizeOfType", spec := "fnExactSizeOfType", recurses := true, loops := true, apart := false, narrowed := true }
def FnExactSizeOfTypeUptoSaid : Prop := fnExactSizeOfTypeUptoRow.holds Try.pinned (OpenSpec.upto fnExactSizeOfTypeSpec)

/-- 'laws.FnExactDepthOfType', WHERE WHAT IT READS IS OF BULK AT MOST 1048576: true; the input reads as it did. -/
def fnExactDepthOfTypeUptoRow : OpenClaim := { program := "ytfomakiljojabaa", sum := "ac72da4c14684204de0ea96f55bfb81d59c69eb1e5d3c54789e3ef124ce82dc9", func := "loop.example/g00589/laws.FnExactDepthOfType", spec := "fnExactDepthOfType", recurses := true, loops := true, apart := false, narrowed := true }
def FnExactDepthOfTypeUptoSaid : Prop := fnExactDepthOfTypeUptoRow.holds Try.pinned (OpenSpec.upto fnExactDepthOfTypeSpec)

/-- 'laws.FnExactEqualType', WHERE WHAT IT READS IS OF BULK AT MOST 1048576: true; the input reads as it did. -/
def fnExactEqualTypeUptoRow : OpenClaim := { program := "ytfomakiljojabaa", sum := "ac72da4c14684204de0ea96f55bfb81d59c69eb1e5d3c54789e3ef124ce82dc9", func := "loop.example/g00589/laws.FnExactEqualType", spec := "fnExactEqualType", unfollowed := true, recurses := true, loops := true, apart := false, narrowed := true }
def FnExactEqualTypeUptoSaid : Prop := fnExactEqualTypeUptoRow.holds Try.pinned (OpenSpec.upto fnExactEqualTypeSpec)

/-- 'laws.FnExactIsBase', WHERE WHAT IT READS IS OF BULK AT MOST 1048576: true; the input reads as it did. -/
def fnExactIsBaseUptoRow : OpenClaim := { program := "ytfomakiljojabaa", sum := "ac72da4c14684204de0ea96f55bfb81d59c69eb1e5d3c54789e3ef124ce82dc9", func := "loop.example/g00589/laws.FnExactIsBase", spec := "fnExactIsBase", recurses := true, loops := true, apart := false, narrowed := true }
def FnExactIsBaseUptoSaid : Prop := fnExactIsBaseUptoRow.holds Try.pinned (OpenSpec.upto fnExactIsBaseSpec)

/-- 'laws.FnExactIsValidType', WHERE WHAT IT READS IS OF BULK AT MOST 1048576: true; the input reads as it did. -/
def fnExactIsValidTypeUptoRow : OpenClaim := { program := "ytfomakiljojabaa", sum := "ac72da4c14684204de0ea96f55bfb81d59c69eb1e5d3c54789e3ef124ce82dc9", func := "loop.example/g00589/laws.FnExactIsValidType", spec := "fnExactIsValidType", unfollowed := true, recurses := true, loops := true, apart := false, narrowed := true }
def FnExactIsValidTypeUptoSaid : Prop := fnExactIsValidTypeUptoRow.holds Try.pinned (OpenSpec.upto fnExactIsValidTypeSpec)

/-- 'laws.FnExactIsPlainType', WHERE WHAT IT READS IS OF BULK AT MOST 1048576: true; the input reads as it did. -/
def fnExactIsPlainTypeUptoRow : OpenClaim := { program := "ytfomakiljojabaa", sum := "ac72da4c14684204de0ea96f55bfb81d59c69eb1e5d3c54789e3ef124ce82dc9", func := "loop.example/g00589/laws.FnExactIsPlainType", spec := "fnExactIsPlainType", unfollowed := true, recurses := true, loops := true, apart := false, narrowed := true }
def FnExactIsPlainTypeUptoSaid : Prop := fnExactIsPlainTypeUptoRow.holds Try.pinned (OpenSpec.upto fnExactIsPlainTypeSpec)

/-- 'laws.FnExactEraseType', WHERE WHAT IT READS IS OF BULK AT MOST 1048576: true; the input reads as it did. -/
def fnExactEraseTypeUptoRow : OpenClaim := { program := "ytfomakiljojabaa", sum := "ac72da4c14684204de0ea96f55bfb81d59c69eb1e5d3c54789e3ef124ce82dc9", func := "loop.example/g00589/laws.FnExactEraseType", spec := "fnExactEraseType", recurses := true, loops := true, apart := false, narrowed := true }
def FnExactEraseTypeUptoSaid : Prop := fnExactEraseTypeUptoRow.holds Try.pinned (OpenSpec.upto fnExactEraseTypeSpec)

/-- 'laws.FnExactFormatType', WHERE WHAT IT READS IS OF BULK AT MOST 1048576: true; the input reads as it did. -/
def fnExactFormatTypeUptoRow : OpenClaim := { program := "ytfomakiljojabaa", sum := "ac72da4c14684204de0ea96f55bfb81d59c69eb1e5d3c54789e3ef124ce82dc9", func := "loop.example/g00589/laws.FnExactFormatType", spec := "fnExactFormatType", unfollowed := true, recurses := true, loops := true, apart := false, narrowed := true }
def FnExactFormatTypeUptoSaid : Prop := fnExactFormatTypeUptoRow.holds Try.pinned (OpenSpec.upto fnExactFormatTypeSpec)

/-- 'laws.FnTypes', WHERE WHAT IT READS IS OF BULK AT MOST 1048576: true; the input reads as it did. -/
def fnTypesUptoRow : OpenClaim := { program := "ytfomakiljojabaa", sum := "ac72da4c14684204de0ea96f55bfb81d59c69eb1e5d3c54789e3ef124ce82dc9", func := "loop.example/g00589/laws.FnTypes", spec := "fnTypes", unfollowed := true, recurses := true, apart := false, narrowed := true }
def FnTypesUptoSaid : Prop := fnTypesUptoRow.holds Try.pinned (OpenSpec.upto fnTypesSpec)

end Rows
end Go.Proofs.Ytfomakiljojabaa
