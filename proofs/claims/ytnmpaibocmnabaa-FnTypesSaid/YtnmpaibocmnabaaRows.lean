/-
  NARROWER THAN 'FOR EVERY INPUT', by the rows' own cells (each row's printed sentence says how): FnExactAreParams: loops · FnExactIsCtx: loops · FnExactEraseCtx: loops.
  DERIVED. THE GIVEN ROWS OF THIS SEAT. 4 by the template 'for every input the law returns true; each argument reads behind the call as it read before'; 0 by the template 'total and deterministic' (their statements: YtnmpaibocmnabaaTotals.lean).
  GIVEN WITH THE SEED: the statements are not yours to turn. If you find one false, say at which input.
  Laid BY PROGRAM, IN A SANDBOX (cutbox-rows.mjs): the forced cells as the released guide's own fill.sh prints them over the translation 59c9487883584c77… (all of the seat's roots in one cut). By AI agents, Wed Nov 11 2026. No macro, syntax, notation, axiom, sorry.
-/
import Derived.Test.YtnmpaibocmnabaaChecked
import GoSem.Claim
import GoSem.ClaimJoined
import GoSem.ClaimMapViews
import Derived.JoinedTies
import Derived.KernelRfl
namespace Go.Proofs.Ytnmpaibocmnabaa
/- THE CELL 'sum', in the pinned program and in every row, IS THE sha256 OF THE DUMP (.gsa) THAT YtnmpaibocmnabaaProg.lean LOADS. Nothing in Lean hashes anything: it is a label: what it is worth is what the hold of that sum in a sandbox is worth. -/
noncomputable def Try.pinned : Pinned := { name := "ytnmpaibocmnabaa", sum := "59c9487883584c773a26c3d25798290be65dbe076b7f3def98c25abbebbf3b3a", checked := Try.checked }
namespace Rows
def none {H : Type} : Left H := { results := [], args := [] }

/-- 'laws.FnExactAreParams': WHATEVER THE INPUT: true; the input reads as it did. -/
def fnExactAreParamsSpec : ChangeSpec := { name := "fnExactAreParams", fn := fun _ => fun
  | [d] => { results := [.lit (.bool true)], args := [d] }
  | _ => none }
def fnExactAreParamsRow : OpenClaim := { program := "ytnmpaibocmnabaa", sum := "59c9487883584c773a26c3d25798290be65dbe076b7f3def98c25abbebbf3b3a", func := "loop.example/g00589/laws.FnExactAreParams", spec := "fnExactAreParams", recurses := true, loops := true, apart := false }
def FnExactAreParamsSaid : Prop := fnExactAreParamsRow.holds Try.pinned (OpenSpec.ofChange fnExactAreParamsSpec)

/-- ITS FALSE NEIGHBOUR: 'it returns false'. Refute it at one input. -/
def fnExactAreParamsWrong : ChangeSpec := { name := "fnExactAreParams", fn := fun _ => fun
  | [d] => { results := [.lit (.bool false)], args := [d] }
  | _ => none }
def FnExactAreParamsWrongFalsely : Prop := fnExactAreParamsRow.holds Try.pinned (OpenSpec.ofChange fnExactAreParamsWrong)

/-- 'laws.FnExactIsCtx': WHATEVER THE INPUT: true; the input reads as it did. -/
def fnExactIsCtxSpec : ChangeSpec := { name := "fnExactIsCtx", fn := fun _ => fun
  | [d] => { results := [.lit (.bool true)], args := [d] }
  | _ => none }
def fnExactIsCtxRow : OpenClaim := { program := "ytnmpaibocmnabaa", sum := "59c9487883584c773a26c3d25798290be65dbe076b7f3def98c25abbebbf3b3a", func := "loop.example/g00589/laws.FnExactIsCtx", spec := "fnExactIsCtx", unfollowed := true, recurses := true, loops := true, apart := false }
def FnExactIsCtxSaid : Prop := fnExactIsCtxRow.holds Try.pinned (OpenSpec.ofChange fnExactIsCtxSpec)

/-- ITS FALSE NEIGHBOUR: 'it returns false'. Refute it at one input. -/
def fnExactIsCtxWrong : ChangeSpec := { name := "fnExactIsCtx", fn := fun _ => fun
  | [d] => { results := [.lit (.bool false)], args := [d] }
  | _ => none }
def FnExactIsCtxWrongFalsely : Prop := fnExactIsCtxRow.holds Try.pinned (OpenSpec.ofChange fnExactIsCtxWrong)

/-- 'laws.FnExactEraseCtx': WHATEVER THE INPUT: true; the input reads as it did. -/
def fnExactEraseCtxSpec : ChangeSpec := { name := "fnExactEraseCtx", fn := fun _ => fun
  | [d] => { results := [.lit (.bool true)], args := [d] }
  | _ => none }
def fnExactEraseCtxRow : OpenClaim := { program := "ytnmpaibocmnabaa", sum := "59c9487883584c773a26c3d25798290be65dbe076b7f3def98c25abbebbf3b3a", func := "loop.example/g00589/laws.FnExactEraseCtx", spec := "fnExactEraseCtx", recurses := true, loops := true, apart := false }
def FnExactEraseCtxSaid : Prop := fnExactEraseCtxRow.holds Try.pinned (OpenSpec.ofChange fnExactEraseCtxSpec)

/-- ITS FALSE NEIGHBOUR: 'it returns false'. Refute it at one input. -/
def fnExactEraseCtxWrong : ChangeSpec := { name := "fnExactEraseCtx", fn := fun _ => fun
  | [d] => { results := [.lit (.bool false)], args := [d] }
  | _ => none }
def FnExactEraseCtxWrongFalsely : Prop := fnExactEraseCtxRow.holds Try.pinned (OpenSpec.ofChange fnExactEraseCtxWrong)

/-- 'laws.FnTypes': WHATEVER THE INPUT: true; the input reads as it did. -/
def fnTypesSpec : ChangeSpec := { name := "fnTypes", fn := fun _ => fun
  | [d] => { results := [.lit (.bool true)], args := [d] }
  | _ => none }
def fnTypesRow : OpenClaim := { program := "ytnmpaibocmnabaa", sum := "59c9487883584c773a26c3d25798290be65dbe076b7f3def98c25abbebbf3b3a", func := "loop.example/g00589/laws.FnTypes", spec := "fnTypes", unfollowed := true, recurses := true, apart := false }
def FnTypesSaid : Prop := fnTypesRow.holds Try.pinned (OpenSpec.ofChange fnTypesSpec)

/-- ITS FALSE NEIGHBOUR: 'it returns false'. Refute it at one input. -/
def fnTypesWrong : ChangeSpec := { name := "fnTypes", fn := fun _ => fun
  | [d] => { results := [.lit (.bool false)], args := [d] }
  | _ => none }
def FnTypesWrongFalsely : Prop := fnTypesRow.holds Try.pinned (OpenSpec.ofChange fnTypesWrong)

/- THE SECOND FORM. 'bulk': how many values and letters a reading holds, each counted each time it is reached (what is shared counts as often as it is met; a slice's spare places count too). A statement '..UptoSaid' is the law's where the arguments, and the package variables that the reading takes, are together of bulk at most 1048576: NARROWER than '..Said'. Prove '..Said' where nothing that the law and all that it calls make is longer than what came in: it says more and counts as full. Else prove '..UptoSaid'. A law counts once. -/
mutual
def uptoBulk {H : Type} : DataW H → Nat
  | .lit (.string bytes) => bytes.length + 1
  | .lit _ => 1
  | .nil => 1
  | .ptr d => uptoBulk d + 1
  | .slice elems spare => uptoBulkAll elems + uptoBulkAll spare + 1
  | .agg parts => uptoBulkAll parts + 1
  | .iface _ d => uptoBulk d + 1
  | .map entries => uptoBulkEntries entries + 1
  | .held _ => 1
def uptoBulkAll {H : Type} : List (DataW H) → Nat
  | [] => 0
  | d :: r => uptoBulk d + uptoBulkAll r
def uptoBulkEntries {H : Type} : List (Lit × DataW H) → Nat
  | [] => 0
  | x :: r => uptoBulkEntry x + uptoBulkEntries r
def uptoBulkEntry {H : Type} : Lit × DataW H → Nat
  | (.string bytes, d) => bytes.length + uptoBulk d + 1
  | (_, d) => uptoBulk d + 1
 end
def uptoSmall : (H : Type) → List (DataW H) → Bool := fun _ ds => decide (uptoBulkAll ds ≤ 1048576)
def OpenSpec.upto (s : _root_.Go.ChangeSpec) : _root_.Go.OpenSpec := { _root_.Go.OpenSpec.ofChange s with cond := some uptoSmall }

/-- 'laws.FnExactAreParams', WHERE WHAT IT READS IS OF BULK AT MOST 1048576: true; the input reads as it did. -/
def fnExactAreParamsUptoRow : OpenClaim := { program := "ytnmpaibocmnabaa", sum := "59c9487883584c773a26c3d25798290be65dbe076b7f3def98c25abbebbf3b3a", func := "loop.example/g00589/laws.FnExactAreParams", spec := "fnExactAreParams", recurses := true, loops := true, apart := false, narrowed := true }
def FnExactAreParamsUptoSaid : Prop := fnExactAreParamsUptoRow.holds Try.pinned (OpenSpec.upto fnExactAreParamsSpec)

/-- 'laws.FnExactIsCtx', WHERE WHAT IT READS IS OF BULK AT MOST 1048576: true; the input reads as it did. -/
def fnExactIsCtxUptoRow : OpenClaim := { program := "ytnmpaibocmnabaa", sum := "59c9487883584c773a26c3d25798290be65dbe076b7f3def98c25abbebbf3b3a", func := "loop.example/g00589/laws.FnExactIsCtx", spec := "fnExactIsCtx", unfollowed := true, recurses := true, loops := true, apart := false, narrowed := true }
def FnExactIsCtxUptoSaid : Prop := fnExactIsCtxUptoRow.holds Try.pinned (OpenSpec.upto fnExactIsCtxSpec)

/-- 'laws.FnExactEraseCtx', WHERE WHAT IT READS IS OF BULK AT MOST 1048576: true; the input reads as it did. -/
def fnExactEraseCtxUptoRow : OpenClaim := { program := "ytnmpaibocmnabaa", sum := "59c9487883584c773a26c3d25798290be65dbe076b7f3def98c25abbebbf3b3a", func := "loop.example/g00589/laws.FnExactEraseCtx", spec := "fnExactEraseCtx", recurses := true, loops := true, apart := false, narrowed := true }
def FnExactEraseCtxUptoSaid : Prop := fnExactEraseCtxUptoRow.holds Try.pinned (OpenSpec.upto fnExactEraseCtxSpec)

/-- 'laws.FnTypes', WHERE WHAT IT READS IS OF BULK AT MOST 1048576: true; the input reads as it did. -/
def fnTypesUptoRow : OpenClaim := { program := "ytnmpaibocmnabaa", sum := "59c9487883584c773a26c3d25798290be65dbe076b7f3def98c25abbebbf3b3a", func := "loop.example/g00589/laws.FnTypes", spec := "fnTypes", unfollowed := true, recurses := true, apart := false, narrowed := true }
def FnTypesUptoSaid : Prop := fnTypesUptoRow.holds Try.pinned (OpenSpec.upto fnTypesSpec)

end Rows
end Go.Proofs.Ytnmpaibocmnabaa
