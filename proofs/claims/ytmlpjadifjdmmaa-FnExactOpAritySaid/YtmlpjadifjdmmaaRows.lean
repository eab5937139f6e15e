/-
  No cell of these rows narrows 'for every input' (looked for: loops, veiled, ifaces, maps, wideKeys, modest, calm, conditions, laid).
  DERIVED. THE GIVEN ROWS OF THIS SEAT. 6 by the template 'for every input the law returns true; each argument reads behind the call as it read before'; 0 by the template 'total and deterministic' (their statements: YtmlpjadifjdmmaaTotals.lean).
  GIVEN WITH THE SEED: the statements are not yours to turn. If you find one false, say at which input.
  Laid BY PROGRAM, IN A SANDBOX (cutbox-rows.mjs): the forced cells as the released guide's own fill.sh prints them over the translation 2359fa78b4298d32… (all of the seat's roots in one cut). By AI agents, Wed Nov 11 2026. No macro, syntax, notation, axiom, sorry.
-/
import Derived.Test.YtmlpjadifjdmmaaChecked
import GoSem.Claim
import GoSem.ClaimJoined
import GoSem.ClaimMapViews
import Derived.JoinedTies
import Derived.KernelRfl
namespace Go.Proofs.Ytmlpjadifjdmmaa
/- THE CELL 'sum', in the pinned program and in every row, IS THE sha256 OF THE DUMP (.gsa) THAT YtmlpjadifjdmmaaProg.lean LOADS. Nothing in Lean hashes anything: it is a label: what it is worth is what the hold of that sum in a sandbox is worth. -/
noncomputable def Try.pinned : Pinned := { name := "ytmlpjadifjdmmaa", sum := "2359fa78b4298d32a37d843dff0d4729fc2cea8ffecc4d70180e277683f79121", checked := Try.checked }
namespace Rows
def none {H : Type} : Left H := { results := [], args := [] }

/-- 'laws.FnExactConstants': WHATEVER THE INPUT: true; the input reads as it did. -/
def fnExactConstantsSpec : ChangeSpec := { name := "fnExactConstants", fn := fun _ => fun
  | [] => { results := [.lit (.bool true)], args := [] }
  | _ => none }
def fnExactConstantsRow : OpenClaim := { program := "ytmlpjadifjdmmaa", sum := "2359fa78b4298d32a37d843dff0d4729fc2cea8ffecc4d70180e277683f79121", func := "loop.example/g00589/laws.FnExactConstants", spec := "fnExactConstants", apart := false }
def FnExactConstantsSaid : Prop := fnExactConstantsRow.holds Try.pinned (OpenSpec.ofChange fnExactConstantsSpec)

/-- ITS FALSE NEIGHBOUR: 'it returns false'. Refute it at one input. -/
def fnExactConstantsWrong : ChangeSpec := { name := "fnExactConstants", fn := fun _ => fun
  | [] => { results := [.lit (.bool false)], args := [] }
  | _ => none }
def FnExactConstantsWrongFalsely : Prop := fnExactConstantsRow.holds Try.pinned (OpenSpec.ofChange fnExactConstantsWrong)

/-- 'laws.FnExactReduce': WHATEVER THE INPUT: true; the input reads as it did. -/
def fnExactReduceSpec : ChangeSpec := { name := "fnExactReduce", fn := fun _ => fun
  | [d] => { results := [.lit (.bool true)], args := [d] }
  | _ => none }
def fnExactReduceRow : OpenClaim := { program := "ytmlpjadifjdmmaa", sum := "2359fa78b4298d32a37d843dff0d4729fc2cea8ffecc4d70180e277683f79121", func := "loop.example/g00589/laws.FnExactReduce", spec := "fnExactReduce", apart := false }
def FnExactReduceSaid : Prop := fnExactReduceRow.holds Try.pinned (OpenSpec.ofChange fnExactReduceSpec)

/-- ITS FALSE NEIGHBOUR: 'it returns false'. Refute it at one input. -/
def fnExactReduceWrong : ChangeSpec := { name := "fnExactReduce", fn := fun _ => fun
  | [d] => { results := [.lit (.bool false)], args := [d] }
  | _ => none }
def FnExactReduceWrongFalsely : Prop := fnExactReduceRow.holds Try.pinned (OpenSpec.ofChange fnExactReduceWrong)

/-- 'laws.FnExactKindName': WHATEVER THE INPUT: true; the input reads as it did. -/
def fnExactKindNameSpec : ChangeSpec := { name := "fnExactKindName", fn := fun _ => fun
  | [d] => { results := [.lit (.bool true)], args := [d] }
  | _ => none }
def fnExactKindNameRow : OpenClaim := { program := "ytmlpjadifjdmmaa", sum := "2359fa78b4298d32a37d843dff0d4729fc2cea8ffecc4d70180e277683f79121", func := "loop.example/g00589/laws.FnExactKindName", spec := "fnExactKindName", apart := false }
def FnExactKindNameSaid : Prop := fnExactKindNameRow.holds Try.pinned (OpenSpec.ofChange fnExactKindNameSpec)

/-- ITS FALSE NEIGHBOUR: 'it returns false'. Refute it at one input. -/
def fnExactKindNameWrong : ChangeSpec := { name := "fnExactKindName", fn := fun _ => fun
  | [d] => { results := [.lit (.bool false)], args := [d] }
  | _ => none }
def FnExactKindNameWrongFalsely : Prop := fnExactKindNameRow.holds Try.pinned (OpenSpec.ofChange fnExactKindNameWrong)

/-- 'laws.FnExactRuleName': WHATEVER THE INPUT: true; the input reads as it did. -/
def fnExactRuleNameSpec : ChangeSpec := { name := "fnExactRuleName", fn := fun _ => fun
  | [d] => { results := [.lit (.bool true)], args := [d] }
  | _ => none }
def fnExactRuleNameRow : OpenClaim := { program := "ytmlpjadifjdmmaa", sum := "2359fa78b4298d32a37d843dff0d4729fc2cea8ffecc4d70180e277683f79121", func := "loop.example/g00589/laws.FnExactRuleName", spec := "fnExactRuleName", apart := false }
def FnExactRuleNameSaid : Prop := fnExactRuleNameRow.holds Try.pinned (OpenSpec.ofChange fnExactRuleNameSpec)

/-- ITS FALSE NEIGHBOUR: 'it returns false'. Refute it at one input. -/
def fnExactRuleNameWrong : ChangeSpec := { name := "fnExactRuleName", fn := fun _ => fun
  | [d] => { results := [.lit (.bool false)], args := [d] }
  | _ => none }
def FnExactRuleNameWrongFalsely : Prop := fnExactRuleNameRow.holds Try.pinned (OpenSpec.ofChange fnExactRuleNameWrong)

/-- 'laws.FnExactStatusName': WHATEVER THE INPUT: true; the input reads as it did. -/
def fnExactStatusNameSpec : ChangeSpec := { name := "fnExactStatusName", fn := fun _ => fun
  | [d] => { results := [.lit (.bool true)], args := [d] }
  | _ => none }
def fnExactStatusNameRow : OpenClaim := { program := "ytmlpjadifjdmmaa", sum := "2359fa78b4298d32a37d843dff0d4729fc2cea8ffecc4d70180e277683f79121", func := "loop.example/g00589/laws.FnExactStatusName", spec := "fnExactStatusName", apart := false }
def FnExactStatusNameSaid : Prop := fnExactStatusNameRow.holds Try.pinned (OpenSpec.ofChange fnExactStatusNameSpec)

/-- ITS FALSE NEIGHBOUR: 'it returns false'. Refute it at one input. -/
def fnExactStatusNameWrong : ChangeSpec := { name := "fnExactStatusName", fn := fun _ => fun
  | [d] => { results := [.lit (.bool false)], args := [d] }
  | _ => none }
def FnExactStatusNameWrongFalsely : Prop := fnExactStatusNameRow.holds Try.pinned (OpenSpec.ofChange fnExactStatusNameWrong)

/-- 'laws.FnExactOpArity': WHATEVER THE INPUT: true; the input reads as it did. -/
def fnExactOpAritySpec : ChangeSpec := { name := "fnExactOpArity", fn := fun _ => fun
  | [d] => { results := [.lit (.bool true)], args := [d] }
  | _ => none }
def fnExactOpArityRow : OpenClaim := { program := "ytmlpjadifjdmmaa", sum := "2359fa78b4298d32a37d843dff0d4729fc2cea8ffecc4d70180e277683f79121", func := "loop.example/g00589/laws.FnExactOpArity", spec := "fnExactOpArity", apart := false }
def FnExactOpAritySaid : Prop := fnExactOpArityRow.holds Try.pinned (OpenSpec.ofChange fnExactOpAritySpec)

/-- ITS FALSE NEIGHBOUR: 'it returns false'. Refute it at one input. -/
def fnExactOpArityWrong : ChangeSpec := { name := "fnExactOpArity", fn := fun _ => fun
  | [d] => { results := [.lit (.bool false)], args := [d] }
  | _ => none }
def FnExactOpArityWrongFalsely : Prop := fnExactOpArityRow.holds Try.pinned (OpenSpec.ofChange fnExactOpArityWrong)

/- THE SECOND FORM. 'bulk': how many values and letters a reading holds, each counted each time it is reached (what is shared counts as often as it is met; a slice's spare places count too). A statement '..UptoSaid' is the law's where the arguments, and the package variables that the reading takes, are together of bulk at most 1048576: NARROWER than '..Said'. Prove '..Said' where nothing that the law and all that it calls make is longer than what came in: it says more and counts as full. Else prove '..UptoSaid'. A law counts once. -/
mutual
def uptoBulk {H : Type} : DataW H → Nat
  | .lit (.string bytes) => bytes.length + 1
  | .lit _ => 1
  | .nil => 1
  | .ptr d => uptoBulk d + 1
  | .slice elems spare => uptoBulkAll elems + uptoBulkAll spare + 1
  | .agg parts => uptoBulkAll parts + 1
  | .iface _ d => uptoBulk d + 1
  | .map entries => uptoBulkEntries entries + 1
  | .held _ => 1
def uptoBulkAll {H : Type} : List (DataW H) → Nat
  | [] => 0
  | d :: r => uptoBulk d + uptoBulkAll r
def uptoBulkEntries {H : Type} : List (Lit × DataW H) → Nat
  | [] => 0
  | x :: r => uptoBulkEntry x + uptoBulkEntries r
def uptoBulkEntry {H : Type} : Lit × DataW H → Nat
  | (.string bytes, d) => bytes.length + uptoBulk d + 1
  | (_, d) => uptoBulk d + 1
 end
def uptoSmall : (H : Type) → List (DataW H) → Bool := fun _ ds => decide (uptoBulkAll ds ≤ 1048576)
def OpenSpec.upto (s : _root_.Go.ChangeSpec) : _root_.Go.OpenSpec := { _root_.Go.OpenSpec.ofChange s with cond := some uptoSmall }

/-- 'laws.FnExactConstants', WHERE WHAT IT READS IS OF BULK AT MOST 1048576: true; the input reads as it did. -/
def fnExactConstantsUptoRow : OpenClaim := { program := "ytmlpjadifjdmmaa", sum := "2359fa78b4298d32a37d843dff0d4729fc2cea8ffecc4d70180e277683f79121", func := "loop.example/g00589/laws.FnExactConstants", spec := "fnExactConstants", apart := false, narrowed := true }
def FnExactConstantsUptoSaid : Prop := fnExactConstantsUptoRow.holds Try.pinned (OpenSpec.upto fnExactConstantsSpec)

/-- 'laws.FnExactReduce', WHERE WHAT IT READS IS OF BULK AT MOST 1048576: true; the input reads as it did. -/
def fnExactReduceUptoRow : OpenClaim := { program := "ytmlpjadifjdmmaa", sum := "2359fa78b4298d32a37d843dff0d4729fc2cea8ffecc4d70180e277683f79121", func := "loop.example/g00589/laws.FnExactReduce", spec := "fnExactReduce", apart := false, narrowed := true }
def FnExactReduceUptoSaid : Prop := fnExactReduceUptoRow.holds Try.pinned (OpenSpec.upto fnExactReduceSpec)

/-- 'laws.FnExactKindName', WHERE WHAT IT READS IS OF BULK AT MOST 1048576: true; the input reads as it did. -/
def fnExactKindNameUptoRow : OpenClaim := { program := "ytmlpjadifjdmmaa", sum := "2359fa78b4298d32a37d843dff0d4729fc2cea8ffecc4d70180e277683f79121", func := "loop.example/g00589/laws.FnExactKindName", spec := "fnExactKindName", apart := false, narrowed := true }
def FnExactKindNameUptoSaid : Prop := fnExactKindNameUptoRow.holds Try.pinned (OpenSpec.upto fnExactKindNameSpec)

/-- 'laws.FnExactRuleName', WHERE WHAT IT READS IS OF BULK AT MOST 1048576: true; the input reads as it did. -/
def fnExactRuleNameUptoRow : OpenClaim := { program := "ytmlpjadifjdmmaa", sum := "2359fa78b4298d32a37d843dff0d4729fc2cea8ffecc4d70180e277683f79121", func := "loop.example/g00589/laws.FnExactRuleName", spec := "fnExactRuleName", apart := false, narrowed := true }
def FnExactRuleNameUptoSaid : Prop := fnExactRuleNameUptoRow.holds Try.pinned (OpenSpec.upto fnExactRuleNameSpec)

/-- 'laws.FnExactStatusName', WHERE WHAT IT READS IS OF BULK AT MOST 1048576: true; the input reads as it did. -/
def fnExactStatusNameUptoRow : OpenClaim := { program := "ytmlpjadifjdmmaa", sum := "2359fa78b4298d32a37d843dff0d4729fc2cea8ffecc4d70180e277683f79121", func := "loop.example/g00589/laws.FnExactStatusName", spec := "fnExactStatusName", apart := false, narrowed := true }
def FnExactStatusNameUptoSaid : Prop := fnExactStatusNameUptoRow.holds Try.pinned (OpenSpec.upto fnExactStatusNameSpec)

/-- 'laws.FnExactOpArity', WHERE WHAT IT READS IS OF BULK AT MOST 1048576: true; the input reads as it did. -/
def fnExactOpArityUptoRow : OpenClaim := { program := "ytmlpjadifjdmmaa", sum := "2359fa78b4298d32a37d843dff0d4729fc2cea8ffecc4d70180e277683f79121", func := "loop.example/g00589/laws.FnExactOpArity", spec := "fnExactOpArity", apart := false, narrowed := true }
def FnExactOpArityUptoSaid : Prop := fnExactOpArityUptoRow.holds Try.pinned (OpenSpec.upto fnExactOpAritySpec)

end Rows
end Go.Proofs.Ytmlpjadifjdmmaa
