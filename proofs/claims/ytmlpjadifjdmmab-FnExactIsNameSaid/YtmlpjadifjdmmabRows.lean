/-
  NARROWER THAN 'FOR EVERY INPUT', by the rows' own cells (each row's printed sentence says how): FnExactIsBase: loops · FnExactSizeOfType: loops · FnExactDepthOfType: loops.
  DERIVED. THE GIVEN ROWS OF THIS SEAT. 6 by the template 'for every input the law returns true; each argument reads behind the call as it read before'; 0 by the template 'total and deterministic' (their statements: YtmlpjadifjdmmabTotals.lean).
  GIVEN WITH THE SEED: the statements are not yours to turn. If you find one false, say at which input.
  Laid BY PROGRAM, IN A SANDBOX (cutbox-rows.mjs): the forced cells as the released guide's own fill.sh prints them over the translation 913774689a600e0d… (all of the seat's roots in one cut). By AI agents, Wed Nov 11 2026. No macro, syntax, notation, axiom, sorry.
-/
import Derived.Test.YtmlpjadifjdmmabChecked
import GoSem.Claim
import GoSem.ClaimJoined
import GoSem.ClaimMapViews
import Derived.JoinedTies
import Derived.KernelRfl
namespace Go.Proofs.Ytmlpjadifjdmmab
/- THE CELL 'sum', in the pinned program and in every row, IS THE sha256 OF THE DUMP (.gsa) THAT YtmlpjadifjdmmabProg.lean LOADS. Nothing in Lean hashes anything: it is a label: what it is worth is what the hold of that sum in a sandbox is worth. -/
noncomputable def Try.pinned : Pinned := { name := "ytmlpjadifjdmmab", sum := "913774689a600e0d9f6d852d782be35057ecaff313b24f0380be88a93f03680c", checked := Try.checked }
namespace Rows
def none {H : Type} : Left H := { results := [], args := [] }

/-- 'laws.FnExactIsName': WHATEVER THE INPUT: true; the input reads as it did. -/
def fnExactIsNameSpec : ChangeSpec := { name := "fnExactIsName", fn := fun _ => fun
  | [d] => { results := [.lit (.bool true)], args := [d] }
  | _ => none }
def fnExactIsNameRow : OpenClaim := { program := "ytmlpjadifjdmmab", sum := "913774689a600e0d9f6d852d782be35057ecaff313b24f0380be88a93f03680c", func := "loop.example/g00589/laws.FnExactIsName", spec := "fnExactIsName", apart := false }
def FnExactIsNameSaid : Prop := fnExactIsNameRow.holds Try.pinned (OpenSpec.ofChange fnExactIsNameSpec)

/-- ITS FALSE NEIGHBOUR: 'it returns false'. Refute it at one input. -/
def fnExactIsNameWrong : ChangeSpec := { name := "fnExactIsName", fn := fun _ => fun
  | [d] => { results := [.lit (.bool false)], args := [d] }
  | _ => none }
def FnExactIsNameWrongFalsely : Prop := fnExactIsNameRow.holds Try.pinned (OpenSpec.ofChange fnExactIsNameWrong)

/-- 'laws.FnExactIndexOf': WHATEVER THE INPUT: true; the input reads as it did. -/
def fnExactIndexOfSpec : ChangeSpec := { name := "fnExactIndexOf", fn := fun _ => fun
  | [d1, d2] => { results := [.lit (.bool true)], args := [d1, d2] }
  | _ => none }
def fnExactIndexOfRow : OpenClaim := { program := "ytmlpjadifjdmmab", sum := "913774689a600e0d9f6d852d782be35057ecaff313b24f0380be88a93f03680c", func := "loop.example/g00589/laws.FnExactIndexOf", spec := "fnExactIndexOf", apart := false }
def FnExactIndexOfSaid : Prop := fnExactIndexOfRow.holds Try.pinned (OpenSpec.ofChange fnExactIndexOfSpec)

/-- ITS FALSE NEIGHBOUR: 'it returns false'. Refute it at one input. -/
def fnExactIndexOfWrong : ChangeSpec := { name := "fnExactIndexOf", fn := fun _ => fun
  | [d1, d2] => { results := [.lit (.bool false)], args := [d1, d2] }
  | _ => none }
def FnExactIndexOfWrongFalsely : Prop := fnExactIndexOfRow.holds Try.pinned (OpenSpec.ofChange fnExactIndexOfWrong)

/-- 'laws.FnExactIsBase': WHATEVER THE INPUT: true; the input reads as it did. -/
def fnExactIsBaseSpec : ChangeSpec := { name := "fnExactIsBase", fn := fun _ => fun
  | [d] => { results := [.lit (.bool true)], args := [d] }
  | _ => none }
def fnExactIsBaseRow : OpenClaim := { program := "ytmlpjadifjdmmab", sum := "913774689a600e0d9f6d852d782be35057ecaff313b24f0380be88a93f03680c", func := "loop.example/g00589/laws.FnExactIsBase", spec := "fnExactIsBase", recurses := true, loops := true, apart := false }
def FnExactIsBaseSaid : Prop := fnExactIsBaseRow.holds Try.pinned (OpenSpec.ofChange fnExactIsBaseSpec)

/-- ITS FALSE NEIGHBOUR: 'it returns false'. Refute it at one input. -/
def fnExactIsBaseWrong : ChangeSpec := { name := "fnExactIsBase", fn := fun _ => fun
  | [d] => { results := [.lit (.bool false)], args := [d] }
  | _ => none }
def FnExactIsBaseWrongFalsely : Prop := fnExactIsBaseRow.holds Try.pinned (OpenSpec.ofChange fnExactIsBaseWrong)

/-- 'laws.FnExactSizeOfType': WHATEVER THE INPUT: true; the input reads as it did. -/
def fnExactSizeOfTypeSpec : ChangeSpec := { name := "fnExactSizeOfType", fn := fun _ => fun
  | [d] => { results := [.lit (.bool true)], args := [d] }
  | _ => none }
def fnExactSizeOfTypeRow : OpenClaim := { program := "ytmlpjadifjdmmab", sum := "913774689a600e0d9f6d852d782be35057ecaff313b24f0380be88a93f03680c", func := "loop.example/g00589/laws.FnExactSizeOfType", spec := "fnExactSizeOfType", recurses := true, loops := true, apart := false }
def FnExactSizeOfTypeSaid : Prop := fnExactSizeOfTypeRow.holds Try.pinned (OpenSpec.ofChange fnExactSizeOfTypeSpec)

/-- ITS FALSE NEIGHBOUR: 'it returns false'. Refute it at one input. -/
def fnExactSizeOfTypeWrong : ChangeSpec := { name := "fnExactSizeOfType", fn := fun _ => fun
  | [d] => { results := [.lit (.bool false)], args := [d] }
  | _ => none }
def FnExactSizeOfTypeWrongFalsely : Prop := fnExactSizeOfTypeRow.holds Try.pinned (OpenSpec.ofChange fnExactSizeOfTypeWrong)

/-- 'laws.FnExactApplyOp': WHATEVER THE INPUT: true; the input reads as it did. -/
def fnExactApplyOpSpec : ChangeSpec := { name := "fnExactApplyOp", fn := fun _ => fun
  | [d1, d2, d3] => { results := [.lit (.bool true)], args := [d1, d2, d3] }
  | _ => none }
def fnExactApplyOpRow : OpenClaim := { program := "ytmlpjadifjdmmab", sum := "913774689a600e0d9f6d852d782be35057ecaff313b24f0380be88a93f03680c", func := "loop.example/g00589/laws.FnExactApplyOp", spec := "fnExactApplyOp", apart := false }
def FnExactApplyOpSaid : Prop := fnExactApplyOpRow.holds Try.pinned (OpenSpec.ofChange fnExactApplyOpSpec)

/-- ITS FALSE NEIGHBOUR: 'it returns false'. Refute it at one input. -/
def fnExactApplyOpWrong : ChangeSpec := { name := "fnExactApplyOp", fn := fun _ => fun
  | [d1, d2, d3] => { results := [.lit (.bool false)], args := [d1, d2, d3] }
  | _ => none }
def FnExactApplyOpWrongFalsely : Prop := fnExactApplyOpRow.holds Try.pinned (OpenSpec.ofChange fnExactApplyOpWrong)

/-- 'laws.FnExactDepthOfType': WHATEVER THE INPUT: true; the input reads as it did. -/
def fnExactDepthOfTypeSpec : ChangeSpec := { name := "fnExactDepthOfType", fn := fun _ => fun
  | [d] => { results := [.lit (.bool true)], args := [d] }
  | _ => none }
def fnExactDepthOfTypeRow : OpenClaim := { program := "ytmlpjadifjdmmab", sum := "913774689a600e0d9f6d852d782be35057ecaff313b24f0380be88a93f03680c", func := "loop.example/g00589/laws.FnExactDepthOfType", spec := "fnExactDepthOfType", recurses := true, loops := true, apart := false }
def FnExactDepthOfTypeSaid : Prop := fnExactDepthOfTypeRow.holds Try.pinned (OpenSpec.ofChange fnExactDepthOfTypeSpec)

/-- ITS FALSE NEIGHBOUR: 'it returns false'. Refute it at one input. -/
def fnExactDepthOfTypeWrong : ChangeSpec := { name := "fnExactDepthOfType", fn := fun _ => fun
  | [d] => { results := [.lit (.bool false)], args := [d] }
  | _ => none }
def FnExactDepthOfTypeWrongFalsely : Prop := fnExactDepthOfTypeRow.holds Try.pinned (OpenSpec.ofChange fnExactDepthOfTypeWrong)

/- THE SECOND FORM. 'bulk': how many values and letters a reading holds, each counted each time it is reached (what is shared counts as often as it is met; a slice's spare places count too). A statement '..UptoSaid' is the law's where the arguments, and the package variables that the reading takes, are together of bulk at most 1048576: NARROWER than '..Said'. Prove '..Said' where nothing that the law and all that it calls make is longer than what came in: it says more and counts as full. Else prove '..UptoSaid'. A law counts once. -/
mutual
def uptoBulk {H : Type} : DataW H → Nat
  | .lit (.string bytes) => bytes.length + 1
  | .lit _ => 1
  | .nil => 1
  | .ptr d => uptoBulk d + 1
  | .slice elems spare => uptoBulkAll elems + uptoBulkAll spare + 1
  | .agg parts => uptoBulkAll parts + 1
  | .iface _ d => uptoBulk d + 1
  | .map entries => uptoBulkEntries entries + 1
  | .held _ => 1
def uptoBulkAll {H : Type} : List (DataW H) → Nat
  | [] => 0
  | d :: r => uptoBulk d + uptoBulkAll r
def uptoBulkEntries {H : Type} : List (Lit × DataW H) → Nat
  | [] => 0
  | x :: r => uptoBulkEntry x + uptoBulkEntries r
def uptoBulkEntry {H : Type} : Lit × DataW H → Nat
  | (.string bytes, d) => bytes.length + uptoBulk d + 1
  | (_, d) => uptoBulk d + 1
 end
def uptoSmall : (H : Type) → List (DataW H) → Bool := fun _ ds => decide (uptoBulkAll ds ≤ 1048576)
def OpenSpec.upto (s : _root_.Go.ChangeSpec) : _root_.Go.OpenSpec := { _root_.Go.OpenSpec.ofChange s with cond := some uptoSmall }

/-- 'laws.FnExactIsName', WHERE WHAT IT READS IS OF BULK AT MOST 1048576: true; the input reads as it did. -/
def fnExactIsNameUptoRow : OpenClaim := { program := "ytmlpjadifjdmmab", sum := "913774689a600e0d9f6d852d782be35057ecaff313b24f0380be88a93f03680c", func := "loop.example/g00589/laws.FnExactIsName", spec := "fnExactIsName", apart := false, narrowed := true }
def FnExactIsNameUptoSaid : Prop := fnExactIsNameUptoRow.holds Try.pinned (OpenSpec.upto fnExactIsNameSpec)

/-- 'laws.FnExactIndexOf', WHERE WHAT IT READS IS OF BULK AT MOST 1048576: true; the input reads as it did. -/
def fnExactIndexOfUptoRow : OpenClaim := { program := "ytmlpjadifjdmmab", sum := "913774689a600e0d9f6d852d782be35057ecaff313b24f0380be88a93f03680c", func := "loop.example/g00589/laws.FnExactIndexOf", spec := "fnExactIndexOf", apart := false, narrowed := true }
def FnExactIndexOfUptoSaid : Prop := fnExactIndexOfUptoRow.holds Try.pinned (OpenSpec.upto fnExactIndexOfSpec)

/-- 'laws.FnExactIsBase', WHERE WHAT IT READS IS OF BULK AT MOST 1048576: true; the input reads as it did. -/
def fnExactIsBaseUptoRow : OpenClaim := { program := "ytmlpjadifjdmmab", sum := "913774689a600e0d9f6d852d782be35057ecaff313b24f0380be88a93f03680c", func := "loop.example/g00589/laws.FnExactIsBase", spec := "fnExactIsBase", recurses := true, loops := true, apart := false, narrowed := true }
def FnExactIsBaseUptoSaid : Prop := fnExactIsBaseUptoRow.holds Try.pinned (OpenSpec.upto fnExactIsBaseSpec)

/-- 'laws.FnExactSizeOfType', WHERE WHAT IT READS IS OF BULK AT MOST 1048576: true; the input reads as it did. -/
def fnExactSizeOfTypeUptoRow : OpenClaim := { program := "ytmlpjadifjdmmab", sum := "913774689a600e0d9f6d852d782be35057ecaff313b24f0380be88a93f03680c", func := "loop.example/g00589/laws.FnExactSizeOfType", spec := "fnExactSizeOfType", recurses := true, loops := true, apart := false, narrowed := true }
def FnExactSizeOfTypeUptoSaid : Prop := fnExactSizeOfTypeUptoRow.holds Try.pinned (OpenSpec.upto fnExactSizeOfTypeSpec)

/-- 'laws.FnExactApplyOp', WHERE WHAT IT READS IS OF BULK AT MOST 1048576: true; the input reads as it did. -/
def fnExactApplyOpUptoRow : OpenClaim := { program := "ytmlpjadifjdmmab", sum := "913774689a600e0d9f6d852d782be35057ecaff313b24f0380be88a93f03680c", func := "loop.example/g00589/laws.FnExactApplyOp", spec := "fnExactApplyOp", apart := false, narrowed := true }
def FnExactApplyOpUptoSaid : Prop := fnExactApplyOpUptoRow.holds Try.pinned (OpenSpec.upto fnExactApplyOpSpec)

/-- 'laws.FnExactDepthOfType', WHERE WHAT IT READS IS OF BULK AT MOST 1048576: true; the input reads as it did. -/
def fnExactDepthOfTypeUptoRow : OpenClaim := { program := "ytmlpjadifjdmmab", sum := "913774689a600e0d9f6d852d782be35057ecaff313b24f0380be88a93f03680c", func := "loop.example/g00589/laws.FnExactDepthOfType", spec := "fnExactDepthOfType", recurses := true, loops := true, apart := false, narrowed := true }
def FnExactDepthOfTypeUptoSaid : Prop := fnExactDepthOfTypeUptoRow.holds Try.pinned (OpenSpec.upto fnExactDepthOfTypeSpec)

end Rows
end Go.Proofs.Ytmlpjadifjdmmab
