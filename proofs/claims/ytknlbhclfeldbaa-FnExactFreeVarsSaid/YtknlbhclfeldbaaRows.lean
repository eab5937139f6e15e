/-
  NARROWER THAN 'FOR EVERY INPUT', by the rows' own cells (each row's printed sentence says how): FnExactFreeVars: loops · FnExactIsClosed: loops · FnExactIsOpen: loops.
  DERIVED. THE GIVEN ROWS OF THIS SEAT. 5 by the template 'for every input the law returns true; each argument reads behind the call as it read before'; 0 by the template 'total and deterministic' (their statements: YtknlbhclfeldbaaTotals.lean).
  GIVEN WITH THE SEED: the statements are not yours to turn. If you find one false, say at which input.
  Laid BY PROGRAM, IN A SANDBOX (cutbox-rows.mjs): the forced cells as the released guide's own fill.sh prints them over the translation 92b9cd9b20d88f25… (all of the seat's roots in one cut). By AI agents, Wed Nov 11 2026. No macro, syntax, notation, axiom, sorry.
-/
import Derived.Test.YtknlbhclfeldbaaChecked
import GoSem.Claim
import GoSem.ClaimJoined
import GoSem.ClaimMapViews
import Derived.JoinedTies
import Derived.KernelRfl
namespace Go.Proofs.Ytknlbhclfeldbaa
/- THE CELL 'sum', in the pinned program and in every row, IS THE sha256 OF THE DUMP (.gsa) THAT YtknlbhclfeldbaaProg.lean LOADS. Nothing in Lean hashes anything: it is a label: what it is worth is what the hold of that sum in a sandbox is worth. -/
noncomputable def Try.pinned : Pinned := { name := "ytknlbhclfeldbaa", sum := "92b9cd9b20d88f25642a00f509bc9d33c6d57e3c5b83b385865ece5316a90107", checked := Try.checked }
namespace Rows
def none {H : Type} : Left H := { results := [], args := [] }

/-- 'laws.FnExactWithoutName': WHATEVER THE INPUT: true; the input reads as it did. -/
def fnExactWithoutNameSpec : ChangeSpec := { name := "fnExactWithoutName", fn := fun _ => fun
  | [d1, d2] => { results := [.lit (.bool true)], args := [d1, d2] }
  | _ => none }
def fnExactWithoutNameRow : OpenClaim := { program := "ytknlbhclfeldbaa", sum := "92b9cd9b20d88f25642a00f509bc9d33c6d57e3c5b83b385865ece5316a90107", func := "loop.example/g00589/laws.FnExactWithoutName", spec := "fnExactWithoutName", unfollowed := true, recurses := true, apart := false }
def FnExactWithoutNameSaid : Prop := fnExactWithoutNameRow.holds Try.pinned (OpenSpec.ofChange fnExactWithoutNameSpec)

/-- ITS FALSE NEIGHBOUR: 'it returns false'. Refute it at one input. -/
def fnExactWithoutNameWrong : ChangeSpec := { name := "fnExactWithoutName", fn := fun _ => fun
  | [d1, d2] => { results := [.lit (.bool false)], args := [d1, d2] }
  | _ => none }
def FnExactWithoutNameWrongFalsely : Prop := fnExactWithoutNameRow.holds Try.pinned (OpenSpec.ofChange fnExactWithoutNameWrong)

/-- 'laws.FnExactUniteNames': WHATEVER THE INPUT: true; the input reads as it did. -/
def fnExactUniteNamesSpec : ChangeSpec := { name := "fnExactUniteNames", fn := fun _ => fun
  | [d1, d2] => { results := [.lit (.bool true)], args := [d1, d2] }
  | _ => none }
def fnExactUniteNamesRow : OpenClaim := { program := "ytknlbhclfeldbaa", sum := "92b9cd9b20d88f25642a00f509bc9d33c6d57e3c5b83b385865ece5316a90107", func := "loop.example/g00589/laws.FnExactUniteNames", spec := "fnExactUniteNames", apart := false }
def FnExactUniteNamesSaid : Prop := fnExactUniteNamesRow.holds Try.pinned (OpenSpec.ofChange fnExactUniteNamesSpec)

/-- ITS FALSE NEIGHBOUR: 'it returns false'. Refute it at one input. -/
def fnExactUniteNamesWrong : ChangeSpec := { name := "fnExactUniteNames", fn := fun _ => fun
  | [d1, d2] => { results := [.lit (.bool false)], args := [d1, d2] }
  | _ => none }
def FnExactUniteNamesWrongFalsely : Prop := fnExactUniteNamesRow.holds Try.pinned (OpenSpec.ofChange fnExactUniteNamesWrong)

/-- 'laws.FnExactFreeVars': WHATEVER THE INPUT: true; the input reads as it did. -/
def fnExactFreeVarsSpec : ChangeSpec := { name := "fnExactFreeVars", fn := fun _ => fun
  | [d] => { results := [.lit (.bool true)], args := [d] }
  | _ => none }
def fnExactFreeVarsRow : OpenClaim := { program := "ytknlbhclfeldbaa", sum := "92b9cd9b20d88f25642a00f509bc9d33c6d57e3c5b83b385865ece5316a90107", func := "loop.example/g00589/laws.FnExactFreeVars", spec := "fnExactFreeVars", unfollowed := true, recurses := true, loops := true, apart := false }
def FnExactFreeVarsSaid : Prop := fnExactFreeVarsRow.holds Try.pinned (OpenSpec.ofChange fnExactFreeVarsSpec)

/-- ITS FALSE NEIGHBOUR: 'it returns false'. Refute it at one input. -/
def fnExactFreeVarsWrong : ChangeSpec := { name := "fnExactFreeVars", fn := fun _ => fun
  | [d] => { results := [.lit (.bool false)], args := [d] }
  | _ => none }
def FnExactFreeVarsWrongFalsely : Prop := fnExactFreeVarsRow.holds Try.pinned (OpenSpec.ofChange fnExactFreeVarsWrong)

/-- 'laws.FnExactIsClosed': WHATEVER THE INPUT: true; the input reads as it did. -/
def fnExactIsClosedSpec : ChangeSpec := { name := "fnExactIsClosed", fn := fun _ => fun
  | [d] => { results := [.lit (.bool true)], args := [d] }
  | _ => none }
def fnExactIsClosedRow : OpenClaim := { program := "ytknlbhclfeldbaa", sum := "92b9cd9b20d88f25642a00f509bc9d33c6d57e3c5b83b385865ece5316a90107", func := "loop.example/g00589/laws.FnExactIsClosed", spec := "fnExactIsClosed", unfollowed := true, recurses := true, loops := true, apart := false }
def FnExactIsClosedSaid : Prop := fnExactIsClosedRow.holds Try.pinned (OpenSpec.ofChange fnExactIsClosedSpec)

/-- ITS FALSE NEIGHBOUR: 'it returns false'. Refute it at one input. -/
def fnExactIsClosedWrong : ChangeSpec := { name := "fnExactIsClosed", fn := fun _ => fun
  | [d] => { results := [.lit (.bool false)], args := [d] }
  | _ => none }
def FnExactIsClosedWrongFalsely : Prop := fnExactIsClosedRow.holds Try.pinned (OpenSpec.ofChange fnExactIsClosedWrong)

/-- 'laws.FnExactIsOpen': WHATEVER THE INPUT: true; the input reads as it did. -/
def fnExactIsOpenSpec : ChangeSpec := { name := "fnExactIsOpen", fn := fun _ => fun
  | [d] => { results := [.lit (.bool true)], args := [d] }
  | _ => none }
def fnExactIsOpenRow : OpenClaim := { program := "ytknlbhclfeldbaa", sum := "92b9cd9b20d88f25642a00f509bc9d33c6d57e3c5b83b385865ece5316a90107", func := "loop.example/g00589/laws.FnExactIsOpen", spec := "fnExactIsOpen", unfollowed := true, recurses := true, loops := true, apart := false }
def FnExactIsOpenSaid : Prop := fnExactIsOpenRow.holds Try.pinned (OpenSpec.ofChange fnExactIsOpenSpec)

/-- ITS FALSE NEIGHBOUR: 'it returns false'. Refute it at one input. -/
def fnExactIsOpenWrong : ChangeSpec := { name := "fnExactIsOpen", fn := fun _ => fun
  | [d] => { results := [.lit (.bool false)], args := [d] }
  | _ => none }
def FnExactIsOpenWrongFalsely : Prop := fnExactIsOpenRow.holds Try.pinned (OpenSpec.ofChange fnExactIsOpenWrong)

/- THE SECOND FORM. 'bulk': how many values and letters a reading holds, each counted each time it is reached (what is shared counts as often as it is met; a slice's spare places count too). A statement '..UptoSaid' is the law's where the arguments, and the package variables that the reading takes, are together of bulk at most 1048576: NARROWER than '..Said'. Prove '..Said' where nothing that the law and all that it calls make is longer than what came in: it says more and counts as full. Else prove '..UptoSaid'. A law counts once. -/
mutual
def uptoBulk {H : Type} : DataW H → Nat
  | .lit (.string bytes) => bytes.length + 1
  | .lit _ => 1
  | .nil => 1
  | .ptr d => uptoBulk d + 1
  | .slice elems spare => uptoBulkAll elems + uptoBulkAll spare + 1
  | .agg parts => uptoBulkAll parts + 1
  | .iface _ d => uptoBulk d + 1
  | .map entries => uptoBulkEntries entries + 1
  | .held _ => 1
def uptoBulkAll {H : Type} : List (DataW H) → Nat
  | [] => 0
  | d :: r => uptoBulk d + uptoBulkAll r
def uptoBulkEntries {H : Type} : List (Lit × DataW H) → Nat
  | [] => 0
  | x :: r => uptoBulkEntry x + uptoBulkEntries r
def uptoBulkEntry {H : Type} : Lit × DataW H → Nat
  | (.string bytes, d) => bytes.length + uptoBulk d + 1
  | (_, d) => uptoBulk d + 1
 end
def uptoSmall : (H : Type) → List (DataW H) → Bool := fun _ ds => decide (uptoBulkAll ds ≤ 1048576)
def OpenSpec.upto (s : _root_.Go.ChangeSpec) : _root_.Go.OpenSpec := { _root_.Go.OpenSpec.ofChange s with cond := some uptoSmall }

/-- 'laws.FnExactWithoutName', WHERE WHAT IT READS IS OF BULK AT MOST 1048576: true; the input reads as it did. -/
def fnExactWithoutNameUptoRow : OpenClaim := { program := "ytknlbhclfeldbaa", sum := "92b9cd9b20d88f25642a00f509bc9d33c6d57e3c5b83b385865ece5316a90107", func := "loop.example/g00589/laws.FnExactWithoutName", spec := "fnExactWithoutName", unfollowed := true, recurses := true, apart := false, narrowed := true }
def FnExactWithoutNameUptoSaid : Prop := fnExactWithoutNameUptoRow.holds Try.pinned (OpenSpec.upto fnExactWithoutNameSpec)

/-- 'laws.FnExactUniteNames', WHERE WHAT IT READS IS OF BULK AT MOST 1048576: true; the input reads as it did. -/
def fnExactUniteNamesUptoRow : OpenClaim := { program := "ytknlbhclfeldbaa", sum := "92b9cd9b20d88f25642a00f509bc9d33c6d57e3c5b83b385865ece5316a90107", func := "loop.example/g00589/laws.FnExactUniteNames", spec := "fnExactUniteNames", apart := false, narrowed := true }
def FnExactUniteNamesUptoSaid : Prop := fnExactUniteNamesUptoRow.holds Try.pinned (OpenSpec.upto fnExactUniteNamesSpec)

/-- 'laws.FnExactFreeVars', WHERE WHAT IT READS IS OF BULK AT MOST 1048576: true; the input reads as it did. -/
def fnExactFreeVarsUptoRow : OpenClaim := { program := "ytknlbhclfeldbaa", sum := "92b9cd9b20d88f25642a00f509bc9d33c6d57e3c5b83b385865ece5316a90107", func := "loop.example/g00589/laws.FnExactFreeVars", spec := "fnExactFreeVars", unfollowed := true, recurses := true, loops := true, apart := false, narrowed := true }
def FnExactFreeVarsUptoSaid : Prop := fnExactFreeVarsUptoRow.holds Try.pinned (OpenSpec.upto fnExactFreeVarsSpec)

/-- 'laws.FnExactIsClosed', WHERE WHAT IT READS IS OF BULK AT MOST 1048576: true; the input reads as it did. -/
def fnExactIsClosedUptoRow : OpenClaim := { program := "ytknlbhclfeldbaa", sum := "92b9cd9b20d88f25642a00f509bc9d33c6d57e3c5b83b385865ece5316a90107", func := "loop.example/g00589/laws.FnExactIsClosed", spec := "fnExactIsClosed", unfollowed := true, recurses := true, loops := true, apart := false, narrowed := true }
def FnExactIsClosedUptoSaid : Prop := fnExactIsClosedUptoRow.holds Try.pinned (OpenSpec.upto fnExactIsClosedSpec)

/-- 'laws.FnExactIsOpen', WHERE WHAT IT READS IS OF BULK AT MOST 1048576: true; the input reads as it did. -/
def fnExactIsOpenUptoRow : OpenClaim := { program := "ytknlbhclfeldbaa", sum := "92b9cd9b20d88f25642a00f509bc9d33c6d57e3c5b83b385865ece5316a90107", func := "loop.example/g00589/laws.FnExactIsOpen", spec := "fnExactIsOpen", unfollowed := true, recurses := true, loops := true, apart := false, narrowed := true }
def FnExactIsOpenUptoSaid : Prop := fnExactIsOpenUptoRow.holds Try.pinned (OpenSpec.upto fnExactIsOpenSpec)

end Rows
end Go.Proofs.Ytknlbhclfeldbaa
