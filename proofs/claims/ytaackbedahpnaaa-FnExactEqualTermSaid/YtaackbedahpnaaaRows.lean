/-
  NARROWER THAN 'FOR EVERY INPUT', by the rows' own cells (each row's printed sentence says how): FnExactIsAtom: loops · FnExactSizeOf: loops · FnExactDepthOf: loops · FnExactIsQuiet: loops · FnExactCountSplices: loops · FnExactCountStages: loops · FnExactIsStaged: loops · FnExactEqualTerm: loops · FnExactIsTerm: loops · FnExactIsValidTerm: loops.
  DERIVED. THE GIVEN ROWS OF THIS SEAT. 10 by the template 'for every input the law returns true; each argument reads behind the call as it read before'; 0 by the template 'total and deterministic' (their statements: YtaackbedahpnaaaTotals.lean).
  GIVEN WITH THE SEED: the statements are not yours to turn. If you find one false, say at which input.
  Laid BY PROGRAM, IN A SANDBOX (cutbox-rows.mjs): the forced cells as the released guide's own fill.sh prints them over the translation 0a78b311f704d7f1… (all of the seat's roots in one cut). By AI agents, Wed Nov 11 2026. No macro, syntax, notation, axiom, sorry.
-/
import Derived.Test.YtaackbedahpnaaaChecked
import GoSem.Claim
import GoSem.ClaimJoined
import GoSem.ClaimMapViews
import Derived.JoinedTies
import Derived.KernelRfl
namespace Go.Proofs.Ytaackbedahpnaaa
/- THE CELL 'sum', in the pinned program and in every row, IS THE sha256 OF THE DUMP (.gsa) THAT YtaackbedahpnaaaProg.lean LOADS. Nothing in Lean hashes anything: it is a label: what it is worth is what the hold of that sum in a sandbox is worth. -/
noncomputable def Try.pinned : Pinned := { name := "ytaackbedahpnaaa", sum := "0a78b311f704d7f1f58b1b71b032dd3d2c39301270c9365e5ba1f588d944d965", checked := Try.checked }
namespace Rows
def none {H : Type} : Left H := { results := [], args := [] }

/-- 'laws.FnExactIsAtom': WHATEVER THE INPUT: true; the input reads as it did. -/
def fnExactIsAtomSpec : ChangeSpec := { name := "fnExactIsAtom", fn := fun _ => fun
  | [d] => { results := [.lit (.bool true)], args := [d] }
  | _ => none }
def fnExactIsAtomRow : OpenClaim := { program := "ytaackbedahpnaaa", sum := "0a78b311f704d7f1f58b1b71b032dd3d2c39301270c9365e5ba1f588d944d965", func := "loop.example/g00589/laws.FnExactIsAtom", spec := "fnExactIsAtom", recurses := true, loops := true, apart := false }
def FnExactIsAtomSaid : Prop := fnExactIsAtomRow.holds Try.pinned (OpenSpec.ofChange fnExactIsAtomSpec)

/-- ITS FALSE NEIGHBOUR: 'it returns false'. Refute it at one input. -/
def fnExactIsAtomWrong : ChangeSpec := { name := "fnExactIsAtom", fn := fun _ => fun
  | [d] => { results := [.lit (.bool false)], args := [d] }
  | _ => none }
def FnExactIsAtomWrongFalsely : Prop := fnExactIsAtomRow.holds Try.pinned (OpenSpec.ofChange fnExactIsAtomWrong)

/-- 'laws.FnExactSizeOf': WHATEVER THE INPUT: true; the input reads as it did. -/
def fnExactSizeOfSpec : ChangeSpec := { name := "fnExactSizeOf", fn := fun _ => fun
  | [d] => { results := [.lit (.bool true)], args := [d] }
  | _ => none }
def fnExactSizeOfRow : OpenClaim := { program := "ytaackbedahpnaaa", sum := "0a78b311f704d7f1f58b1b71b032dd3d2c39301270c9365e5ba1f588d944d965", func := "loop.example/g00589/laws.FnExactSizeOf", spec := "fnExactSizeOf", recurses := true, loops := true, apart := false }
def FnExactSizeOfSaid : Prop := fnExactSizeOfRow.holds Try.pinned (OpenSpec.ofChange fnExactSizeOfSpec)

/-- ITS FALSE NEIGHBOUR: 'it returns false'. Refute it at one input. -/
def fnExactSizeOfWrong : ChangeSpec := { name := "fnExactSizeOf", fn := fun _ => fun
  | [d] => { results := [.lit (.bool false)], args := [d] }
  | _ => none }
def FnExactSizeOfWrongFalsely : Prop := fnExactSizeOfRow.holds Try.pinned (OpenSpec.ofChange fnExactSizeOfWrong)

/-- 'laws.FnExactDepthOf': WHATEVER THE INPUT: true; the input reads as it did. -/
def fnExactDepthOfSpec : ChangeSpec := { name := "fnExactDepthOf", fn := fun _ => fun
  | [d] => { results := [.lit (.bool true)], args := [d] }
  | _ => none }
def fnExactDepthOfRow : OpenClaim := { program := "ytaackbedahpnaaa", sum := "0a78b311f704d7f1f58b1b71b032dd3d2c39301270c9365e5ba1f588d944d965", func := "loop.example/g00589/laws.FnExactDepthOf", spec := "fnExactDepthOf", recurses := true, loops := true, apart := false }
def FnExactDepthOfSaid : Prop := fnExactDepthOfRow.holds Try.pinned (OpenSpec.ofChange fnExactDepthOfSpec)

/-- ITS FALSE NEIGHBOUR: 'it returns false'. Refute it at one input. -/
def fnExactDepthOfWrong : ChangeSpec := { name := "fnExactDepthOf", fn := fun _ => fun
  | [d] => { results := [.lit (.bool false)], args := [d] }
  | _ => none }
def FnExactDepthOfWrongFalsely : Prop := fnExactDepthOfRow.holds Try.pinned (OpenSpec.ofChange fnExactDepthOfWrong)

/-- 'laws.FnExactIsQuiet': WHATEVER THE INPUT: true; the input reads as it did. -/
def fnExactIsQuietSpec : ChangeSpec := { name := "fnExactIsQuiet", fn := fun _ => fun
  | [d] => { results := [.lit (.bool true)], args := [d] }
  | _ => none }
def fnExactIsQuietRow : OpenClaim := { program := "ytaackbedahpnaaa", sum := "0a78b311f704d7f1f58b1b71b032dd3d2c39301270c9365e5ba1f588d944d965", func := "loop.example/g00589/laws.FnExactIsQuiet", spec := "fnExactIsQuiet", unfollowed := true, recurses := true, loops := true, apart := false }
def FnExactIsQuietSaid : Prop := fnExactIsQuietRow.holds Try.pinned (OpenSpec.ofChange fnExactIsQuietSpec)

/-- ITS FALSE NEIGHBOUR: 'it returns false'. Refute it at one input. -/
def fnExactIsQuietWrong : ChangeSpec := { name := "fnExactIsQuiet", fn := fun _ => fun
  | [d] => { results := [.lit (.bool false)], args := [d] }
  | _ => none }
def FnExactIsQuietWrongFalsely : Prop := fnExactIsQuietRow.holds Try.pinned (OpenSpec.ofChange fnExactIsQuietWrong)

/-- 'laws.FnExactCountSplices': WHATEVER THE INPUT: true; the input reads as it did. -/
def fnExactCountSplicesSpec : ChangeSpec := { name := "fnExactCountSplices", fn := fun _ => fun
  | [d] => { results := [.lit (.bool true)], args := [d] }
  | _ => none }
def fnExactCountSplicesRow : OpenClaim := { program := "ytaackbedahpnaaa", sum := "0a78b311f704d7f1f58b1b71b032dd3d2c39301270c9365e5ba1f588d944d965", func := "loop.example/g00589/laws.FnExactCountSplices", spec := "fnExactCountSplices", unfollowed := true, recurses := true, loops := true, apart := false }
def FnExactCountSplicesSaid : Prop := fnExactCountSplicesRow.holds Try.pinned (OpenSpec.ofChange fnExactCountSplicesSpec)

/-- ITS FALSE NEIGHBOUR: 'it returns false'. Refute it at one input. -/
def fnExactCountSplicesWrong : ChangeSpec := { name := "fnExactCountSplices", fn := fun _ => fun
  | [d] => { results := [.lit (.bool false)], args := [d] }
  | _ => none }
def FnExactCountSplicesWrongFalsely : Prop := fnExactCountSplicesRow.holds Try.pinned (OpenSpec.ofChange fnExactCountSplicesWrong)

/-- 'laws.FnExactCountStages': WHATEVER THE INPUT: true; the input reads as it did. -/
def fnExactCountStagesSpec : ChangeSpec := { name := "fnExactCountStages", fn := fun _ => fun
  | [d] => { results := [.lit (.bool true)], args := [d] }
  | _ => none }
def fnExactCountStagesRow : OpenClaim := { program := "ytaackbedahpnaaa", sum := "0a78b311f704d7f1f58b1b71b032dd3d2c39301270c9365e5ba1f588d944d965", func := "loop.example/g00589/laws.FnExactCountStages", spec := "fnExactCountStages", unfollowed := true, recurses := true, loops := true, apart := false }
def FnExactCountStagesSaid : Prop := fnExactCountStagesRow.holds Try.pinned (OpenSpec.ofChange fnExactCountStagesSpec)

/-- ITS FALSE NEIGHBOUR: 'it returns false'. Refute it at one input. -/
def fnExactCountStagesWrong : ChangeSpec := { name := "fnExactCountStages", fn := fun _ => fun
  | [d] => { results := [.lit (.bool false)], args := [d] }
  | _ => none }
def FnExactCountStagesWrongFalsely : Prop := fnExactCountStagesRow.holds Try.pinned (OpenSpec.ofChange fnExactCountStagesWrong)

/-- 'laws.FnExactIsStaged': WHATEVER THE INPUT: true; the input reads as it did. -/
def fnExactIsStagedSpec : ChangeSpec := { name := "fnExactIsStaged", fn := fun _ => fun
  | [d] => { results := [.lit (.bool true)], args := [d] }
  | _ => none }
def fnExactIsStagedRow : OpenClaim := { program := "ytaackbedahpnaaa", sum := "0a78b311f704d7f1f58b1b71b032dd3d2c39301270c9365e5ba1f588d944d965", func := "loop.example/g00589/laws.FnExactIsStaged", spec := "fnExactIsStaged", unfollowed := true, recurses := true, loops := true, apart := false }
def FnExactIsStagedSaid : Prop := fnExactIsStagedRow.holds Try.pinned (OpenSpec.ofChange fnExactIsStagedSpec)

/-- ITS FALSE NEIGHBOUR: 'it returns false'. Refute it at one input. -/
def fnExactIsStagedWrong : ChangeSpec := { name := "fnExactIsStaged", fn := fun _ => fun
  | [d] => { results := [.lit (.bool false)], args := [d] }
  | _ => none }
def FnExactIsStagedWrongFalsely : Prop := fnExactIsStagedRow.holds Try.pinned (OpenSpec.ofChange fnExactIsStagedWrong)

/-- 'laws.FnExactEqualTerm': WHATEVER THE INPUT: true; the input reads as it did. -/
def fnExactEqualTermSpec : ChangeSpec := { name := "fnExactEqualTerm", fn := fun _ => fun
  | [d1, d2] => { results := [.lit (.bool true)], args := [d1, d2] }
  | _ => none }
def fnExactEqualTermRow : OpenClaim := { program := "ytaackbedahpnaaa", sum := "0a78b311f704d7f1f58b1b71b032dd3d2c39301270c9365e5ba1f588d944d965", func := "loop.example/g00589/laws.FnExactEqualTerm", spec := "fnExactEqualTerm", unfollowed := true, recurses := true, loops := true, apart := false }
def FnExactEqualTermSaid : Prop := fnExactEqualTermRow.holds Try.pinned (OpenSpec.ofChange fnExactEqualTermSpec)

/-- ITS FALSE NEIGHBOUR: 'it returns false'. Refute it at one input. -/
def fnExactEqualTermWrong : ChangeSpec := { name := "fnExactEqualTerm", fn := fun _ => fun
  | [d1, d2] => { results := [.lit (.bool false)], args := [d1, d2] }
  | _ => none }
def FnExactEqualTermWrongFalsely : Prop := fnExactEqualTermRow.holds Try.pinned (OpenSpec.ofChange fnExactEqualTermWrong)

/-- 'laws.FnExactIsTerm': WHATEVER THE INPUT: true; the input reads as it did. -/
def fnExactIsTermSpec : ChangeSpec := { name := "fnExactIsTerm", fn := fun _ => fun
  | [d] => { results := [.lit (.bool true)], args := [d] }
  | _ => none }
def fnExactIsTermRow : OpenClaim := { program := "ytaackbedahpnaaa", sum := "0a78b311f704d7f1f58b1b71b032dd3d2c39301270c9365e5ba1f588d944d965", func := "loop.example/g00589/laws.FnExactIsTerm", spec := "fnExactIsTerm", unfollowed := true, recurses := true, loops := true, apart := false }
def FnExactIsTermSaid : Prop := fnExactIsTermRow.holds Try.pinned (OpenSpec.ofChange fnExactIsTermSpec)

/-- ITS FALSE NEIGHBOUR: 'it returns false'. Refute it at one input. -/
def fnExactIsTermWrong : ChangeSpec := { name := "fnExactIsTerm", fn := fun _ => fun
  | [d] => { results := [.lit (.bool false)], args := [d] }
  | _ => none }
def FnExactIsTermWrongFalsely : Prop := fnExactIsTermRow.holds Try.pinned (OpenSpec.ofChange fnExactIsTermWrong)

/-- 'laws.FnExactIsValidTerm': WHATEVER THE INPUT: true; the input reads as it did. -/
def fnExactIsValidTermSpec : ChangeSpec := { name := "fnExactIsValidTerm", fn := fun _ => fun
  | [d] => { results := [.lit (.bool true)], args := [d] }
  | _ => none }
def fnExactIsValidTermRow : OpenClaim := { program := "ytaackbedahpnaaa", sum := "0a78b311f704d7f1f58b1b71b032dd3d2c39301270c9365e5ba1f588d944d965", func := "loop.example/g00589/laws.FnExactIsValidTerm", spec := "fnExactIsValidTerm", unfollowed := true, recurses := true, loops := true, apart := false }
def FnExactIsValidTermSaid : Prop := fnExactIsValidTermRow.holds Try.pinned (OpenSpec.ofChange fnExactIsValidTermSpec)

/-- ITS FALSE NEIGHBOUR: 'it returns false'. Refute it at one input. -/
def fnExactIsValidTermWrong : ChangeSpec := { name := "fnExactIsValidTerm", fn := fun _ => fun
  | [d] => { results := [.lit (.bool false)], args := [d] }
  | _ => none }
def FnExactIsValidTermWrongFalsely : Prop := fnExactIsValidTermRow.holds Try.pinned (OpenSpec.ofChange fnExactIsValidTermWrong)

/- THE SECOND FORM. 'bulk': how many values and letters a reading holds, each counted each time it is reached (what is shared counts as often as it is met; a slice's spare places count too). A statement '..UptoSaid' is the law's where the arguments, and the package variables that the reading takes, are together of bulk at most 1048576: NARROWER than '..Said'. Prove '..Said' where nothing that the law and all that it calls make is longer than what came in: it says more and counts as full. Else prove '..UptoSaid'. A law counts once. -/
mutual
def uptoBulk {H : Type} : DataW H → Nat
  | .lit (.string bytes) => bytes.length + 1
  | .lit _ => 1
  | .nil => 1
  | .ptr d => uptoBulk d + 1
  | .slice elems spare => uptoBulkAll elems + uptoBulkAll spare + 1
  | .agg parts => uptoBulkAll parts + 1
  | .iface _ d => uptoBulk d + 1
  | .map entries => uptoBulkEntries entries + 1
  | .held _ => 1
def uptoBulkAll {H : Type} : List (DataW H) → Nat
  | [] => 0
  | d :: r => uptoBulk d + uptoBulkAll r
def uptoBulkEntries {H : Type} : List (Lit × DataW H) → Nat
  | [] => 0
  | x :: r => uptoBulkEntry x + uptoBulkEntries r
def uptoBulkEntry {H : Type} : Lit × DataW H → Nat
  | (.string bytes, d) => bytes.length + uptoBulk d + 1
  | (_, d) => uptoBulk d + 1
 end
def uptoSmall : (H : Type) → List (DataW H) → Bool := fun _ ds => decide (uptoBulkAll ds ≤ 1048576)
def OpenSpec.upto (s : _root_.Go.ChangeSpec) : _root_.Go.OpenSpec := { _root_.Go.OpenSpec.ofChange s with cond := some uptoSmall }

/-- 'laws.FnExactIsAtom', WHERE WHAT IT READS IS OF BULK AT MOST 1048576: true; the input reads as it did. -/
def fnExactIsAtomUptoRow : OpenClaim := { program := "ytaackbedahpnaaa", sum := "0a78b311f704d7f1f58b1b71b032dd3d2c39301270c9365e5ba1f588d944d965", func := "loop.example/g00589/laws.FnExactIsAtom", spec := "fnExactIsAtom", recurses := true, loops := true, apart := false, narrowed := true }
def FnExactIsAtomUptoSaid : Prop := fnExactIsAtomUptoRow.holds Try.pinned (OpenSpec.upto fnExactIsAtomSpec)

/-- 'laws.FnExactSizeOf', WHERE WHAT IT READS IS OF BULK AT MOST 1048576: true; the input reads as it did. -/
def fnExactSizeOfUptoRow : OpenClaim := { program := "ytaackbedahpnaaa", sum := "0a78b311f704d7f1f58b1b71b032dd3d2c39301270c9365e5ba1f588d944d965", func := "loop.example/g00589/laws.FnExactSizeOf", spec := "fnExactSizeOf", recurses := true, loops := true, apart := false, narrowed := true }
def FnExactSizeOfUptoSaid : Prop := fnExactSizeOfUptoRow.holds Try.pinned (OpenSpec.upto fnExactSizeOfSpec)

/-- 'laws.FnExactDepthOf', WHERE WHAT IT READS IS OF BULK AT MOST 1048576: true; the input reads as it did. -/
def fnExactDepthOfUptoRow : OpenClaim := { program := "ytaackbedahpnaaa", sum := "0a78b311f704d7f1f58b1b71b032dd3d2c39301270c9365e5ba1f588d944d965", func := "loop.example/g00589/laws.FnExactDepthOf", spec := "fnExactDepthOf", recurses := true, loops := true, apart := false, narrowed := true }
def FnExactDepthOfUptoSaid : Prop := fnExactDepthOfUptoRow.holds Try.pinned (OpenSpec.upto fnExactDepthOfSpec)

/-- 'laws.FnExactIsQuiet', WHERE WHAT IT READS IS OF BULK AT MOST 1048576: true; the input reads as it did. -/
def fnExactIsQuietUptoRow : OpenClaim := { program := "ytaackbedahpnaaa", sum := "0a78b311f704d7f1f58b1b71b032dd3d2c39301270c9365e5ba1f588d944d965", func := "loop.example/g00589/laws.FnExactIsQuiet", spec := "fnExactIsQuiet", unfollowed := true, recurses := true, loops := true, apart := false, narrowed := true }
def FnExactIsQuietUptoSaid : Prop := fnExactIsQuietUptoRow.holds Try.pinned (OpenSpec.upto fnExactIsQuietSpec)

/-- 'laws.FnExactCountSplices', WHERE WHAT IT READS IS OF BULK AT MOST 1048576: true; the input reads as it did. -/
def fnExactCountSplicesUptoRow : OpenClaim := { program := "ytaackbedahpnaaa", sum := "0a78b311f704d7f1f58b1b71b032dd3d2c39301270c9365e5ba1f588d944d965", func := "loop.example/g00589/laws.FnExactCountSplices", spec := "fnExactCountSplices", unfollowed := true, recurses := true, loops := true, apart := false, narrowed := true }
def FnExactCountSplicesUptoSaid : Prop := fnExactCountSplicesUptoRow.holds Try.pinned (OpenSpec.upto fnExactCountSplicesSpec)

/-- 'laws.FnExactCountStages', WHERE WHAT IT READS IS OF BULK AT MOST 1048576: true; the input reads as it did. -/
def fnExactCountStagesUptoRow : OpenClaim := { program := "ytaackbedahpnaaa", sum := "0a78b311f704d7f1f58b1b71b032dd3d2c39301270c9365e5ba1f588d944d965", func := "loop.example/g00589/laws.FnExactCountStages", spec := "fnExactCountStages", unfollowed := true, recurses := true, loops := true, apart := false, narrowed := true }
def FnExactCountStagesUptoSaid : Prop := fnExactCountStagesUptoRow.holds Try.pinned (OpenSpec.upto fnExactCountStagesSpec)

/-- 'laws.FnExactIsStaged', WHERE WHAT IT READS IS OF BULK AT MOST 1048576: true; the input reads as it did. -/
def fnExactIsStagedUptoRow : OpenClaim := { program := "ytaackbedahpnaaa", sum := "0a78b311f704d7f1f58b1b71b032dd3d2c39301270c9365e5ba1f588d944d965", func := "loop.example/g00589/laws.FnExactIsStaged", spec := "fnExactIsStaged", unfollowed := true, recurses := true, loops := true, apart := false, narrowed := true }
def FnExactIsStagedUptoSaid : Prop := fnExactIsStagedUptoRow.holds Try.pinned (OpenSpec.upto fnExactIsStagedSpec)

/-- 'laws.FnExactEqualTerm', WHERE WHAT IT READS IS OF BULK AT MOST 1048576: true; the input reads as it did. -/
def fnExactEqualTermUptoRow : OpenClaim := { program := "ytaackbedahpnaaa", sum := "0a78b311f704d7f1f58b1b71b032dd3d2c39301270c9365e5ba1f588d944d965", func := "loop.example/g00589/laws.FnExactEqualTerm", spec := "fnExactEqualTerm", unfollowed := true, recurses := true, loops := true, apart := false, narrowed := true }
def FnExactEqualTermUptoSaid : Prop := fnExactEqualTermUptoRow.holds Try.pinned (OpenSpec.upto fnExactEqualTermSpec)

/-- 'laws.FnExactIsTerm', WHERE WHAT IT READS IS OF BULK AT MOST 1048576: true; the input reads as it did. -/
def fnExactIsTermUptoRow : OpenClaim := { program := "ytaackbedahpnaaa", sum := "0a78b311f704d7f1f58b1b71b032dd3d2c39301270c9365e5ba1f588d944d965", func := "loop.example/g00589/laws.FnExactIsTerm", spec := "fnExactIsTerm", unfollowed := true, recurses := true, loops := true, apart := false, narrowed := true }
def FnExactIsTermUptoSaid : Prop := fnExactIsTermUptoRow.holds Try.pinned (OpenSpec.upto fnExactIsTermSpec)

/-- 'laws.FnExactIsValidTerm', WHERE WHAT IT READS IS OF BULK AT MOST 1048576: true; the input reads as it did. -/
def fnExactIsValidTermUptoRow : OpenClaim := { program := "ytaackbedahpnaaa", sum := "0a78b311f704d7f1f58b1b71b032dd3d2c39301270c9365e5ba1f588d944d965", func := "loop.example/g00589/laws.FnExactIsValidTerm", spec := "fnExactIsValidTerm", unfollowed := true, recurses := true, loops := true, apart := false, narrowed := true }
def FnExactIsValidTermUptoSaid : Prop := fnExactIsValidTermUptoRow.holds Try.pinned (OpenSpec.upto fnExactIsValidTermSpec)

end Rows
end Go.Proofs.Ytaackbedahpnaaa
