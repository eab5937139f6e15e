/-
  NARROWER THAN 'FOR EVERY INPUT', by the rows' own cells (each row's printed sentence says how): FnExactIsTerm: loops · FnExactIsValidTerm: loops · FnExactIsPlain: loops · FnExactLevelsOk: loops · FnExactIsGenerated: loops · FnExactHighestLevel: loops · FnExactIsResult: loops.
  DERIVED. THE GIVEN ROWS OF THIS SEAT. 7 by the template 'for every input the law returns true; each argument reads behind the call as it read before'; 0 by the template 'total and deterministic' (their statements: YtpiaacidieeilaaTotals.lean).
  GIVEN WITH THE SEED: the statements are not yours to turn. If you find one false, say at which input.
  Laid BY PROGRAM, IN A SANDBOX (cutbox-rows.mjs): the forced cells as the released guide's own fill.sh prints them over the translation 064694023e63a228… (all of the seat's roots in one cut). By AI agents, Wed Nov 11 2026. No macro, syntax, notation, axiom, sorry.
-/
import Derived.Test.YtpiaacidieeilaaChecked
import GoSem.Claim
import GoSem.ClaimJoined
import GoSem.ClaimMapViews
import Derived.JoinedTies
import Derived.KernelRfl
namespace Go.Proofs.Ytpiaacidieeilaa
/- THE CELL 'sum', in the pinned program and in every row, IS THE sha256 OF THE DUMP (.gsa) THAT YtpiaacidieeilaaProg.lean LOADS. Nothing in Lean hashes anything: it is a label: what it is worth is what the hold of that sum in a sandbox is worth. -/
noncomputable def Try.pinned : Pinned := { name := "ytpiaacidieeilaa", sum := "064694023e63a228f2bad6b9938dd3b08e40d14fc502cb9fa80149770de50d89", checked := Try.checked }
namespace Rows
def none {H : Type} : Left H := { results := [], args := [] }

/-- 'laws.FnExactIsTerm': WHATEVER THE INPUT: true; the input reads as it did. -/
def fnExactIsTermSpec : ChangeSpec := { name := "fnExactIsTerm", fn := fun _ => fun
  | [d] => { results := [.lit (.bool true)], args := [d] }
  | _ => none }
def fnExactIsTermRow : OpenClaim := { program := "ytpiaacidieeilaa", sum := "064694023e63a228f2bad6b9938dd3b08e40d14fc502cb9fa80149770de50d89", func := "loop.example/g00589/laws.FnExactIsTerm", spec := "fnExactIsTerm", unfollowed := true, recurses := true, loops := true, apart := false }
def FnExactIsTermSaid : Prop := fnExactIsTermRow.holds Try.pinned (OpenSpec.ofChange fnExactIsTermSpec)

/-- ITS FALSE NEIGHBOUR: 'it returns false'. Refute it at one input. -/
def fnExactIsTermWrong : ChangeSpec := { name := "fnExactIsTerm", fn := fun _ => fun
  | [d] => { results := [.lit (.bool false)], args := [d] }
  | _ => none }
def FnExactIsTermWrongFalsely : Prop := fnExactIsTermRow.holds Try.pinned (OpenSpec.ofChange fnExactIsTermWrong)

/-- 'laws.FnExactIsValidTerm': WHATEVER THE INPUT: true; the input reads as it did. -/
def fnExactIsValidTermSpec : ChangeSpec := { name := "fnExactIsValidTerm", fn := fun _ => fun
  | [d] => { results := [.lit (.bool true)], args := [d] }
  | _ => none }
def fnExactIsValidTermRow : OpenClaim := { program := "ytpiaacidieeilaa", sum := "064694023e63a228f2bad6b9938dd3b08e40d14fc502cb9fa80149770de50d89", func := "loop.example/g00589/laws.FnExactIsValidTerm", spec := "fnExactIsValidTerm", unfollowed := true, recurses := true, loops := true, apart := false }
def FnExactIsValidTermSaid : Prop := fnExactIsValidTermRow.holds Try.pinned (OpenSpec.ofChange fnExactIsValidTermSpec)

/-- ITS FALSE NEIGHBOUR: 'it returns false'. Refute it at one input. -/
def fnExactIsValidTermWrong : ChangeSpec := { name := "fnExactIsValidTerm", fn := fun _ => fun
  | [d] => { results := [.lit (.bool false)], args := [d] }
  | _ => none }
def FnExactIsValidTermWrongFalsely : Prop := fnExactIsValidTermRow.holds Try.pinned (OpenSpec.ofChange fnExactIsValidTermWrong)

/-- 'laws.FnExactIsPlain': WHATEVER THE INPUT: true; the input reads as it did. -/
def fnExactIsPlainSpec : ChangeSpec := { name := "fnExactIsPlain", fn := fun _ => fun
  | [d] => { results := [.lit (.bool true)], args := [d] }
  | _ => none }
def fnExactIsPlainRow : OpenClaim := { program := "ytpiaacidieeilaa", sum := "064694023e63a228f2bad6b9938dd3b08e40d14fc502cb9fa80149770de50d89", func := "loop.example/g00589/laws.FnExactIsPlain", spec := "fnExactIsPlain", unfollowed := true, recurses := true, loops := true, apart := false }
def FnExactIsPlainSaid : Prop := fnExactIsPlainRow.holds Try.pinned (OpenSpec.ofChange fnExactIsPlainSpec)

/-- ITS FALSE NEIGHBOUR: 'it returns false'. Refute it at one input. -/
def fnExactIsPlainWrong : ChangeSpec := { name := "fnExactIsPlain", fn := fun _ => fun
  | [d] => { results := [.lit (.bool false)], args := [d] }
  | _ => none }
def FnExactIsPlainWrongFalsely : Prop := fnExactIsPlainRow.holds Try.pinned (OpenSpec.ofChange fnExactIsPlainWrong)

/-- 'laws.FnExactLevelsOk': WHATEVER THE INPUT: true; the input reads as it did. -/
def fnExactLevelsOkSpec : ChangeSpec := { name := "fnExactLevelsOk", fn := fun _ => fun
  | [d1, d2] => { results := [.lit (.bool true)], args := [d1, d2] }
  | _ => none }
def fnExactLevelsOkRow : OpenClaim := { program := "ytpiaacidieeilaa", sum := "064694023e63a228f2bad6b9938dd3b08e40d14fc502cb9fa80149770de50d89", func := "loop.example/g00589/laws.FnExactLevelsOk", spec := "fnExactLevelsOk", unfollowed := true, recurses := true, loops := true, apart := false }
def FnExactLevelsOkSaid : Prop := fnExactLevelsOkRow.holds Try.pinned (OpenSpec.ofChange fnExactLevelsOkSpec)

/-- ITS FALSE NEIGHBOUR: 'it returns false'. Refute it at one input. -/
def fnExactLevelsOkWrong : ChangeSpec := { name := "fnExactLevelsOk", fn := fun _ => fun
  | [d1, d2] => { results := [.lit (.bool false)], args := [d1, d2] }
  | _ => none }
def FnExactLevelsOkWrongFalsely : Prop := fnExactLevelsOkRow.holds Try.pinned (OpenSpec.ofChange fnExactLevelsOkWrong)

/-- 'laws.FnExactIsGenerated': WHATEVER THE INPUT: true; the input reads as it did. -/
def fnExactIsGeneratedSpec : ChangeSpec := { name := "fnExactIsGenerated", fn := fun _ => fun
  | [d1, d2] => { results := [.lit (.bool true)], args := [d1, d2] }
  | _ => none }
def fnExactIsGeneratedRow : OpenClaim := { program := "ytpiaacidieeilaa", sum := "064694023e63a228f2bad6b9938dd3b08e40d14fc502cb9fa80149770de50d89", func := "loop.example/g00589/laws.FnExactIsGenerated", spec := "fnExactIsGenerated", unfollowed := true, recurses := true, loops := true, apart := false }
def FnExactIsGeneratedSaid : Prop := fnExactIsGeneratedRow.holds Try.pinned (OpenSpec.ofChange fnExactIsGeneratedSpec)

/-- ITS FALSE NEIGHBOUR: 'it returns false'. Refute it at one input. -/
def fnExactIsGeneratedWrong : ChangeSpec := { name := "fnExactIsGenerated", fn := fun _ => fun
  | [d1, d2] => { results := [.lit (.bool false)], args := [d1, d2] }
  | _ => none }
def FnExactIsGeneratedWrongFalsely : Prop := fnExactIsGeneratedRow.holds Try.pinned (OpenSpec.ofChange fnExactIsGeneratedWrong)

/-- 'laws.FnExactHighestLevel': WHATEVER THE INPUT: true; the input reads as it did. -/
def fnExactHighestLevelSpec : ChangeSpec := { name := "fnExactHighestLevel", fn := fun _ => fun
  | [d] => { results := [.lit (.bool true)], args := [d] }
  | _ => none }
def fnExactHighestLevelRow : OpenClaim := { program := "ytpiaacidieeilaa", sum := "064694023e63a228f2bad6b9938dd3b08e40d14fc502cb9fa80149770de50d89", func := "loop.example/g00589/laws.FnExactHighestLevel", spec := "fnExactHighestLevel", unfollowed := true, recurses := true, loops := true, apart := false }
def FnExactHighestLevelSaid : Prop := fnExactHighestLevelRow.holds Try.pinned (OpenSpec.ofChange fnExactHighestLevelSpec)

/-- ITS FALSE NEIGHBOUR: 'it returns false'. Refute it at one input. -/
def fnExactHighestLevelWrong : ChangeSpec := { name := "fnExactHighestLevel", fn := fun _ => fun
  | [d] => { results := [.lit (.bool false)], args := [d] }
  | _ => none }
def FnExactHighestLevelWrongFalsely : Prop := fnExactHighestLevelRow.holds Try.pinned (OpenSpec.ofChange fnExactHighestLevelWrong)

/-- 'laws.FnExactIsResult': WHATEVER THE INPUT: true; the input reads as it did. -/
def fnExactIsResultSpec : ChangeSpec := { name := "fnExactIsResult", fn := fun _ => fun
  | [d] => { results := [.lit (.bool true)], args := [d] }
  | _ => none }
def fnExactIsResultRow : OpenClaim := { program := "ytpiaacidieeilaa", sum := "064694023e63a228f2bad6b9938dd3b08e40d14fc502cb9fa80149770de50d89", func := "loop.example/g00589/laws.FnExactIsResult", spec := "fnExactIsResult", unfollowed := true, recurses := true, loops := true, apart := false }
def FnExactIsResultSaid : Prop := fnExactIsResultRow.holds Try.pinned (OpenSpec.ofChange fnExactIsResultSpec)

/-- ITS FALSE NEIGHBOUR: 'it returns false'. Refute it at one input. -/
def fnExactIsResultWrong : ChangeSpec := { name := "fnExactIsResult", fn := fun _ => fun
  | [d] => { results := [.lit (.bool false)], args := [d] }
  | _ => none }
def FnExactIsResultWrongFalsely : Prop := fnExactIsResultRow.holds Try.pinned (OpenSpec.ofChange fnExactIsResultWrong)

/- THE SECOND FORM. 'bulk': how many values and letters a reading holds, each counted each time it is reached (what is shared counts as often as it is met; a slice's spare places count too). A statement '..UptoSaid' is the law's where the arguments, and the package variables that the reading takes, are together of bulk at most 1048576: NARROWER than '..Said'. Prove '..Said' where nothing that the law and all that it calls make is longer than what came in: it says more and counts as full. Else prove '..UptoSaid'. A law counts once. -/
mutual
def uptoBulk {H : Type} : DataW H → Nat
  | .lit (.string bytes) => bytes.length + 1
  | .lit _ => 1
  | .nil => 1
  | .ptr d => uptoBulk d + 1
  | .slice elems spare => uptoBulkAll elems + uptoBulkAll spare + 1
  | .agg parts => uptoBulkAll parts + 1
  | .iface _ d => uptoBulk d + 1
  | .map entries => uptoBulkEntries entries + 1
  | .held _ => 1
def uptoBulkAll {H : Type} : List (DataW H) → Nat
  | [] => 0
  | d :: r => uptoBulk d + uptoBulkAll r
def uptoBulkEntries {H : Type} : List (Lit × DataW H) → Nat
  | [] => 0
  | x :: r => uptoBulkEntry x + uptoBulkEntries r
def uptoBulkEntry {H : Type} : Lit × DataW H → Nat
  | (.string bytes, d) => bytes.length + uptoBulk d + 1
  | (_, d) => uptoBulk d + 1
 end
def uptoSmall : (H : Type) → List (DataW H) → Bool := fun _ ds => decide (uptoBulkAll ds ≤ 1048576)
def OpenSpec.upto (s : _root_.Go.ChangeSpec) : _root_.Go.OpenSpec := { _root_.Go.OpenSpec.ofChange s with cond := some uptoSmall }

/-- 'laws.FnExactIsTerm', WHERE WHAT IT READS IS OF BULK AT MOST 1048576: true; the input reads as it did. -/
def fnExactIsTermUptoRow : OpenClaim := { program := "ytpiaacidieeilaa", sum := "064694023e63a228f2bad6b9938dd3b08e40d14fc502cb9fa80149770de50d89", func := "loop.example/g00589/laws.FnExactIsTerm", spec := "fnExactIsTerm", unfollowed := true, recurses := true, loops := true, apart := false, narrowed := true }
def FnExactIsTermUptoSaid : Prop := fnExactIsTermUptoRow.holds Try.pinned (OpenSpec.upto fnExactIsTermSpec)

/-- 'laws.FnExactIsValidTerm', WHERE WHAT IT READS IS OF BULK AT MOST 1048576: true; the input reads as it did. -/
def fnExactIsValidTermUptoRow : OpenClaim := { program := "ytpiaacidieeilaa", sum := "064694023e63a228f2bad6b9938dd3b08e40d14fc502cb9fa80149770de50d89", func := "loop.example/g00589/laws.FnExactIsValidTerm", spec := "fnExactIsValidTerm", unfollowed := true, recurses := true, loops := true, apart := false, narrowed := true }
def FnExactIsValidTermUptoSaid : Prop := fnExactIsValidTermUptoRow.holds Try.pinned (OpenSpec.upto fnExactIsValidTermSpec)

/-- 'laws.FnExactIsPlain', WHERE WHAT IT READS IS OF BULK AT MOST 1048576: true; the input reads as it did. -/
def fnExactIsPlainUptoRow : OpenClaim := { program := "ytpiaacidieeilaa", sum := "064694023e63a228f2bad6b9938dd3b08e40d14fc502cb9fa80149770de50d89", func := "loop.example/g00589/laws.FnExactIsPlain", spec := "fnExactIsPlain", unfollowed := true, recurses := true, loops := true, apart := false, narrowed := true }
def FnExactIsPlainUptoSaid : Prop := fnExactIsPlainUptoRow.holds Try.pinned (OpenSpec.upto fnExactIsPlainSpec)

/-- 'laws.FnExactLevelsOk', WHERE WHAT IT READS IS OF BULK AT MOST 1048576: true; the input reads as it did. -/
def fnExactLevelsOkUptoRow : OpenClaim := { program := "ytpiaacidieeilaa", sum := "064694023e63a228f2bad6b9938dd3b08e40d14fc502cb9fa80149770de50d89", func := "loop.example/g00589/laws.FnExactLevelsOk", spec := "fnExactLevelsOk", unfollowed := true, recurses := true, loops := true, apart := false, narrowed := true }
def FnExactLevelsOkUptoSaid : Prop := fnExactLevelsOkUptoRow.holds Try.pinned (OpenSpec.upto fnExactLevelsOkSpec)

/-- 'laws.FnExactIsGenerated', WHERE WHAT IT READS IS OF BULK AT MOST 1048576: true; the input reads as it did. -/
def fnExactIsGeneratedUptoRow : OpenClaim := { program := "ytpiaacidieeilaa", sum := "064694023e63a228f2bad6b9938dd3b08e40d14fc502cb9fa80149770de50d89", func := "loop.example/g00589/laws.FnExactIsGenerated", spec := "fnExactIsGenerated", unfollowed := true, recurses := true, loops := true, apart := false, narrowed := true }
def FnExactIsGeneratedUptoSaid : Prop := fnExactIsGeneratedUptoRow.holds Try.pinned (OpenSpec.upto fnExactIsGeneratedSpec)

/-- 'laws.FnExactHighestLevel', WHERE WHAT IT READS IS OF BULK AT MOST 1048576: true; the input reads as it did. -/
def fnExactHighestLevelUptoRow : OpenClaim := { program := "ytpiaacidieeilaa", sum := "064694023e63a228f2bad6b9938dd3b08e40d14fc502cb9fa80149770de50d89", func := "loop.example/g00589/laws.FnExactHighestLevel", spec := "fnExactHighestLevel", unfollowed := true, recurses := true, loops := true, apart := false, narrowed := true }
def FnExactHighestLevelUptoSaid : Prop := fnExactHighestLevelUptoRow.holds Try.pinned (OpenSpec.upto fnExactHighestLevelSpec)

/-- 'laws.FnExactIsResult', WHERE WHAT IT READS IS OF BULK AT MOST 1048576: true; the input reads as it did. -/
def fnExactIsResultUptoRow : OpenClaim := { program := "ytpiaacidieeilaa", sum := "064694023e63a228f2bad6b9938dd3b08e40d14fc502cb9fa80149770de50d89", func := "loop.example/g00589/laws.FnExactIsResult", spec := "fnExactIsResult", unfollowed := true, recurses := true, loops := true, apart := false, narrowed := true }
def FnExactIsResultUptoSaid : Prop := fnExactIsResultUptoRow.holds Try.pinned (OpenSpec.upto fnExactIsResultSpec)

end Rows
end Go.Proofs.Ytpiaacidieeilaa
