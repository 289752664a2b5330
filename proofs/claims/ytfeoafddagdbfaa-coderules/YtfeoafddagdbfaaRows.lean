/-
  No cell of these rows narrows 'for every input' (looked for: loops, veiled, ifaces, maps, wideKeys, modest, calm, conditions, laid).
  DERIVED. THE GIVEN ROWS OF THIS SEAT. 7 by the template 'for every input the law returns true; each argument reads behind the call as it read before'; 0 by the template 'total and deterministic' (their statements: YtfeoafddagdbfaaTotals.lean).
  GIVEN WITH THE SEED: the statements are not yours to turn. If you find one false, say at which input.
  Laid BY PROGRAM, IN A SANDBOX (cutbox-rows.mjs): the forced cells as the released guide's own fill.sh prints them over the translation 5e55ad77b0af4b7b… (all of the seat's roots in one cut). By AI agents, Wed Nov 11 2026. No macro, syntax, notation, axiom, sorry.
-/
import Derived.Test.YtfeoafddagdbfaaChecked
import GoSem.Claim
import GoSem.ClaimJoined
import GoSem.ClaimMapViews
import Derived.JoinedTies
import Derived.KernelRfl
namespace Go.Proofs.Ytfeoafddagdbfaa
/- THE CELL 'sum', in the pinned program and in every row, IS THE sha256 OF THE DUMP (.gsa) THAT YtfeoafddagdbfaaProg.lean LOADS. Nothing in Lean hashes anything: it is a label: what it is worth is what the hold of that sum in a sandbox is worth. -/
noncomputable def Try.pinned : Pinned := { name := "ytfeoafddagdbfaa", sum := "5e55ad77b0af4b7b2689f52da20d2ef94dbf197ad8d20d1f16820509fd4d85af", checked := Try.checked }
namespace Rows
def none {H : Type} : Left H := { results := [], args := [] }

/-- 'avowallaw05.CodeRules': WHATEVER THE INPUT: true; the input reads as it did. -/
def codeRulesSpec : ChangeSpec := { name := "codeRules", fn := fun _ => fun
  | [d] => { results := [.lit (.bool true)], args := [d] }
  | _ => none }
def codeRulesRow : OpenClaim := { program := "ytfeoafddagdbfaa", sum := "5e55ad77b0af4b7b2689f52da20d2ef94dbf197ad8d20d1f16820509fd4d85af", func := "avowal/avowallaw05.CodeRules", spec := "codeRules", unfollowed := true, recurses := true, apart := false }
def CodeRulesSaid : Prop := codeRulesRow.holds Try.pinned (OpenSpec.ofChange codeRulesSpec)

/-- ITS FALSE NEIGHBOUR: 'it returns false'. Refute it at one input. -/
def codeRulesWrong : ChangeSpec := { name := "codeRules", fn := fun _ => fun
  | [d] => { results := [.lit (.bool false)], args := [d] }
  | _ => none }
def CodeRulesWrongFalsely : Prop := codeRulesRow.holds Try.pinned (OpenSpec.ofChange codeRulesWrong)

/-- 'avowallaw05.CodeReads': WHATEVER THE INPUT: true; the input reads as it did. -/
def codeReadsSpec : ChangeSpec := { name := "codeReads", fn := fun _ => fun
  | [d] => { results := [.lit (.bool true)], args := [d] }
  | _ => none }
def codeReadsRow : OpenClaim := { program := "ytfeoafddagdbfaa", sum := "5e55ad77b0af4b7b2689f52da20d2ef94dbf197ad8d20d1f16820509fd4d85af", func := "avowal/avowallaw05.CodeReads", spec := "codeReads", unfollowed := true, recurses := true, apart := false }
def CodeReadsSaid : Prop := codeReadsRow.holds Try.pinned (OpenSpec.ofChange codeReadsSpec)

/-- ITS FALSE NEIGHBOUR: 'it returns false'. Refute it at one input. -/
def codeReadsWrong : ChangeSpec := { name := "codeReads", fn := fun _ => fun
  | [d] => { results := [.lit (.bool false)], args := [d] }
  | _ => none }
def CodeReadsWrongFalsely : Prop := codeReadsRow.holds Try.pinned (OpenSpec.ofChange codeReadsWrong)

/-- 'avowallaw05.CodeApart': WHATEVER THE INPUT: true; the input reads as it did. -/
def codeApartSpec : ChangeSpec := { name := "codeApart", fn := fun _ => fun
  | [d1, d2] => { results := [.lit (.bool true)], args := [d1, d2] }
  | _ => none }
def codeApartRow : OpenClaim := { program := "ytfeoafddagdbfaa", sum := "5e55ad77b0af4b7b2689f52da20d2ef94dbf197ad8d20d1f16820509fd4d85af", func := "avowal/avowallaw05.CodeApart", spec := "codeApart", unfollowed := true, recurses := true, apart := false }
def CodeApartSaid : Prop := codeApartRow.holds Try.pinned (OpenSpec.ofChange codeApartSpec)

/-- ITS FALSE NEIGHBOUR: 'it returns false'. Refute it at one input. -/
def codeApartWrong : ChangeSpec := { name := "codeApart", fn := fun _ => fun
  | [d1, d2] => { results := [.lit (.bool false)], args := [d1, d2] }
  | _ => none }
def CodeApartWrongFalsely : Prop := codeApartRow.holds Try.pinned (OpenSpec.ofChange codeApartWrong)

/-- 'avowallaw05.CodeFacts': WHATEVER THE INPUT: true; the input reads as it did. -/
def codeFactsSpec : ChangeSpec := { name := "codeFacts", fn := fun _ => fun
  | [d1, d2, d3] => { results := [.lit (.bool true)], args := [d1, d2, d3] }
  | _ => none }
def codeFactsRow : OpenClaim := { program := "ytfeoafddagdbfaa", sum := "5e55ad77b0af4b7b2689f52da20d2ef94dbf197ad8d20d1f16820509fd4d85af", func := "avowal/avowallaw05.CodeFacts", spec := "codeFacts", unfollowed := true, recurses := true, apart := false }
def CodeFactsSaid : Prop := codeFactsRow.holds Try.pinned (OpenSpec.ofChange codeFactsSpec)

/-- ITS FALSE NEIGHBOUR: 'it returns false'. Refute it at one input. -/
def codeFactsWrong : ChangeSpec := { name := "codeFacts", fn := fun _ => fun
  | [d1, d2, d3] => { results := [.lit (.bool false)], args := [d1, d2, d3] }
  | _ => none }
def CodeFactsWrongFalsely : Prop := codeFactsRow.holds Try.pinned (OpenSpec.ofChange codeFactsWrong)

/-- 'avowallaw05.CodeBack': WHATEVER THE INPUT: true; the input reads as it did. -/
def codeBackSpec : ChangeSpec := { name := "codeBack", fn := fun _ => fun
  | [d1, d2] => { results := [.lit (.bool true)], args := [d1, d2] }
  | _ => none }
def codeBackRow : OpenClaim := { program := "ytfeoafddagdbfaa", sum := "5e55ad77b0af4b7b2689f52da20d2ef94dbf197ad8d20d1f16820509fd4d85af", func := "avowal/avowallaw05.CodeBack", spec := "codeBack", unfollowed := true, recurses := true, apart := false }
def CodeBackSaid : Prop := codeBackRow.holds Try.pinned (OpenSpec.ofChange codeBackSpec)

/-- ITS FALSE NEIGHBOUR: 'it returns false'. Refute it at one input. -/
def codeBackWrong : ChangeSpec := { name := "codeBack", fn := fun _ => fun
  | [d1, d2] => { results := [.lit (.bool false)], args := [d1, d2] }
  | _ => none }
def CodeBackWrongFalsely : Prop := codeBackRow.holds Try.pinned (OpenSpec.ofChange codeBackWrong)

/-- 'avowallaw05.CodeOne': WHATEVER THE INPUT: true; the input reads as it did. -/
def codeOneSpec : ChangeSpec := { name := "codeOne", fn := fun _ => fun
  | [d1, d2] => { results := [.lit (.bool true)], args := [d1, d2] }
  | _ => none }
def codeOneRow : OpenClaim := { program := "ytfeoafddagdbfaa", sum := "5e55ad77b0af4b7b2689f52da20d2ef94dbf197ad8d20d1f16820509fd4d85af", func := "avowal/avowallaw05.CodeOne", spec := "codeOne", unfollowed := true, recurses := true, apart := false }
def CodeOneSaid : Prop := codeOneRow.holds Try.pinned (OpenSpec.ofChange codeOneSpec)

/-- ITS FALSE NEIGHBOUR: 'it returns false'. Refute it at one input. -/
def codeOneWrong : ChangeSpec := { name := "codeOne", fn := fun _ => fun
  | [d1, d2] => { results := [.lit (.bool false)], args := [d1, d2] }
  | _ => none }
def CodeOneWrongFalsely : Prop := codeOneRow.holds Try.pinned (OpenSpec.ofChange codeOneWrong)

/-- 'avowallaw05.CodeSames': WHATEVER THE INPUT: true; the input reads as it did. -/
def codeSamesSpec : ChangeSpec := { name := "codeSames", fn := fun _ => fun
  | [d1, d2, d3] => { results := [.lit (.bool true)], args := [d1, d2, d3] }
  | _ => none }
def codeSamesRow : OpenClaim := { program := "ytfeoafddagdbfaa", sum := "5e55ad77b0af4b7b2689f52da20d2ef94dbf197ad8d20d1f16820509fd4d85af", func := "avowal/avowallaw05.CodeSames", spec := "codeSames", unfollowed := true, recurses := true, apart := false }
def CodeSamesSaid : Prop := codeSamesRow.holds Try.pinned (OpenSpec.ofChange codeSamesSpec)

/-- ITS FALSE NEIGHBOUR: 'it returns false'. Refute it at one input. -/
def codeSamesWrong : ChangeSpec := { name := "codeSames", fn := fun _ => fun
  | [d1, d2, d3] => { results := [.lit (.bool false)], args := [d1, d2, d3] }
  | _ => none }
def CodeSamesWrongFalsely : Prop := codeSamesRow.holds Try.pinned (OpenSpec.ofChange codeSamesWrong)

/- THE SECOND FORM. 'bulk': how many values and letters a reading holds, each counted each time it is reached (what is shared counts as often as it is met; a slice's spare places count too). A statement '..UptoSaid' is the law's where the arguments, and the package variables that the reading takes, are together of bulk at most 1048576: NARROWER than '..Said'. Prove '..Said' where nothing that the law and all that it calls make is longer than what came in: it says more and counts as full. Else prove '..UptoSaid'. A law counts once. -/
mutual
def uptoBulk {H : Type} : DataW H → Nat
  | .lit (.string bytes) => bytes.length + 1
  | .lit _ => 1
  | .nil => 1
  | .ptr d => uptoBulk d + 1
  | .slice elems spare => uptoBulkAll elems + uptoBulkAll spare + 1
  | .agg parts => uptoBulkAll parts + 1
  | .iface _ d => uptoBulk d + 1
  | .map entries => uptoBulkEntries entries + 1
  | .held _ => 1
def uptoBulkAll {H : Type} : List (DataW H) → Nat
  | [] => 0
  | d :: r => uptoBulk d + uptoBulkAll r
def uptoBulkEntries {H : Type} : List (Lit × DataW H) → Nat
  | [] => 0
  | x :: r => uptoBulkEntry x + uptoBulkEntries r
def uptoBulkEntry {H : Type} : Lit × DataW H → Nat
  | (.string bytes, d) => bytes.length + uptoBulk d + 1
  | (_, d) => uptoBulk d + 1
 end
def uptoSmall : (H : Type) → List (DataW H) → Bool := fun _ ds => decide (uptoBulkAll ds ≤ 1048576)
def OpenSpec.upto (s : _root_.Go.ChangeSpec) : _root_.Go.OpenSpec := { _root_.Go.OpenSpec.ofChange s with cond := some uptoSmall }

/-- 'avowallaw05.CodeRules', WHERE WHAT IT READS IS OF BULK AT MOST 1048576: true; the input reads as it did. -/
def codeRulesUptoRow : OpenClaim := { program := "ytfeoafddagdbfaa", sum := "5e55ad77b0af4b7b2689f52da20d2ef94dbf197ad8d20d1f16820509fd4d85af", func := "avowal/avowallaw05.CodeRules", spec := "codeRules", unfollowed := true, recurses := true, apart := false, narrowed := true }
def CodeRulesUptoSaid : Prop := codeRulesUptoRow.holds Try.pinned (OpenSpec.upto codeRulesSpec)

/-- 'avowallaw05.CodeReads', WHERE WHAT IT READS IS OF BULK AT MOST 1048576: true; the input reads as it did. -/
def codeReadsUptoRow : OpenClaim := { program := "ytfeoafddagdbfaa", sum := "5e55ad77b0af4b7b2689f52da20d2ef94dbf197ad8d20d1f16820509fd4d85af", func := "avowal/avowallaw05.CodeReads", spec := "codeReads", unfollowed := true, recurses := true, apart := false, narrowed := true }
def CodeReadsUptoSaid : Prop := codeReadsUptoRow.holds Try.pinned (OpenSpec.upto codeReadsSpec)

/-- 'avowallaw05.CodeApart', WHERE WHAT IT READS IS OF BULK AT MOST 1048576: true; the input reads as it did. -/
def codeApartUptoRow : OpenClaim := { program := "ytfeoafddagdbfaa", sum := "5e55ad77b0af4b7b2689f52da20d2ef94dbf197ad8d20d1f16820509fd4d85af", func := "avowal/avowallaw05.CodeApart", spec := "codeApart", unfollowed := true, recurses := true, apart := false, narrowed := true }
def CodeApartUptoSaid : Prop := codeApartUptoRow.holds Try.pinned (OpenSpec.upto codeApartSpec)

/-- 'avowallaw05.CodeFacts', WHERE WHAT IT READS IS OF BULK AT MOST 1048576: true; the input reads as it did. -/
def codeFactsUptoRow : OpenClaim := { program := "ytfeoafddagdbfaa", sum := "5e55ad77b0af4b7b2689f52da20d2ef94dbf197ad8d20d1f16820509fd4d85af", func := "avowal/avowallaw05.CodeFacts", spec := "codeFacts", unfollowed := true, recurses := true, apart := false, narrowed := true }
def CodeFactsUptoSaid : Prop := codeFactsUptoRow.holds Try.pinned (OpenSpec.upto codeFactsSpec)

/-- 'avowallaw05.CodeBack', WHERE WHAT IT READS IS OF BULK AT MOST 1048576: true; the input reads as it did. -/
def codeBackUptoRow : OpenClaim := { program := "ytfeoafddagdbfaa", sum := "5e55ad77b0af4b7b2689f52da20d2ef94dbf197ad8d20d1f16820509fd4d85af", func := "avowal/avowallaw05.CodeBack", spec := "codeBack", unfollowed := true, recurses := true, apart := false, narrowed := true }
def CodeBackUptoSaid : Prop := codeBackUptoRow.holds Try.pinned (OpenSpec.upto codeBackSpec)

/-- 'avowallaw05.CodeOne', WHERE WHAT IT READS IS OF BULK AT MOST 1048576: true; the input reads as it did. -/
def codeOneUptoRow : OpenClaim := { program := "ytfeoafddagdbfaa", sum := "5e55ad77b0af4b7b2689f52da20d2ef94dbf197ad8d20d1f16820509fd4d85af", func := "avowal/avowallaw05.CodeOne", spec := "codeOne", unfollowed := true, recurses := true, apart := false, narrowed := true }
def CodeOneUptoSaid : Prop := codeOneUptoRow.holds Try.pinned (OpenSpec.upto codeOneSpec)

/-- 'avowallaw05.CodeSames', WHERE WHAT IT READS IS OF BULK AT MOST 1048576: true; the input reads as it did. -/
def codeSamesUptoRow : OpenClaim := { program := "ytfeoafddagdbfaa", sum := "5e55ad77b0af4b7b2689f52da20d2ef94dbf197ad8d20d1f16820509fd4d85af", func := "avowal/avowallaw05.CodeSames", spec := "codeSames", unfollowed := true, recurses := true, apart := false, narrowed := true }
def CodeSamesUptoSaid : Prop := codeSamesUptoRow.holds Try.pinned (OpenSpec.upto codeSamesSpec)

end Rows
end Go.Proofs.Ytfeoafddagdbfaa
