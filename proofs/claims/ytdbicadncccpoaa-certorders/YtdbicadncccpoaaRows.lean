/-
  No cell of these rows narrows 'for every input' (looked for: loops, veiled, ifaces, maps, wideKeys, modest, calm, conditions, laid).
  DERIVED. THE GIVEN ROWS OF THIS SEAT. 5 by the template 'for every input the law returns true; each argument reads behind the call as it read before'; 0 by the template 'total and deterministic' (their statements: YtdbicadncccpoaaTotals.lean).
  GIVEN WITH THE SEED: the statements are not yours to turn. If you find one false, say at which input.
  Laid BY PROGRAM, IN A SANDBOX (cutbox-rows.mjs): the forced cells as the released guide's own fill.sh prints them over the translation 71781eb65577337c… (all of the seat's roots in one cut). By AI agents, Wed Nov 11 2026. No macro, syntax, notation, axiom, sorry.
-/
import Derived.Test.YtdbicadncccpoaaChecked
import GoSem.Claim
import GoSem.ClaimJoined
import GoSem.ClaimMapViews
import Derived.JoinedTies
import Derived.KernelRfl
namespace Go.Proofs.Ytdbicadncccpoaa
/- THE CELL 'sum', in the pinned program and in every row, IS THE sha256 OF THE DUMP (.gsa) THAT YtdbicadncccpoaaProg.lean LOADS. Nothing in Lean hashes anything: it is a label: what it is worth is what the hold of that sum in a sandbox is worth. -/
noncomputable def Try.pinned : Pinned := { name := "ytdbicadncccpoaa", sum := "71781eb65577337c1b5384ec2d82990270afcd5637c7c343d8cb48335e733d6f", checked := Try.checked }
namespace Rows
def none {H : Type} : Left H := { results := [], args := [] }

/-- 'avowallaw21.MailPuts': WHATEVER THE INPUT: true; the input reads as it did. -/
def mailPutsSpec : ChangeSpec := { name := "mailPuts", fn := fun _ => fun
  | [d1, d2] => { results := [.lit (.bool true)], args := [d1, d2] }
  | _ => none }
def mailPutsRow : OpenClaim := { program := "ytdbicadncccpoaa", sum := "71781eb65577337c1b5384ec2d82990270afcd5637c7c343d8cb48335e733d6f", func := "avowal/avowallaw21.MailPuts", spec := "mailPuts", apart := false }
def MailPutsSaid : Prop := mailPutsRow.holds Try.pinned (OpenSpec.ofChange mailPutsSpec)

/-- ITS FALSE NEIGHBOUR: 'it returns false'. Refute it at one input. -/
def mailPutsWrong : ChangeSpec := { name := "mailPuts", fn := fun _ => fun
  | [d1, d2] => { results := [.lit (.bool false)], args := [d1, d2] }
  | _ => none }
def MailPutsWrongFalsely : Prop := mailPutsRow.holds Try.pinned (OpenSpec.ofChange mailPutsWrong)

/-- 'avowallaw19.CertNobody': WHATEVER THE INPUT: true; the input reads as it did. -/
def certNobodySpec : ChangeSpec := { name := "certNobody", fn := fun _ => fun
  | [d1, d2] => { results := [.lit (.bool true)], args := [d1, d2] }
  | _ => none }
def certNobodyRow : OpenClaim := { program := "ytdbicadncccpoaa", sum := "71781eb65577337c1b5384ec2d82990270afcd5637c7c343d8cb48335e733d6f", func := "avowal/avowallaw19.CertNobody", spec := "certNobody", inPlace := ["slices.overlaps[avowal/api.Fact]", "slices.overlaps[int]"], unfollowed := true, recurses := true, apart := false }
def CertNobodySaid : Prop := certNobodyRow.holds Try.pinned (OpenSpec.ofChange certNobodySpec)

/-- ITS FALSE NEIGHBOUR: 'it returns false'. Refute it at one input. -/
def certNobodyWrong : ChangeSpec := { name := "certNobody", fn := fun _ => fun
  | [d1, d2] => { results := [.lit (.bool false)], args := [d1, d2] }
  | _ => none }
def CertNobodyWrongFalsely : Prop := certNobodyRow.holds Try.pinned (OpenSpec.ofChange certNobodyWrong)

/-- 'avowallaw19.CertMakes': WHATEVER THE INPUT: true; the input reads as it did. -/
def certMakesSpec : ChangeSpec := { name := "certMakes", fn := fun _ => fun
  | [d1, d2, d3] => { results := [.lit (.bool true)], args := [d1, d2, d3] }
  | _ => none }
def certMakesRow : OpenClaim := { program := "ytdbicadncccpoaa", sum := "71781eb65577337c1b5384ec2d82990270afcd5637c7c343d8cb48335e733d6f", func := "avowal/avowallaw19.CertMakes", spec := "certMakes", inPlace := ["slices.overlaps[int]", "slices.overlaps[avowal/api.Fact]"], unfollowed := true, recurses := true, apart := false }
def CertMakesSaid : Prop := certMakesRow.holds Try.pinned (OpenSpec.ofChange certMakesSpec)

/-- ITS FALSE NEIGHBOUR: 'it returns false'. Refute it at one input. -/
def certMakesWrong : ChangeSpec := { name := "certMakes", fn := fun _ => fun
  | [d1, d2, d3] => { results := [.lit (.bool false)], args := [d1, d2, d3] }
  | _ => none }
def CertMakesWrongFalsely : Prop := certMakesRow.holds Try.pinned (OpenSpec.ofChange certMakesWrong)

/-- 'avowallaw19.CertOrders': WHATEVER THE INPUT: true; the input reads as it did. -/
def certOrdersSpec : ChangeSpec := { name := "certOrders", fn := fun _ => fun
  | [d1, d2] => { results := [.lit (.bool true)], args := [d1, d2] }
  | _ => none }
def certOrdersRow : OpenClaim := { program := "ytdbicadncccpoaa", sum := "71781eb65577337c1b5384ec2d82990270afcd5637c7c343d8cb48335e733d6f", func := "avowal/avowallaw19.CertOrders", spec := "certOrders", inPlace := ["slices.overlaps[int]", "slices.overlaps[avowal/api.Fact]"], unfollowed := true, recurses := true, apart := false }
def CertOrdersSaid : Prop := certOrdersRow.holds Try.pinned (OpenSpec.ofChange certOrdersSpec)

/-- ITS FALSE NEIGHBOUR: 'it returns false'. Refute it at one input. -/
def certOrdersWrong : ChangeSpec := { name := "certOrders", fn := fun _ => fun
  | [d1, d2] => { results := [.lit (.bool false)], args := [d1, d2] }
  | _ => none }
def CertOrdersWrongFalsely : Prop := certOrdersRow.holds Try.pinned (OpenSpec.ofChange certOrdersWrong)

/-- 'avowallaw19.CertBack': WHATEVER THE INPUT: true; the input reads as it did. -/
def certBackSpec : ChangeSpec := { name := "certBack", fn := fun _ => fun
  | [d1, d2] => { results := [.lit (.bool true)], args := [d1, d2] }
  | _ => none }
def certBackRow : OpenClaim := { program := "ytdbicadncccpoaa", sum := "71781eb65577337c1b5384ec2d82990270afcd5637c7c343d8cb48335e733d6f", func := "avowal/avowallaw19.CertBack", spec := "certBack", inPlace := ["slices.overlaps[int]", "slices.overlaps[avowal/api.Fact]"], unfollowed := true, recurses := true, apart := false }
def CertBackSaid : Prop := certBackRow.holds Try.pinned (OpenSpec.ofChange certBackSpec)

/-- ITS FALSE NEIGHBOUR: 'it returns false'. Refute it at one input. -/
def certBackWrong : ChangeSpec := { name := "certBack", fn := fun _ => fun
  | [d1, d2] => { results := [.lit (.bool false)], args := [d1, d2] }
  | _ => none }
def CertBackWrongFalsely : Prop := certBackRow.holds Try.pinned (OpenSpec.ofChange certBackWrong)

/- THE SECOND FORM. 'bulk': how many values and letters a reading holds, each counted each time it is reached (what is shared counts as often as it is met; a slice's spare places count too). A statement '..UptoSaid' is the law's where the arguments, and the package variables that the reading takes, are together of bulk at most 1048576: NARROWER than '..Said'. Prove '..Said' where nothing that the law and all that it calls make is longer than what came in: it says more and counts as full. Else prove '..UptoSaid'. A law counts once. -/
mutual
def uptoBulk {H : Type} : DataW H → Nat
  | .lit (.string bytes) => bytes.length + 1
  | .lit _ => 1
  | .nil => 1
  | .ptr d => uptoBulk d + 1
  | .slice elems spare => uptoBulkAll elems + uptoBulkAll spare + 1
  | .agg parts => uptoBulkAll parts + 1
  | .iface _ d => uptoBulk d + 1
  | .map entries => uptoBulkEntries entries + 1
  | .held _ => 1
def uptoBulkAll {H : Type} : List (DataW H) → Nat
  | [] => 0
  | d :: r => uptoBulk d + uptoBulkAll r
def uptoBulkEntries {H : Type} : List (Lit × DataW H) → Nat
  | [] => 0
  | x :: r => uptoBulkEntry x + uptoBulkEntries r
def uptoBulkEntry {H : Type} : Lit × DataW H → Nat
  | (.string bytes, d) => bytes.length + uptoBulk d + 1
  | (_, d) => uptoBulk d + 1
 end
def uptoSmall : (H : Type) → List (DataW H) → Bool := fun _ ds => decide (uptoBulkAll ds ≤ 1048576)
def OpenSpec.upto (s : _root_.Go.ChangeSpec) : _root_.Go.OpenSpec := { _root_.Go.OpenSpec.ofChange s with cond := some uptoSmall }

/-- 'avowallaw21.MailPuts', WHERE WHAT IT READS IS OF BULK AT MOST 1048576: true; the input reads as it did. -/
def mailPutsUptoRow : OpenClaim := { program := "ytdbicadncccpoaa", sum := "71781eb65577337c1b5384ec2d82990270afcd5637c7c343d8cb48335e733d6f", func := "avowal/avowallaw21.MailPuts", spec := "mailPuts", apart := false, narrowed := true }
def MailPutsUptoSaid : Prop := mailPutsUptoRow.holds Try.pinned (OpenSpec.upto mailPutsSpec)

/-- 'avowallaw19.CertNobody', WHERE WHAT IT READS IS OF BULK AT MOST 1048576: true; the input reads as it did. -/
def certNobodyUptoRow : OpenClaim := { program := "ytdbicadncccpoaa", sum := "71781eb65577337c1b5384ec2d82990270afcd5637c7c343d8cb48335e733d6f", func := "avowal/avowallaw19.CertNobody", spec := "certNobody", inPlace := ["slices.overlaps[avowal/api.Fact]", "slices.overlaps[int]"], unfollowed := true, recurses := true, apart := false, narrowed := true }
def CertNobodyUptoSaid : Prop := certNobodyUptoRow.holds Try.pinned (OpenSpec.upto certNobodySpec)

/-- 'avowallaw19.CertMakes', WHERE WHAT IT READS IS OF BULK AT MOST 1048576: true; the input reads as it did. -/
def certMakesUptoRow : OpenClaim := { program := "ytdbicadncccpoaa", sum := "71781eb65577337c1b5384ec2d82990270afcd5637c7c343d8cb48335e733d6f", func := "avowal/avowallaw19.CertMakes", spec := "certMakes", inPlace := ["slices.overlaps[int]", "slices.overlaps[avowal/api.Fact]"], unfollowed := true, recurses := true, apart := false, narrowed := true }
def CertMakesUptoSaid : Prop := certMakesUptoRow.holds Try.pinned (OpenSpec.upto certMakesSpec)

/-- 'avowallaw19.CertOrders', WHERE WHAT IT READS IS OF BULK AT MOST 1048576: true; the input reads as it did. -/
def certOrdersUptoRow : OpenClaim := { program := "ytdbicadncccpoaa", sum := "71781eb65577337c1b5384ec2d82990270afcd5637c7c343d8cb48335e733d6f", func := "avowal/avowallaw19.CertOrders", spec := "certOrders", inPlace := ["slices.overlaps[int]", "slices.overlaps[avowal/api.Fact]"], unfollowed := true, recurses := true, apart := false, narrowed := true }
def CertOrdersUptoSaid : Prop := certOrdersUptoRow.holds Try.pinned (OpenSpec.upto certOrdersSpec)

/-- 'avowallaw19.CertBack', WHERE WHAT IT READS IS OF BULK AT MOST 1048576: true; the input reads as it did. -/
def certBackUptoRow : OpenClaim := { program := "ytdbicadncccpoaa", sum := "71781eb65577337c1b5384ec2d82990270afcd5637c7c343d8cb48335e733d6f", func := "avowal/avowallaw19.CertBack", spec := "certBack", inPlace := ["slices.overlaps[int]", "slices.overlaps[avowal/api.Fact]"], unfollowed := true, recurses := true, apart := false, narrowed := true }
def CertBackUptoSaid : Prop := certBackUptoRow.holds Try.pinned (OpenSpec.upto certBackSpec)

end Rows
end Go.Proofs.Ytdbicadncccpoaa
