/-
  No cell of these rows narrows 'for every input' (looked for: loops, veiled, ifaces, maps, wideKeys, modest, calm, conditions, laid).
  DERIVED. THE GIVEN ROWS OF THIS SEAT. 9 by the template 'for every input the law returns true; each argument reads behind the call as it read before'; 0 by the template 'total and deterministic' (their statements: YthdjblfiiogmgaaTotals.lean).
  GIVEN WITH THE SEED: the statements are not yours to turn. If you find one false, say at which input.
  Laid BY PROGRAM, IN A SANDBOX (cutbox-rows.mjs): the forced cells as the released guide's own fill.sh prints them over the translation 4667f287b778c83d… (all of the seat's roots in one cut). By AI agents, Wed Nov 11 2026. No macro, syntax, notation, axiom, sorry.
-/
import Derived.Test.YthdjblfiiogmgaaChecked
import GoSem.Claim
import GoSem.ClaimJoined
import GoSem.ClaimMapViews
import Derived.JoinedTies
import Derived.KernelRfl
namespace Go.Proofs.Ythdjblfiiogmgaa
/- THE CELL 'sum', in the pinned program and in every row, IS THE sha256 OF THE DUMP (.gsa) THAT YthdjblfiiogmgaaProg.lean LOADS. Nothing in Lean hashes anything: it is a label: what it is worth is what the hold of that sum in a sandbox is worth. -/
noncomputable def Try.pinned : Pinned := { name := "ythdjblfiiogmgaa", sum := "4667f287b778c83d7efaec80cc61adc38eb08e05d071deff3ba8306d40188050", checked := Try.checked }
namespace Rows
def none {H : Type} : Left H := { results := [], args := [] }

/-- 'avowallaw15.TableOrder': WHATEVER THE INPUT: true; the input reads as it did. -/
def tableOrderSpec : ChangeSpec := { name := "tableOrder", fn := fun _ => fun
  | [d1, d2] => { results := [.lit (.bool true)], args := [d1, d2] }
  | _ => none }
def tableOrderRow : OpenClaim := { program := "ythdjblfiiogmgaa", sum := "4667f287b778c83d7efaec80cc61adc38eb08e05d071deff3ba8306d40188050", func := "avowal/avowallaw15.TableOrder", spec := "tableOrder", inPlace := ["slices.overlaps[avowal/api.Fact]"], unfollowed := true, recurses := true, apart := false }
def TableOrderSaid : Prop := tableOrderRow.holds Try.pinned (OpenSpec.ofChange tableOrderSpec)

/-- ITS FALSE NEIGHBOUR: 'it returns false'. Refute it at one input. -/
def tableOrderWrong : ChangeSpec := { name := "tableOrder", fn := fun _ => fun
  | [d1, d2] => { results := [.lit (.bool false)], args := [d1, d2] }
  | _ => none }
def TableOrderWrongFalsely : Prop := tableOrderRow.holds Try.pinned (OpenSpec.ofChange tableOrderWrong)

/-- 'avowallaw15.TableStops': WHATEVER THE INPUT: true; the input reads as it did. -/
def tableStopsSpec : ChangeSpec := { name := "tableStops", fn := fun _ => fun
  | [d1, d2, d3] => { results := [.lit (.bool true)], args := [d1, d2, d3] }
  | _ => none }
def tableStopsRow : OpenClaim := { program := "ythdjblfiiogmgaa", sum := "4667f287b778c83d7efaec80cc61adc38eb08e05d071deff3ba8306d40188050", func := "avowal/avowallaw15.TableStops", spec := "tableStops", inPlace := ["slices.overlaps[avowal/api.Fact]"], unfollowed := true, recurses := true, apart := false }
def TableStopsSaid : Prop := tableStopsRow.holds Try.pinned (OpenSpec.ofChange tableStopsSpec)

/-- ITS FALSE NEIGHBOUR: 'it returns false'. Refute it at one input. -/
def tableStopsWrong : ChangeSpec := { name := "tableStops", fn := fun _ => fun
  | [d1, d2, d3] => { results := [.lit (.bool false)], args := [d1, d2, d3] }
  | _ => none }
def TableStopsWrongFalsely : Prop := tableStopsRow.holds Try.pinned (OpenSpec.ofChange tableStopsWrong)

/-- 'avowallaw18.TrailKeeps': WHATEVER THE INPUT: true; the input reads as it did. -/
def trailKeepsSpec : ChangeSpec := { name := "trailKeeps", fn := fun _ => fun
  | [d1, d2] => { results := [.lit (.bool true)], args := [d1, d2] }
  | _ => none }
def trailKeepsRow : OpenClaim := { program := "ythdjblfiiogmgaa", sum := "4667f287b778c83d7efaec80cc61adc38eb08e05d071deff3ba8306d40188050", func := "avowal/avowallaw18.TrailKeeps", spec := "trailKeeps", inPlace := ["slices.overlaps[int]"], unfollowed := true, recurses := true, apart := false }
def TrailKeepsSaid : Prop := trailKeepsRow.holds Try.pinned (OpenSpec.ofChange trailKeepsSpec)

/-- ITS FALSE NEIGHBOUR: 'it returns false'. Refute it at one input. -/
def trailKeepsWrong : ChangeSpec := { name := "trailKeeps", fn := fun _ => fun
  | [d1, d2] => { results := [.lit (.bool false)], args := [d1, d2] }
  | _ => none }
def TrailKeepsWrongFalsely : Prop := trailKeepsRow.holds Try.pinned (OpenSpec.ofChange trailKeepsWrong)

/-- 'avowallaw15.TableParts': WHATEVER THE INPUT: true; the input reads as it did. -/
def tablePartsSpec : ChangeSpec := { name := "tableParts", fn := fun _ => fun
  | [d1, d2] => { results := [.lit (.bool true)], args := [d1, d2] }
  | _ => none }
def tablePartsRow : OpenClaim := { program := "ythdjblfiiogmgaa", sum := "4667f287b778c83d7efaec80cc61adc38eb08e05d071deff3ba8306d40188050", func := "avowal/avowallaw15.TableParts", spec := "tableParts", inPlace := ["slices.overlaps[avowal/api.Fact]"], unfollowed := true, recurses := true, apart := false }
def TablePartsSaid : Prop := tablePartsRow.holds Try.pinned (OpenSpec.ofChange tablePartsSpec)

/-- ITS FALSE NEIGHBOUR: 'it returns false'. Refute it at one input. -/
def tablePartsWrong : ChangeSpec := { name := "tableParts", fn := fun _ => fun
  | [d1, d2] => { results := [.lit (.bool false)], args := [d1, d2] }
  | _ => none }
def TablePartsWrongFalsely : Prop := tablePartsRow.holds Try.pinned (OpenSpec.ofChange tablePartsWrong)

/-- 'avowallaw18.TrailFounded': WHATEVER THE INPUT: true; the input reads as it did. -/
def trailFoundedSpec : ChangeSpec := { name := "trailFounded", fn := fun _ => fun
  | [d] => { results := [.lit (.bool true)], args := [d] }
  | _ => none }
def trailFoundedRow : OpenClaim := { program := "ythdjblfiiogmgaa", sum := "4667f287b778c83d7efaec80cc61adc38eb08e05d071deff3ba8306d40188050", func := "avowal/avowallaw18.TrailFounded", spec := "trailFounded", inPlace := ["slices.overlaps[int]"], unfollowed := true, recurses := true, apart := false }
def TrailFoundedSaid : Prop := trailFoundedRow.holds Try.pinned (OpenSpec.ofChange trailFoundedSpec)

/-- ITS FALSE NEIGHBOUR: 'it returns false'. Refute it at one input. -/
def trailFoundedWrong : ChangeSpec := { name := "trailFounded", fn := fun _ => fun
  | [d] => { results := [.lit (.bool false)], args := [d] }
  | _ => none }
def TrailFoundedWrongFalsely : Prop := trailFoundedRow.holds Try.pinned (OpenSpec.ofChange trailFoundedWrong)

/-- 'avowallaw18.TrailDoes': WHATEVER THE INPUT: true; the input reads as it did. -/
def trailDoesSpec : ChangeSpec := { name := "trailDoes", fn := fun _ => fun
  | [d1, d2] => { results := [.lit (.bool true)], args := [d1, d2] }
  | _ => none }
def trailDoesRow : OpenClaim := { program := "ythdjblfiiogmgaa", sum := "4667f287b778c83d7efaec80cc61adc38eb08e05d071deff3ba8306d40188050", func := "avowal/avowallaw18.TrailDoes", spec := "trailDoes", inPlace := ["slices.overlaps[int]"], unfollowed := true, recurses := true, apart := false }
def TrailDoesSaid : Prop := trailDoesRow.holds Try.pinned (OpenSpec.ofChange trailDoesSpec)

/-- ITS FALSE NEIGHBOUR: 'it returns false'. Refute it at one input. -/
def trailDoesWrong : ChangeSpec := { name := "trailDoes", fn := fun _ => fun
  | [d1, d2] => { results := [.lit (.bool false)], args := [d1, d2] }
  | _ => none }
def TrailDoesWrongFalsely : Prop := trailDoesRow.holds Try.pinned (OpenSpec.ofChange trailDoesWrong)

/-- 'avowallaw18.TrailNone': WHATEVER THE INPUT: true; the input reads as it did. -/
def trailNoneSpec : ChangeSpec := { name := "trailNone", fn := fun _ => fun
  | [d] => { results := [.lit (.bool true)], args := [d] }
  | _ => none }
def trailNoneRow : OpenClaim := { program := "ythdjblfiiogmgaa", sum := "4667f287b778c83d7efaec80cc61adc38eb08e05d071deff3ba8306d40188050", func := "avowal/avowallaw18.TrailNone", spec := "trailNone", inPlace := ["slices.overlaps[int]"], unfollowed := true, recurses := true, apart := false }
def TrailNoneSaid : Prop := trailNoneRow.holds Try.pinned (OpenSpec.ofChange trailNoneSpec)

/-- ITS FALSE NEIGHBOUR: 'it returns false'. Refute it at one input. -/
def trailNoneWrong : ChangeSpec := { name := "trailNone", fn := fun _ => fun
  | [d] => { results := [.lit (.bool false)], args := [d] }
  | _ => none }
def TrailNoneWrongFalsely : Prop := trailNoneRow.holds Try.pinned (OpenSpec.ofChange trailNoneWrong)

/-- 'avowallaw15.TableDoes': WHATEVER THE INPUT: true; the input reads as it did. -/
def tableDoesSpec : ChangeSpec := { name := "tableDoes", fn := fun _ => fun
  | [d1, d2] => { results := [.lit (.bool true)], args := [d1, d2] }
  | _ => none }
def tableDoesRow : OpenClaim := { program := "ythdjblfiiogmgaa", sum := "4667f287b778c83d7efaec80cc61adc38eb08e05d071deff3ba8306d40188050", func := "avowal/avowallaw15.TableDoes", spec := "tableDoes", inPlace := ["slices.overlaps[avowal/api.Fact]"], unfollowed := true, recurses := true, apart := false }
def TableDoesSaid : Prop := tableDoesRow.holds Try.pinned (OpenSpec.ofChange tableDoesSpec)

/-- ITS FALSE NEIGHBOUR: 'it returns false'. Refute it at one input. -/
def tableDoesWrong : ChangeSpec := { name := "tableDoes", fn := fun _ => fun
  | [d1, d2] => { results := [.lit (.bool false)], args := [d1, d2] }
  | _ => none }
def TableDoesWrongFalsely : Prop := tableDoesRow.holds Try.pinned (OpenSpec.ofChange tableDoesWrong)

/-- 'avowallaw15.TableNone': WHATEVER THE INPUT: true; the input reads as it did. -/
def tableNoneSpec : ChangeSpec := { name := "tableNone", fn := fun _ => fun
  | [d] => { results := [.lit (.bool true)], args := [d] }
  | _ => none }
def tableNoneRow : OpenClaim := { program := "ythdjblfiiogmgaa", sum := "4667f287b778c83d7efaec80cc61adc38eb08e05d071deff3ba8306d40188050", func := "avowal/avowallaw15.TableNone", spec := "tableNone", inPlace := ["slices.overlaps[avowal/api.Fact]"], unfollowed := true, recurses := true, apart := false }
def TableNoneSaid : Prop := tableNoneRow.holds Try.pinned (OpenSpec.ofChange tableNoneSpec)

/-- ITS FALSE NEIGHBOUR: 'it returns false'. Refute it at one input. -/
def tableNoneWrong : ChangeSpec := { name := "tableNone", fn := fun _ => fun
  | [d] => { results := [.lit (.bool false)], args := [d] }
  | _ => none }
def TableNoneWrongFalsely : Prop := tableNoneRow.holds Try.pinned (OpenSpec.ofChange tableNoneWrong)

/- THE SECOND FORM. 'bulk': how many values and letters a reading holds, each counted each time it is reached (what is shared counts as often as it is met; a slice's spare places count too). A statement '..UptoSaid' is the law's where the arguments, and the package variables that the reading takes, are together of bulk at most 1048576: NARROWER than '..Said'. Prove '..Said' where nothing that the law and all that it calls make is longer than what came in: it says more and counts as full. Else prove '..UptoSaid'. A law counts once. -/
mutual
def uptoBulk {H : Type} : DataW H → Nat
  | .lit (.string bytes) => bytes.length + 1
  | .lit _ => 1
  | .nil => 1
  | .ptr d => uptoBulk d + 1
  | .slice elems spare => uptoBulkAll elems + uptoBulkAll spare + 1
  | .agg parts => uptoBulkAll parts + 1
  | .iface _ d => uptoBulk d + 1
  | .map entries => uptoBulkEntries entries + 1
  | .held _ => 1
def uptoBulkAll {H : Type} : List (DataW H) → Nat
  | [] => 0
  | d :: r => uptoBulk d + uptoBulkAll r
def uptoBulkEntries {H : Type} : List (Lit × DataW H) → Nat
  | [] => 0
  | x :: r => uptoBulkEntry x + uptoBulkEntries r
def uptoBulkEntry {H : Type} : Lit × DataW H → Nat
  | (.string bytes, d) => bytes.length + uptoBulk d + 1
  | (_, d) => uptoBulk d + 1
 end
def uptoSmall : (H : Type) → List (DataW H) → Bool := fun _ ds => decide (uptoBulkAll ds ≤ 1048576)
def OpenSpec.upto (s : _root_.Go.ChangeSpec) : _root_.Go.OpenSpec := { _root_.Go.OpenSpec.ofChange s with cond := some uptoSmall }

/-- 'avowallaw15.TableOrder', WHERE WHAT IT READS IS OF BULK AT MOST 1048576: true; the input reads as it did. -/
def tableOrderUptoRow : OpenClaim := { program := "ythdjblfiiogmgaa", sum := "4667f287b778c83d7efaec80cc61adc38eb08e05d071deff3ba8306d40188050", func := "avowal/avowallaw15.TableOrder", spec := "tableOrder", inPlace := ["slices.overlaps[avowal/api.Fact]"], unfollowed := true, recurses := true, apart := false, narrowed := true }
def TableOrderUptoSaid : Prop := tableOrderUptoRow.holds Try.pinned (OpenSpec.upto tableOrderSpec)

/-- 'avowallaw15.TableStops', WHERE WHAT IT READS IS OF BULK AT MOST 1048576: true; the input reads as it did. -/
def tableStopsUptoRow : OpenClaim := { program := "ythdjblfiiogmgaa", sum := "4667f287b778c83d7efaec80cc61adc38eb08e05d071deff3ba8306d40188050", func := "avowal/avowallaw15.TableStops", spec := "tableStops", inPlace := ["slices.overlaps[avowal/api.Fact]"], unfollowed := true, recurses := true, apart := false, narrowed := true }
def TableStopsUptoSaid : Prop := tableStopsUptoRow.holds Try.pinned (OpenSpec.upto tableStopsSpec)

/-- 'avowallaw18.TrailKeeps', WHERE WHAT IT READS IS OF BULK AT MOST 1048576: true; the input reads as it did. -/
def trailKeepsUptoRow : OpenClaim := { program := "ythdjblfiiogmgaa", sum := "4667f287b778c83d7efaec80cc61adc38eb08e05d071deff3ba8306d40188050", func := "avowal/avowallaw18.TrailKeeps", spec := "trailKeeps", inPlace := ["slices.overlaps[int]"], unfollowed := true, recurses := true, apart := false, narrowed := true }
def TrailKeepsUptoSaid : Prop := trailKeepsUptoRow.holds Try.pinned (OpenSpec.upto trailKeepsSpec)

/-- 'avowallaw15.TableParts', WHERE WHAT IT READS IS OF BULK AT MOST 1048576: true; the input reads as it did. -/
def tablePartsUptoRow : OpenClaim := { program := "ythdjblfiiogmgaa", sum := "4667f287b778c83d7efaec80cc61adc38eb08e05d071deff3ba8306d40188050", func := "avowal/avowallaw15.TableParts", spec := "tableParts", inPlace := ["slices.overlaps[avowal/api.Fact]"], unfollowed := true, recurses := true, apart := false, narrowed := true }
def TablePartsUptoSaid : Prop := tablePartsUptoRow.holds Try.pinned (OpenSpec.upto tablePartsSpec)

/-- 'avowallaw18.TrailFounded', WHERE WHAT IT READS IS OF BULK AT MOST 1048576: true; the input reads as it did. -/
def trailFoundedUptoRow : OpenClaim := { program := "ythdjblfiiogmgaa", sum := "4667f287b778c83d7efaec80cc61adc38eb08e05d071deff3ba8306d40188050", func := "avowal/avowallaw18.TrailFounded", spec := "trailFounded", inPlace := ["slices.overlaps[int]"], unfollowed := true, recurses := true, apart := false, narrowed := true }
def TrailFoundedUptoSaid : Prop := trailFoundedUptoRow.holds Try.pinned (OpenSpec.upto trailFoundedSpec)

/-- 'avowallaw18.TrailDoes', WHERE WHAT IT READS IS OF BULK AT MOST 1048576: true; the input reads as it did. -/
def trailDoesUptoRow : OpenClaim := { program := "ythdjblfiiogmgaa", sum := "4667f287b778c83d7efaec80cc61adc38eb08e05d071deff3ba8306d40188050", func := "avowal/avowallaw18.TrailDoes", spec := "trailDoes", inPlace := ["slices.overlaps[int]"], unfollowed := true, recurses := true, apart := false, narrowed := true }
def TrailDoesUptoSaid : Prop := trailDoesUptoRow.holds Try.pinned (OpenSpec.upto trailDoesSpec)

/-- 'avowallaw18.TrailNone', WHERE WHAT IT READS IS OF BULK AT MOST 1048576: true; the input reads as it did. -/
def trailNoneUptoRow : OpenClaim := { program := "ythdjblfiiogmgaa", sum := "4667f287b778c83d7efaec80cc61adc38eb08e05d071deff3ba8306d40188050", func := "avowal/avowallaw18.TrailNone", spec := "trailNone", inPlace := ["slices.overlaps[int]"], unfollowed := true, recurses := true, apart := false, narrowed := true }
def TrailNoneUptoSaid : Prop := trailNoneUptoRow.holds Try.pinned (OpenSpec.upto trailNoneSpec)

/-- 'avowallaw15.TableDoes', WHERE WHAT IT READS IS OF BULK AT MOST 1048576: true; the input reads as it did. -/
def tableDoesUptoRow : OpenClaim := { program := "ythdjblfiiogmgaa", sum := "4667f287b778c83d7efaec80cc61adc38eb08e05d071deff3ba8306d40188050", func := "avowal/avowallaw15.TableDoes", spec := "tableDoes", inPlace := ["slices.overlaps[avowal/api.Fact]"], unfollowed := true, recurses := true, apart := false, narrowed := true }
def TableDoesUptoSaid : Prop := tableDoesUptoRow.holds Try.pinned (OpenSpec.upto tableDoesSpec)

/-- 'avowallaw15.TableNone', WHERE WHAT IT READS IS OF BULK AT MOST 1048576: true; the input reads as it did. -/
def tableNoneUptoRow : OpenClaim := { program := "ythdjblfiiogmgaa", sum := "4667f287b778c83d7efaec80cc61adc38eb08e05d071deff3ba8306d40188050", func := "avowal/avowallaw15.TableNone", spec := "tableNone", inPlace := ["slices.overlaps[avowal/api.Fact]"], unfollowed := true, recurses := true, apart := false, narrowed := true }
def TableNoneUptoSaid : Prop := tableNoneUptoRow.holds Try.pinned (OpenSpec.upto tableNoneSpec)

end Rows
end Go.Proofs.Ythdjblfiiogmgaa
