/-
  NARROWER THAN 'FOR EVERY INPUT', by the rows' own cells (each row's printed sentence says how): MacTags: laid · MacEquals: laid · MacDomains: laid · MacLong: laid · MacKeys: laid · RingFull: laid · RingPlays: laid · RingSigns: laid · RingNone: laid.
  DERIVED. THE GIVEN ROWS OF THIS SEAT. 9 by the template 'for every input the law returns true; each argument reads behind the call as it read before'; 0 by the template 'total and deterministic' (their statements: YtjpjnhljmloofaaDoorTotals.lean).
  GIVEN WITH THE SEED: the statements are not yours to turn. If you find one false, say at which input.
  Laid BY PROGRAM, IN A SANDBOX (cutbox-rows.mjs): the forced cells as the released guide's own fill.sh prints them over the translation 8de2f9248d0b09d5… (all of the seat's roots in one cut). By AI agents, Wed Nov 11 2026. No macro, syntax, notation, axiom, sorry.
-/
import Derived.Test.YtjpjnhljmloofaaDoorChecked
import GoSem.Claim
import GoSem.ClaimJoined
import GoSem.ClaimMapViews
import Derived.JoinedTies
import Derived.KernelRfl
namespace Go.Proofs.YtjpjnhljmloofaaDoor
/- THE CELL 'sum', in the pinned program and in every row, IS THE sha256 OF THE DUMP (.gsa) THAT YtjpjnhljmloofaaDoorProg.lean LOADS. Nothing in Lean hashes anything: it is a label: what it is worth is what the hold of that sum in a sandbox is worth. -/
noncomputable def Tryd.pinned : Pinned := { name := "ytjpjnhljmloofaadoor", sum := "8de2f9248d0b09d5ade44c8b83b65498ffc4ef7445334ff7ee70e721e01be90b", checked := Tryd.checked }
namespace Rows
def none {H : Type} : Left H := { results := [], args := [] }

/- WHAT THE LISTED PACKAGE-LEVEL VARIABLES READ AS WHEN THE CALL BEGINS. Each datum BY PROGRAM (the guide's laid-datum.mjs) off the statement by which the dump's own 'gosem.cut.vars' lays the variable. In a bare row this is a premise. The card (YtjpjnhljmloofaaDoorCards.lean) ties it to the program's text. -/
def laid_avowal_hash_first {H : Type} : DataW H := .agg [.lit (.int .u32 1779033703), .lit (.int .u32 3144134277), .lit (.int .u32 1013904242), .lit (.int .u32 2773480762), .lit (.int .u32 1359893119), .lit (.int .u32 2600822924), .lit (.int .u32 528734635), .lit (.int .u32 1541459225)]
def laid_avowal_hash_rounds {H : Type} : DataW H := .agg [.lit (.int .u32 1116352408), .lit (.int .u32 1899447441), .lit (.int .u32 3049323471), .lit (.int .u32 3921009573), .lit (.int .u32 961987163), .lit (.int .u32 1508970993), .lit (.int .u32 2453635748), .lit (.int .u32 2870763221), .lit (.int .u32 3624381080), .lit (.int .u32 310598401), .lit (.int .u32 607225278), .lit (.int .u32 1426881987), .lit (.int .u32 1925078388), .lit (.int .u32 2162078206), .lit (.int .u32 2614888103), .lit (.int .u32 3248222580), .lit (.int .u32 3835390401), .lit (.int .u32 4022224774), .lit (.int .u32 264347078), .lit (.int .u32 604807628), .lit (.int .u32 770255983), .lit (.int .u32 1249150122), .lit (.int .u32 1555081692), .lit (.int .u32 1996064986), .lit (.int .u32 2554220882), .lit (.int .u32 2821834349), .lit (.int .u32 2952996808), .lit (.int .u32 3210313671), .lit (.int .u32 3336571891), .lit (.int .u32 3584528711), .lit (.int .u32 113926993), .lit (.int .u32 338241895), .lit (.int .u32 666307205), .lit (.int .u32 773529912), .lit (.int .u32 1294757372), .lit (.int .u32 1396182291), .lit (.int .u32 1695183700), .lit (.int .u32 1986661051), .lit (.int .u32 2177026350), .lit (.int .u32 2456956037), .lit (.int .u32 2730485921), .lit (.int .u32 2820302411), .lit (.int .u32 3259730800), .lit (.int .u32 3345764771), .lit (.int .u32 3516065817), .lit (.int .u32 3600352804), .lit (.int .u32 4094571909), .lit (.int .u32 275423344), .lit (.int .u32 430227734), .lit (.int .u32 506948616), .lit (.int .u32 659060556), .lit (.int .u32 883997877), .lit (.int .u32 958139571), .lit (.int .u32 1322822218), .lit (.int .u32 1537002063), .lit (.int .u32 1747873779), .lit (.int .u32 1955562222), .lit (.int .u32 2024104815), .lit (.int .u32 2227730452), .lit (.int .u32 2361852424), .lit (.int .u32 2428436474), .lit (.int .u32 2756734187), .lit (.int .u32 3204031479), .lit (.int .u32 3329325298)]

/-- 'avowallaw03.MacTags': WHATEVER THE INPUT: true; the input reads as it did. -/
def macTagsSpec : ChangeSpec := { name := "macTags", fn := fun _ => fun
  | [d1, d2, d3] => { results := [.lit (.bool true)], args := [d1, d2, d3] }
  | _ => none }
def macTagsRow : OpenClaim := { program := "ytjpjnhljmloofaadoor", sum := "8de2f9248d0b09d5ade44c8b83b65498ffc4ef7445334ff7ee70e721e01be90b", func := "avowal/avowallaw03.MacTags", spec := "macTags", named := ["avowal/hash.first", "avowal/hash.rounds"], plainKeys := false, apart := false, laid := [("avowal/hash.first", laid_avowal_hash_first), ("avowal/hash.rounds", laid_avowal_hash_rounds)] }
def MacTagsSaid : Prop := macTagsRow.holds Tryd.pinned (OpenSpec.ofChange macTagsSpec)

/-- ITS FALSE NEIGHBOUR: 'it returns false'. Refute it at one input. -/
def macTagsWrong : ChangeSpec := { name := "macTags", fn := fun _ => fun
  | [d1, d2, d3] => { results := [.lit (.bool false)], args := [d1, d2, d3] }
  | _ => none }
def MacTagsWrongFalsely : Prop := macTagsRow.holds Tryd.pinned (OpenSpec.ofChange macTagsWrong)

/-- 'avowallaw03.MacEquals': WHATEVER THE INPUT: true; the input reads as it did. -/
def macEqualsSpec : ChangeSpec := { name := "macEquals", fn := fun _ => fun
  | [d1, d2] => { results := [.lit (.bool true)], args := [d1, d2] }
  | _ => none }
def macEqualsRow : OpenClaim := { program := "ytjpjnhljmloofaadoor", sum := "8de2f9248d0b09d5ade44c8b83b65498ffc4ef7445334ff7ee70e721e01be90b", func := "avowal/avowallaw03.MacEquals", spec := "macEquals", named := ["avowal/hash.first", "avowal/hash.rounds"], plainKeys := false, apart := false, laid := [("avowal/hash.first", laid_avowal_hash_first), ("avowal/hash.rounds", laid_avowal_hash_rounds)] }
def MacEqualsSaid : Prop := macEqualsRow.holds Tryd.pinned (OpenSpec.ofChange macEqualsSpec)

/-- ITS FALSE NEIGHBOUR: 'it returns false'. Refute it at one input. -/
def macEqualsWrong : ChangeSpec := { name := "macEquals", fn := fun _ => fun
  | [d1, d2] => { results := [.lit (.bool false)], args := [d1, d2] }
  | _ => none }
def MacEqualsWrongFalsely : Prop := macEqualsRow.holds Tryd.pinned (OpenSpec.ofChange macEqualsWrong)

/-- 'avowallaw03.MacDomains': WHATEVER THE INPUT: true; the input reads as it did. -/
def macDomainsSpec : ChangeSpec := { name := "macDomains", fn := fun _ => fun
  | [d1, d2, d3] => { results := [.lit (.bool true)], args := [d1, d2, d3] }
  | _ => none }
def macDomainsRow : OpenClaim := { program := "ytjpjnhljmloofaadoor", sum := "8de2f9248d0b09d5ade44c8b83b65498ffc4ef7445334ff7ee70e721e01be90b", func := "avowal/avowallaw03.MacDomains", spec := "macDomains", named := ["avowal/hash.first", "avowal/hash.rounds"], plainKeys := false, apart := false, laid := [("avowal/hash.first", laid_avowal_hash_first), ("avowal/hash.rounds", laid_avowal_hash_rounds)] }
def MacDomainsSaid : Prop := macDomainsRow.holds Tryd.pinned (OpenSpec.ofChange macDomainsSpec)

/-- ITS FALSE NEIGHBOUR: 'it returns false'. Refute it at one input. -/
def macDomainsWrong : ChangeSpec := { name := "macDomains", fn := fun _ => fun
  | [d1, d2, d3] => { results := [.lit (.bool false)], args := [d1, d2, d3] }
  | _ => none }
def MacDomainsWrongFalsely : Prop := macDomainsRow.holds Tryd.pinned (OpenSpec.ofChange macDomainsWrong)

/-- 'avowallaw03.MacLong': WHATEVER THE INPUT: true; the input reads as it did. -/
def macLongSpec : ChangeSpec := { name := "macLong", fn := fun _ => fun
  | [d1, d2, d3] => { results := [.lit (.bool true)], args := [d1, d2, d3] }
  | _ => none }
def macLongRow : OpenClaim := { program := "ytjpjnhljmloofaadoor", sum := "8de2f9248d0b09d5ade44c8b83b65498ffc4ef7445334ff7ee70e721e01be90b", func := "avowal/avowallaw03.MacLong", spec := "macLong", named := ["avowal/hash.first", "avowal/hash.rounds"], plainKeys := false, apart := false, laid := [("avowal/hash.first", laid_avowal_hash_first), ("avowal/hash.rounds", laid_avowal_hash_rounds)] }
def MacLongSaid : Prop := macLongRow.holds Tryd.pinned (OpenSpec.ofChange macLongSpec)

/-- ITS FALSE NEIGHBOUR: 'it returns false'. Refute it at one input. -/
def macLongWrong : ChangeSpec := { name := "macLong", fn := fun _ => fun
  | [d1, d2, d3] => { results := [.lit (.bool false)], args := [d1, d2, d3] }
  | _ => none }
def MacLongWrongFalsely : Prop := macLongRow.holds Tryd.pinned (OpenSpec.ofChange macLongWrong)

/-- 'avowallaw03.MacKeys': WHATEVER THE INPUT: true; the input reads as it did. -/
def macKeysSpec : ChangeSpec := { name := "macKeys", fn := fun _ => fun
  | [d1, d2] => { results := [.lit (.bool true)], args := [d1, d2] }
  | _ => none }
def macKeysRow : OpenClaim := { program := "ytjpjnhljmloofaadoor", sum := "8de2f9248d0b09d5ade44c8b83b65498ffc4ef7445334ff7ee70e721e01be90b", func := "avowal/avowallaw03.MacKeys", spec := "macKeys", named := ["avowal/hash.first", "avowal/hash.rounds"], plainKeys := false, apart := false, laid := [("avowal/hash.first", laid_avowal_hash_first), ("avowal/hash.rounds", laid_avowal_hash_rounds)] }
def MacKeysSaid : Prop := macKeysRow.holds Tryd.pinned (OpenSpec.ofChange macKeysSpec)

/-- ITS FALSE NEIGHBOUR: 'it returns false'. Refute it at one input. -/
def macKeysWrong : ChangeSpec := { name := "macKeys", fn := fun _ => fun
  | [d1, d2] => { results := [.lit (.bool false)], args := [d1, d2] }
  | _ => none }
def MacKeysWrongFalsely : Prop := macKeysRow.holds Tryd.pinned (OpenSpec.ofChange macKeysWrong)

/-- 'avowallaw06.RingFull': WHATEVER THE INPUT: true; the input reads as it did. -/
def ringFullSpec : ChangeSpec := { name := "ringFull", fn := fun _ => fun
  | [] => { results := [.lit (.bool true)], args := [] }
  | _ => none }
def ringFullRow : OpenClaim := { program := "ytjpjnhljmloofaadoor", sum := "8de2f9248d0b09d5ade44c8b83b65498ffc4ef7445334ff7ee70e721e01be90b", func := "avowal/avowallaw06.RingFull", spec := "ringFull", named := ["avowal/hash.first", "avowal/hash.rounds"], plainKeys := false, apart := false, laid := [("avowal/hash.first", laid_avowal_hash_first), ("avowal/hash.rounds", laid_avowal_hash_rounds)] }
def RingFullSaid : Prop := ringFullRow.holds Tryd.pinned (OpenSpec.ofChange ringFullSpec)

/-- ITS FALSE NEIGHBOUR: 'it returns false'. Refute it at one input. -/
def ringFullWrong : ChangeSpec := { name := "ringFull", fn := fun _ => fun
  | [] => { results := [.lit (.bool false)], args := [] }
  | _ => none }
def RingFullWrongFalsely : Prop := ringFullRow.holds Tryd.pinned (OpenSpec.ofChange ringFullWrong)

/-- 'avowallaw06.RingPlays': WHATEVER THE INPUT: true; the input reads as it did. -/
def ringPlaysSpec : ChangeSpec := { name := "ringPlays", fn := fun _ => fun
  | [d1, d2, d3] => { results := [.lit (.bool true)], args := [d1, d2, d3] }
  | _ => none }
def ringPlaysRow : OpenClaim := { program := "ytjpjnhljmloofaadoor", sum := "8de2f9248d0b09d5ade44c8b83b65498ffc4ef7445334ff7ee70e721e01be90b", func := "avowal/avowallaw06.RingPlays", spec := "ringPlays", named := ["avowal/hash.first", "avowal/hash.rounds"], plainKeys := false, apart := false, laid := [("avowal/hash.first", laid_avowal_hash_first), ("avowal/hash.rounds", laid_avowal_hash_rounds)] }
def RingPlaysSaid : Prop := ringPlaysRow.holds Tryd.pinned (OpenSpec.ofChange ringPlaysSpec)

/-- ITS FALSE NEIGHBOUR: 'it returns false'. Refute it at one input. -/
def ringPlaysWrong : ChangeSpec := { name := "ringPlays", fn := fun _ => fun
  | [d1, d2, d3] => { results := [.lit (.bool false)], args := [d1, d2, d3] }
  | _ => none }
def RingPlaysWrongFalsely : Prop := ringPlaysRow.holds Tryd.pinned (OpenSpec.ofChange ringPlaysWrong)

/-- 'avowallaw06.RingSigns': WHATEVER THE INPUT: true; the input reads as it did. -/
def ringSignsSpec : ChangeSpec := { name := "ringSigns", fn := fun _ => fun
  | [d1, d2, d3] => { results := [.lit (.bool true)], args := [d1, d2, d3] }
  | _ => none }
def ringSignsRow : OpenClaim := { program := "ytjpjnhljmloofaadoor", sum := "8de2f9248d0b09d5ade44c8b83b65498ffc4ef7445334ff7ee70e721e01be90b", func := "avowal/avowallaw06.RingSigns", spec := "ringSigns", named := ["avowal/hash.first", "avowal/hash.rounds"], plainKeys := false, apart := false, laid := [("avowal/hash.first", laid_avowal_hash_first), ("avowal/hash.rounds", laid_avowal_hash_rounds)] }
def RingSignsSaid : Prop := ringSignsRow.holds Tryd.pinned (OpenSpec.ofChange ringSignsSpec)

/-- ITS FALSE NEIGHBOUR: 'it returns false'. Refute it at one input. -/
def ringSignsWrong : ChangeSpec := { name := "ringSigns", fn := fun _ => fun
  | [d1, d2, d3] => { results := [.lit (.bool false)], args := [d1, d2, d3] }
  | _ => none }
def RingSignsWrongFalsely : Prop := ringSignsRow.holds Tryd.pinned (OpenSpec.ofChange ringSignsWrong)

/-- 'avowallaw06.RingNone': WHATEVER THE INPUT: true; the input reads as it did. -/
def ringNoneSpec : ChangeSpec := { name := "ringNone", fn := fun _ => fun
  | [d] => { results := [.lit (.bool true)], args := [d] }
  | _ => none }
def ringNoneRow : OpenClaim := { program := "ytjpjnhljmloofaadoor", sum := "8de2f9248d0b09d5ade44c8b83b65498ffc4ef7445334ff7ee70e721e01be90b", func := "avowal/avowallaw06.RingNone", spec := "ringNone", named := ["avowal/hash.first", "avowal/hash.rounds"], plainKeys := false, apart := false, laid := [("avowal/hash.first", laid_avowal_hash_first), ("avowal/hash.rounds", laid_avowal_hash_rounds)] }
def RingNoneSaid : Prop := ringNoneRow.holds Tryd.pinned (OpenSpec.ofChange ringNoneSpec)

/-- ITS FALSE NEIGHBOUR: 'it returns false'. Refute it at one input. -/
def ringNoneWrong : ChangeSpec := { name := "ringNone", fn := fun _ => fun
  | [d] => { results := [.lit (.bool false)], args := [d] }
  | _ => none }
def RingNoneWrongFalsely : Prop := ringNoneRow.holds Tryd.pinned (OpenSpec.ofChange ringNoneWrong)

/- THE SECOND FORM. 'bulk': how many values and letters a reading holds, each counted each time it is reached (what is shared counts as often as it is met; a slice's spare places count too). A statement '..UptoSaid' is the law's where the arguments, and the package variables that the reading takes, are together of bulk at most 1048576: NARROWER than '..Said'. Prove '..Said' where nothing that the law and all that it calls make is longer than what came in: it says more and counts as full. Else prove '..UptoSaid'. A law counts once. -/
mutual
def uptoBulk {H : Type} : DataW H → Nat
  | .lit (.string bytes) => bytes.length + 1
  | .lit _ => 1
  | .nil => 1
  | .ptr d => uptoBulk d + 1
  | .slice elems spare => uptoBulkAll elems + uptoBulkAll spare + 1
  | .agg parts => uptoBulkAll parts + 1
  | .iface _ d => uptoBulk d + 1
  | .map entries => uptoBulkEntries entries + 1
  | .held _ => 1
def uptoBulkAll {H : Type} : List (DataW H) → Nat
  | [] => 0
  | d :: r => uptoBulk d + uptoBulkAll r
def uptoBulkEntries {H : Type} : List (Lit × DataW H) → Nat
  | [] => 0
  | x :: r => uptoBulkEntry x + uptoBulkEntries r
def uptoBulkEntry {H : Type} : Lit × DataW H → Nat
  | (.string bytes, d) => bytes.length + uptoBulk d + 1
  | (_, d) => uptoBulk d + 1
 end
def uptoSmall : (H : Type) → List (DataW H) → Bool := fun _ ds => decide (uptoBulkAll ds ≤ 1048576)
def OpenSpec.upto (s : _root_.Go.ChangeSpec) : _root_.Go.OpenSpec := { _root_.Go.OpenSpec.ofChange s with cond := some uptoSmall }

/-- 'avowallaw03.MacTags', WHERE WHAT IT READS IS OF BULK AT MOST 1048576: true; the input reads as it did. -/
def macTagsUptoRow : OpenClaim := { program := "ytjpjnhljmloofaadoor", sum := "8de2f9248d0b09d5ade44c8b83b65498ffc4ef7445334ff7ee70e721e01be90b", func := "avowal/avowallaw03.MacTags", spec := "macTags", named := ["avowal/hash.first", "avowal/hash.rounds"], plainKeys := false, apart := false, laid := [("avowal/hash.first", laid_avowal_hash_first), ("avowal/hash.rounds", laid_avowal_hash_rounds)], narrowed := true }
def MacTagsUptoSaid : Prop := macTagsUptoRow.holds Tryd.pinned (OpenSpec.upto macTagsSpec)

/-- 'avowallaw03.MacEquals', WHERE WHAT IT READS IS OF BULK AT MOST 1048576: true; the input reads as it did. -/
def macEqualsUptoRow : OpenClaim := { program := "ytjpjnhljmloofaadoor", sum := "8de2f9248d0b09d5ade44c8b83b65498ffc4ef7445334ff7ee70e721e01be90b", func := "avowal/avowallaw03.MacEquals", spec := "macEquals", named := ["avowal/hash.first", "avowal/hash.rounds"], plainKeys := false, apart := false, laid := [("avowal/hash.first", laid_avowal_hash_first), ("avowal/hash.rounds", laid_avowal_hash_rounds)], narrowed := true }
def MacEqualsUptoSaid : Prop := macEqualsUptoRow.holds Tryd.pinned (OpenSpec.upto macEqualsSpec)

/-- 'avowallaw03.MacDomains', WHERE WHAT IT READS IS OF BULK AT MOST 1048576: true; the input reads as it did. -/
def macDomainsUptoRow : OpenClaim := { program := "ytjpjnhljmloofaadoor", sum := "8de2f9248d0b09d5ade44c8b83b65498ffc4ef7445334ff7ee70e721e01be90b", func := "avowal/avowallaw03.MacDomains", spec := "macDomains", named := ["avowal/hash.first", "avowal/hash.rounds"], plainKeys := false, apart := false, laid := [("avowal/hash.first", laid_avowal_hash_first), ("avowal/hash.rounds", laid_avowal_hash_rounds)], narrowed := true }
def MacDomainsUptoSaid : Prop := macDomainsUptoRow.holds Tryd.pinned (OpenSpec.upto macDomainsSpec)

/-- 'avowallaw03.MacLong', WHERE WHAT IT READS IS OF BULK AT MOST 1048576: true; the input reads as it did. -/
def macLongUptoRow : OpenClaim := { program := "ytjpjnhljmloofaadoor", sum := "8de2f9248d0b09d5ade44c8b83b65498ffc4ef7445334ff7ee70e721e01be90b", func := "avowal/avowallaw03.MacLong", spec := "macLong", named := ["avowal/hash.first", "avowal/hash.rounds"], plainKeys := false, apart := false, laid := [("avowal/hash.first", laid_avowal_hash_first), ("avowal/hash.rounds", laid_avowal_hash_rounds)], narrowed := true }
def MacLongUptoSaid : Prop := macLongUptoRow.holds Tryd.pinned (OpenSpec.upto macLongSpec)

/-- 'avowallaw03.MacKeys', WHERE WHAT IT READS IS OF BULK AT MOST 1048576: true; the input reads as it did. -/
def macKeysUptoRow : OpenClaim := { program := "ytjpjnhljmloofaadoor", sum := "8de2f9248d0b09d5ade44c8b83b65498ffc4ef7445334ff7ee70e721e01be90b", func := "avowal/avowallaw03.MacKeys", spec := "macKeys", named := ["avowal/hash.first", "avowal/hash.rounds"], plainKeys := false, apart := false, laid := [("avowal/hash.first", laid_avowal_hash_first), ("avowal/hash.rounds", laid_avowal_hash_rounds)], narrowed := true }
def MacKeysUptoSaid : Prop := macKeysUptoRow.holds Tryd.pinned (OpenSpec.upto macKeysSpec)

/-- 'avowallaw06.RingFull', WHERE WHAT IT READS IS OF BULK AT MOST 1048576: true; the input reads as it did. -/
def ringFullUptoRow : OpenClaim := { program := "ytjpjnhljmloofaadoor", sum := "8de2f9248d0b09d5ade44c8b83b65498ffc4ef7445334ff7ee70e721e01be90b", func := "avowal/avowallaw06.RingFull", spec := "ringFull", named := ["avowal/hash.first", "avowal/hash.rounds"], plainKeys := false, apart := false, laid := [("avowal/hash.first", laid_avowal_hash_first), ("avowal/hash.rounds", laid_avowal_hash_rounds)], narrowed := true }
def RingFullUptoSaid : Prop := ringFullUptoRow.holds Tryd.pinned (OpenSpec.upto ringFullSpec)

/-- 'avowallaw06.RingPlays', WHERE WHAT IT READS IS OF BULK AT MOST 1048576: true; the input reads as it did. -/
def ringPlaysUptoRow : OpenClaim := { program := "ytjpjnhljmloofaadoor", sum := "8de2f9248d0b09d5ade44c8b83b65498ffc4ef7445334ff7ee70e721e01be90b", func := "avowal/avowallaw06.RingPlays", spec := "ringPlays", named := ["avowal/hash.first", "avowal/hash.rounds"], plainKeys := false, apart := false, laid := [("avowal/hash.first", laid_avowal_hash_first), ("avowal/hash.rounds", laid_avowal_hash_rounds)], narrowed := true }
def RingPlaysUptoSaid : Prop := ringPlaysUptoRow.holds Tryd.pinned (OpenSpec.upto ringPlaysSpec)

/-- 'avowallaw06.RingSigns', WHERE WHAT IT READS IS OF BULK AT MOST 1048576: true; the input reads as it did. -/
def ringSignsUptoRow : OpenClaim := { program := "ytjpjnhljmloofaadoor", sum := "8de2f9248d0b09d5ade44c8b83b65498ffc4ef7445334ff7ee70e721e01be90b", func := "avowal/avowallaw06.RingSigns", spec := "ringSigns", named := ["avowal/hash.first", "avowal/hash.rounds"], plainKeys := false, apart := false, laid := [("avowal/hash.first", laid_avowal_hash_first), ("avowal/hash.rounds", laid_avowal_hash_rounds)], narrowed := true }
def RingSignsUptoSaid : Prop := ringSignsUptoRow.holds Tryd.pinned (OpenSpec.upto ringSignsSpec)

/-- 'avowallaw06.RingNone', WHERE WHAT IT READS IS OF BULK AT MOST 1048576: true; the input reads as it did. -/
def ringNoneUptoRow : OpenClaim := { program := "ytjpjnhljmloofaadoor", sum := "8de2f9248d0b09d5ade44c8b83b65498ffc4ef7445334ff7ee70e721e01be90b", func := "avowal/avowallaw06.RingNone", spec := "ringNone", named := ["avowal/hash.first", "avowal/hash.rounds"], plainKeys := false, apart := false, laid := [("avowal/hash.first", laid_avowal_hash_first), ("avowal/hash.rounds", laid_avowal_hash_rounds)], narrowed := true }
def RingNoneUptoSaid : Prop := ringNoneUptoRow.holds Tryd.pinned (OpenSpec.upto ringNoneSpec)

end Rows
end Go.Proofs.YtjpjnhljmloofaaDoor
