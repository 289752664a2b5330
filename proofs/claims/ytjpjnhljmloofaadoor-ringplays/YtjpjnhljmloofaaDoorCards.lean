/-
  DERIVED. GIVEN WITH THE SEED: THE CARDS: each row of YtjpjnhljmloofaaDoorRows.lean that lists a variable, with what it lists TIED to the program's text (the seventh form; the later family's looks); each row that meets fmt, with fmt's text TOLD by the authors' own Lean function (tested against real Go, not proved from fmt's source: count such statements apart). THE CARD IS WHAT COUNTS. Prove the row's statement (the work); the ties are given (YtjpjnhljmloofaaDoorTie.lean); close each card by the builder's one call (the guide's Derived/Test/ToyasCard.lean, 'card_holds'). Laid BY PROGRAM, IN A SANDBOX (cutbox-door.mjs). By AI agents, Wed Nov 11 2026. No macro, syntax, notation, axiom, sorry.
-/
import Derived.Test.YtjpjnhljmloofaaDoorRows
import GoSem.ClaimSeven
namespace Go.Proofs.YtjpjnhljmloofaaDoor
namespace Rows

/-- THE TIED CARD OF 'avowallaw03.MacTags'. -/
def macTagsCard : Claim7 := { stood := { row := macTagsRow, standIns := [], harness := (true, "6c5fc8401c16113feb3956b6f0e66baffa1fc22838003b6970df7bb4ae992461"), looks := false }, kinds := [], alts := [], laidByText := true, laidKinds := [.data, .data], laidTests := true, laidLooks := .later }
def MacTagsCardSaid : Prop := Claim7.holds Tryd.pinned (.plain (OpenSpec.ofChange macTagsSpec)) macTagsCard

/-- THE TIED CARD OF 'avowallaw03.MacEquals'. -/
def macEqualsCard : Claim7 := { stood := { row := macEqualsRow, standIns := [], harness := (true, "6c5fc8401c16113feb3956b6f0e66baffa1fc22838003b6970df7bb4ae992461"), looks := false }, kinds := [], alts := [], laidByText := true, laidKinds := [.data, .data], laidTests := true, laidLooks := .later }
def MacEqualsCardSaid : Prop := Claim7.holds Tryd.pinned (.plain (OpenSpec.ofChange macEqualsSpec)) macEqualsCard

/-- THE TIED CARD OF 'avowallaw03.MacDomains'. -/
def macDomainsCard : Claim7 := { stood := { row := macDomainsRow, standIns := [], harness := (true, "6c5fc8401c16113feb3956b6f0e66baffa1fc22838003b6970df7bb4ae992461"), looks := false }, kinds := [], alts := [], laidByText := true, laidKinds := [.data, .data], laidTests := true, laidLooks := .later }
def MacDomainsCardSaid : Prop := Claim7.holds Tryd.pinned (.plain (OpenSpec.ofChange macDomainsSpec)) macDomainsCard

/-- THE TIED CARD OF 'avowallaw03.MacLong'. -/
def macLongCard : Claim7 := { stood := { row := macLongRow, standIns := [], harness := (true, "6c5fc8401c16113feb3956b6f0e66baffa1fc22838003b6970df7bb4ae992461"), looks := false }, kinds := [], alts := [], laidByText := true, laidKinds := [.data, .data], laidTests := true, laidLooks := .later }
def MacLongCardSaid : Prop := Claim7.holds Tryd.pinned (.plain (OpenSpec.ofChange macLongSpec)) macLongCard

/-- THE TIED CARD OF 'avowallaw03.MacKeys'. -/
def macKeysCard : Claim7 := { stood := { row := macKeysRow, standIns := [], harness := (true, "6c5fc8401c16113feb3956b6f0e66baffa1fc22838003b6970df7bb4ae992461"), looks := false }, kinds := [], alts := [], laidByText := true, laidKinds := [.data, .data], laidTests := true, laidLooks := .later }
def MacKeysCardSaid : Prop := Claim7.holds Tryd.pinned (.plain (OpenSpec.ofChange macKeysSpec)) macKeysCard

/-- THE TIED CARD OF 'avowallaw06.RingFull'. -/
def ringFullCard : Claim7 := { stood := { row := ringFullRow, standIns := [], harness := (true, "6c5fc8401c16113feb3956b6f0e66baffa1fc22838003b6970df7bb4ae992461"), looks := false }, kinds := [], alts := [], laidByText := true, laidKinds := [.data, .data], laidTests := true, laidLooks := .later }
def RingFullCardSaid : Prop := Claim7.holds Tryd.pinned (.plain (OpenSpec.ofChange ringFullSpec)) ringFullCard

/-- THE TIED CARD OF 'avowallaw06.RingPlays'. -/
def ringPlaysCard : Claim7 := { stood := { row := ringPlaysRow, standIns := [], harness := (true, "6c5fc8401c16113feb3956b6f0e66baffa1fc22838003b6970df7bb4ae992461"), looks := false }, kinds := [], alts := [], laidByText := true, laidKinds := [.data, .data], laidTests := true, laidLooks := .later }
def RingPlaysCardSaid : Prop := Claim7.holds Tryd.pinned (.plain (OpenSpec.ofChange ringPlaysSpec)) ringPlaysCard

/-- THE TIED CARD OF 'avowallaw06.RingSigns'. -/
def ringSignsCard : Claim7 := { stood := { row := ringSignsRow, standIns := [], harness := (true, "6c5fc8401c16113feb3956b6f0e66baffa1fc22838003b6970df7bb4ae992461"), looks := false }, kinds := [], alts := [], laidByText := true, laidKinds := [.data, .data], laidTests := true, laidLooks := .later }
def RingSignsCardSaid : Prop := Claim7.holds Tryd.pinned (.plain (OpenSpec.ofChange ringSignsSpec)) ringSignsCard

/-- THE TIED CARD OF 'avowallaw06.RingNone'. -/
def ringNoneCard : Claim7 := { stood := { row := ringNoneRow, standIns := [], harness := (true, "6c5fc8401c16113feb3956b6f0e66baffa1fc22838003b6970df7bb4ae992461"), looks := false }, kinds := [], alts := [], laidByText := true, laidKinds := [.data, .data], laidTests := true, laidLooks := .later }
def RingNoneCardSaid : Prop := Claim7.holds Tryd.pinned (.plain (OpenSpec.ofChange ringNoneSpec)) ringNoneCard

/-- THE SECOND FORM's CARD OF 'avowallaw03.MacTags'. -/
def macTagsUptoCard : Claim7 := { stood := { row := macTagsUptoRow, standIns := [], harness := (true, "6c5fc8401c16113feb3956b6f0e66baffa1fc22838003b6970df7bb4ae992461"), looks := false }, kinds := [], alts := [], laidByText := true, laidKinds := [.data, .data], laidTests := true, laidLooks := .later }
def MacTagsUptoCardSaid : Prop := Claim7.holds Tryd.pinned (.plain (OpenSpec.upto macTagsSpec)) macTagsUptoCard

/-- THE SECOND FORM's CARD OF 'avowallaw03.MacEquals'. -/
def macEqualsUptoCard : Claim7 := { stood := { row := macEqualsUptoRow, standIns := [], harness := (true, "6c5fc8401c16113feb3956b6f0e66baffa1fc22838003b6970df7bb4ae992461"), looks := false }, kinds := [], alts := [], laidByText := true, laidKinds := [.data, .data], laidTests := true, laidLooks := .later }
def MacEqualsUptoCardSaid : Prop := Claim7.holds Tryd.pinned (.plain (OpenSpec.upto macEqualsSpec)) macEqualsUptoCard

/-- THE SECOND FORM's CARD OF 'avowallaw03.MacDomains'. -/
def macDomainsUptoCard : Claim7 := { stood := { row := macDomainsUptoRow, standIns := [], harness := (true, "6c5fc8401c16113feb3956b6f0e66baffa1fc22838003b6970df7bb4ae992461"), looks := false }, kinds := [], alts := [], laidByText := true, laidKinds := [.data, .data], laidTests := true, laidLooks := .later }
def MacDomainsUptoCardSaid : Prop := Claim7.holds Tryd.pinned (.plain (OpenSpec.upto macDomainsSpec)) macDomainsUptoCard

/-- THE SECOND FORM's CARD OF 'avowallaw03.MacLong'. -/
def macLongUptoCard : Claim7 := { stood := { row := macLongUptoRow, standIns := [], harness := (true, "6c5fc8401c16113feb3956b6f0e66baffa1fc22838003b6970df7bb4ae992461"), looks := false }, kinds := [], alts := [], laidByText := true, laidKinds := [.data, .data], laidTests := true, laidLooks := .later }
def MacLongUptoCardSaid : Prop := Claim7.holds Tryd.pinned (.plain (OpenSpec.upto macLongSpec)) macLongUptoCard

/-- THE SECOND FORM's CARD OF 'avowallaw03.MacKeys'. -/
def macKeysUptoCard : Claim7 := { stood := { row := macKeysUptoRow, standIns := [], harness := (true, "6c5fc8401c16113feb3956b6f0e66baffa1fc22838003b6970df7bb4ae992461"), looks := false }, kinds := [], alts := [], laidByText := true, laidKinds := [.data, .data], laidTests := true, laidLooks := .later }
def MacKeysUptoCardSaid : Prop := Claim7.holds Tryd.pinned (.plain (OpenSpec.upto macKeysSpec)) macKeysUptoCard

/-- THE SECOND FORM's CARD OF 'avowallaw06.RingFull'. -/
def ringFullUptoCard : Claim7 := { stood := { row := ringFullUptoRow, standIns := [], harness := (true, "6c5fc8401c16113feb3956b6f0e66baffa1fc22838003b6970df7bb4ae992461"), looks := false }, kinds := [], alts := [], laidByText := true, laidKinds := [.data, .data], laidTests := true, laidLooks := .later }
def RingFullUptoCardSaid : Prop := Claim7.holds Tryd.pinned (.plain (OpenSpec.upto ringFullSpec)) ringFullUptoCard

/-- THE SECOND FORM's CARD OF 'avowallaw06.RingPlays'. -/
def ringPlaysUptoCard : Claim7 := { stood := { row := ringPlaysUptoRow, standIns := [], harness := (true, "6c5fc8401c16113feb3956b6f0e66baffa1fc22838003b6970df7bb4ae992461"), looks := false }, kinds := [], alts := [], laidByText := true, laidKinds := [.data, .data], laidTests := true, laidLooks := .later }
def RingPlaysUptoCardSaid : Prop := Claim7.holds Tryd.pinned (.plain (OpenSpec.upto ringPlaysSpec)) ringPlaysUptoCard

/-- THE SECOND FORM's CARD OF 'avowallaw06.RingSigns'. -/
def ringSignsUptoCard : Claim7 := { stood := { row := ringSignsUptoRow, standIns := [], harness := (true, "6c5fc8401c16113feb3956b6f0e66baffa1fc22838003b6970df7bb4ae992461"), looks := false }, kinds := [], alts := [], laidByText := true, laidKinds := [.data, .data], laidTests := true, laidLooks := .later }
def RingSignsUptoCardSaid : Prop := Claim7.holds Tryd.pinned (.plain (OpenSpec.upto ringSignsSpec)) ringSignsUptoCard

/-- THE SECOND FORM's CARD OF 'avowallaw06.RingNone'. -/
def ringNoneUptoCard : Claim7 := { stood := { row := ringNoneUptoRow, standIns := [], harness := (true, "6c5fc8401c16113feb3956b6f0e66baffa1fc22838003b6970df7bb4ae992461"), looks := false }, kinds := [], alts := [], laidByText := true, laidKinds := [.data, .data], laidTests := true, laidLooks := .later }
def RingNoneUptoCardSaid : Prop := Claim7.holds Tryd.pinned (.plain (OpenSpec.upto ringNoneSpec)) ringNoneUptoCard
end Rows
end Go.Proofs.YtjpjnhljmloofaaDoor
