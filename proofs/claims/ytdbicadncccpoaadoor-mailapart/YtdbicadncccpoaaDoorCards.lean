/-
  DERIVED. GIVEN WITH THE SEED: THE CARDS: each row of YtdbicadncccpoaaDoorRows.lean that lists a variable, with what it lists TIED to the program's text (the seventh form; the later family's looks); each row that meets fmt, with fmt's text TOLD by the authors' own Lean function (tested against real Go, not proved from fmt's source: count such statements apart). THE CARD IS WHAT COUNTS. Prove the row's statement (the work); the ties are given (YtdbicadncccpoaaDoorTie.lean); close each card by the builder's one call (the guide's Derived/Test/ToyasCard.lean, 'card_holds'). Laid BY PROGRAM, IN A SANDBOX (cutbox-door.mjs). By AI agents, Wed Nov 11 2026. No macro, syntax, notation, axiom, sorry.
-/
import Derived.Test.YtdbicadncccpoaaDoorRows
import GoSem.ClaimSeven
namespace Go.Proofs.YtdbicadncccpoaaDoor
namespace Rows

/-- THE TIED CARD OF 'avowallaw21.MailSeals'. -/
def mailSealsCard : Claim7 := { stood := { row := mailSealsRow, standIns := [], harness := (true, "8176968960c354cc31321e5daeca9eed546a670b0a3d48cbbec5072ebf280d94"), looks := false }, kinds := [], alts := [], laidByText := true, laidKinds := [.data, .data], laidTests := true, laidLooks := .later }
def MailSealsCardSaid : Prop := Claim7.holds Tryd.pinned (.plain (OpenSpec.ofChange mailSealsSpec)) mailSealsCard

/-- THE TIED CARD OF 'avowallaw21.MailOpens'. -/
def mailOpensCard : Claim7 := { stood := { row := mailOpensRow, standIns := [], harness := (true, "8176968960c354cc31321e5daeca9eed546a670b0a3d48cbbec5072ebf280d94"), looks := false }, kinds := [], alts := [], laidByText := true, laidKinds := [.data, .data], laidTests := true, laidLooks := .later }
def MailOpensCardSaid : Prop := Claim7.holds Tryd.pinned (.plain (OpenSpec.ofChange mailOpensSpec)) mailOpensCard

/-- THE TIED CARD OF 'avowallaw21.MailBack'. -/
def mailBackCard : Claim7 := { stood := { row := mailBackRow, standIns := [], harness := (true, "8176968960c354cc31321e5daeca9eed546a670b0a3d48cbbec5072ebf280d94"), looks := false }, kinds := [], alts := [], laidByText := true, laidKinds := [.data, .data], laidTests := true, laidLooks := .later }
def MailBackCardSaid : Prop := Claim7.holds Tryd.pinned (.plain (OpenSpec.ofChange mailBackSpec)) mailBackCard

/-- THE TIED CARD OF 'avowallaw21.MailApart'. -/
def mailApartCard : Claim7 := { stood := { row := mailApartRow, standIns := [], harness := (true, "8176968960c354cc31321e5daeca9eed546a670b0a3d48cbbec5072ebf280d94"), looks := false }, kinds := [], alts := [], laidByText := true, laidKinds := [.data, .data], laidTests := true, laidLooks := .later }
def MailApartCardSaid : Prop := Claim7.holds Tryd.pinned (.plain (OpenSpec.ofChange mailApartSpec)) mailApartCard

/-- THE SECOND FORM's CARD OF 'avowallaw21.MailSeals'. -/
def mailSealsUptoCard : Claim7 := { stood := { row := mailSealsUptoRow, standIns := [], harness := (true, "8176968960c354cc31321e5daeca9eed546a670b0a3d48cbbec5072ebf280d94"), looks := false }, kinds := [], alts := [], laidByText := true, laidKinds := [.data, .data], laidTests := true, laidLooks := .later }
def MailSealsUptoCardSaid : Prop := Claim7.holds Tryd.pinned (.plain (OpenSpec.upto mailSealsSpec)) mailSealsUptoCard

/-- THE SECOND FORM's CARD OF 'avowallaw21.MailOpens'. -/
def mailOpensUptoCard : Claim7 := { stood := { row := mailOpensUptoRow, standIns := [], harness := (true, "8176968960c354cc31321e5daeca9eed546a670b0a3d48cbbec5072ebf280d94"), looks := false }, kinds := [], alts := [], laidByText := true, laidKinds := [.data, .data], laidTests := true, laidLooks := .later }
def MailOpensUptoCardSaid : Prop := Claim7.holds Tryd.pinned (.plain (OpenSpec.upto mailOpensSpec)) mailOpensUptoCard

/-- THE SECOND FORM's CARD OF 'avowallaw21.MailBack'. -/
def mailBackUptoCard : Claim7 := { stood := { row := mailBackUptoRow, standIns := [], harness := (true, "8176968960c354cc31321e5daeca9eed546a670b0a3d48cbbec5072ebf280d94"), looks := false }, kinds := [], alts := [], laidByText := true, laidKinds := [.data, .data], laidTests := true, laidLooks := .later }
def MailBackUptoCardSaid : Prop := Claim7.holds Tryd.pinned (.plain (OpenSpec.upto mailBackSpec)) mailBackUptoCard

/-- THE SECOND FORM's CARD OF 'avowallaw21.MailApart'. -/
def mailApartUptoCard : Claim7 := { stood := { row := mailApartUptoRow, standIns := [], harness := (true, "8176968960c354cc31321e5daeca9eed546a670b0a3d48cbbec5072ebf280d94"), looks := false }, kinds := [], alts := [], laidByText := true, laidKinds := [.data, .data], laidTests := true, laidLooks := .later }
def MailApartUptoCardSaid : Prop := Claim7.holds Tryd.pinned (.plain (OpenSpec.upto mailApartSpec)) mailApartUptoCard
end Rows
end Go.Proofs.YtdbicadncccpoaaDoor
