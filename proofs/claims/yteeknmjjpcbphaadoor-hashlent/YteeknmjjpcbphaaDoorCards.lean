/-
  DERIVED. GIVEN WITH THE SEED: THE CARDS: each row of YteeknmjjpcbphaaDoorRows.lean that lists a variable, with what it lists TIED to the program's text (the seventh form; the later family's looks); each row that meets fmt, with fmt's text TOLD by the authors' own Lean function (tested against real Go, not proved from fmt's source: count such statements apart). THE CARD IS WHAT COUNTS. Prove the row's statement (the work); the ties are given (YteeknmjjpcbphaaDoorTie.lean); close each card by the builder's one call (the guide's Derived/Test/ToyasCard.lean, 'card_holds'). Laid BY PROGRAM, IN A SANDBOX (cutbox-door.mjs). By AI agents, Wed Nov 11 2026. No macro, syntax, notation, axiom, sorry.
-/
import Derived.Test.YteeknmjjpcbphaaDoorRows
import GoSem.ClaimSeven
namespace Go.Proofs.YteeknmjjpcbphaaDoor
namespace Rows

/-- THE TIED CARD OF 'avowallaw02.HashSums'. -/
def hashSumsCard : Claim7 := { stood := { row := hashSumsRow, standIns := [], harness := (true, "05c47c3d30eea70ebffcaabd00da77d8885d5a53e03fd8f419e7a0153880ece9"), looks := false }, kinds := [], alts := [], laidByText := true, laidKinds := [.data, .data], laidTests := true, laidLooks := .later }
def HashSumsCardSaid : Prop := Claim7.holds Tryd.pinned (.plain (OpenSpec.ofChange hashSumsSpec)) hashSumsCard

/-- THE TIED CARD OF 'avowallaw02.HashPieces'. -/
def hashPiecesCard : Claim7 := { stood := { row := hashPiecesRow, standIns := [], harness := (true, "05c47c3d30eea70ebffcaabd00da77d8885d5a53e03fd8f419e7a0153880ece9"), looks := false }, kinds := [], alts := [], laidByText := true, laidKinds := [.data, .data], laidTests := true, laidLooks := .later }
def HashPiecesCardSaid : Prop := Claim7.holds Tryd.pinned (.plain (OpenSpec.ofChange hashPiecesSpec)) hashPiecesCard

/-- THE TIED CARD OF 'avowallaw02.HashLent'. -/
def hashLentCard : Claim7 := { stood := { row := hashLentRow, standIns := [], harness := (true, "05c47c3d30eea70ebffcaabd00da77d8885d5a53e03fd8f419e7a0153880ece9"), looks := false }, kinds := [], alts := [], laidByText := true, laidKinds := [.data, .data], laidTests := true, laidLooks := .later }
def HashLentCardSaid : Prop := Claim7.holds Tryd.pinned (.plain (OpenSpec.ofChange hashLentSpec)) hashLentCard

/-- THE TIED CARD OF 'avowallaw02.HashNone'. -/
def hashNoneCard : Claim7 := { stood := { row := hashNoneRow, standIns := [], harness := (true, "05c47c3d30eea70ebffcaabd00da77d8885d5a53e03fd8f419e7a0153880ece9"), looks := false }, kinds := [], alts := [], laidByText := true, laidKinds := [.data, .data], laidTests := true, laidLooks := .later }
def HashNoneCardSaid : Prop := Claim7.holds Tryd.pinned (.plain (OpenSpec.ofChange hashNoneSpec)) hashNoneCard

/-- THE SECOND FORM's CARD OF 'avowallaw02.HashSums'. -/
def hashSumsUptoCard : Claim7 := { stood := { row := hashSumsUptoRow, standIns := [], harness := (true, "05c47c3d30eea70ebffcaabd00da77d8885d5a53e03fd8f419e7a0153880ece9"), looks := false }, kinds := [], alts := [], laidByText := true, laidKinds := [.data, .data], laidTests := true, laidLooks := .later }
def HashSumsUptoCardSaid : Prop := Claim7.holds Tryd.pinned (.plain (OpenSpec.upto hashSumsSpec)) hashSumsUptoCard

/-- THE SECOND FORM's CARD OF 'avowallaw02.HashPieces'. -/
def hashPiecesUptoCard : Claim7 := { stood := { row := hashPiecesUptoRow, standIns := [], harness := (true, "05c47c3d30eea70ebffcaabd00da77d8885d5a53e03fd8f419e7a0153880ece9"), looks := false }, kinds := [], alts := [], laidByText := true, laidKinds := [.data, .data], laidTests := true, laidLooks := .later }
def HashPiecesUptoCardSaid : Prop := Claim7.holds Tryd.pinned (.plain (OpenSpec.upto hashPiecesSpec)) hashPiecesUptoCard

/-- THE SECOND FORM's CARD OF 'avowallaw02.HashLent'. -/
def hashLentUptoCard : Claim7 := { stood := { row := hashLentUptoRow, standIns := [], harness := (true, "05c47c3d30eea70ebffcaabd00da77d8885d5a53e03fd8f419e7a0153880ece9"), looks := false }, kinds := [], alts := [], laidByText := true, laidKinds := [.data, .data], laidTests := true, laidLooks := .later }
def HashLentUptoCardSaid : Prop := Claim7.holds Tryd.pinned (.plain (OpenSpec.upto hashLentSpec)) hashLentUptoCard

/-- THE SECOND FORM's CARD OF 'avowallaw02.HashNone'. -/
def hashNoneUptoCard : Claim7 := { stood := { row := hashNoneUptoRow, standIns := [], harness := (true, "05c47c3d30eea70ebffcaabd00da77d8885d5a53e03fd8f419e7a0153880ece9"), looks := false }, kinds := [], alts := [], laidByText := true, laidKinds := [.data, .data], laidTests := true, laidLooks := .later }
def HashNoneUptoCardSaid : Prop := Claim7.holds Tryd.pinned (.plain (OpenSpec.upto hashNoneSpec)) hashNoneUptoCard
end Rows
end Go.Proofs.YteeknmjjpcbphaaDoor
