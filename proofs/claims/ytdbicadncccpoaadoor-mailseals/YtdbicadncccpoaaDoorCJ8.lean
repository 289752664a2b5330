/- Parts of the proof: Rdr, RdV, RdTs, RdR, RdRul, RdF. -/
import Derived.Test.YtdbicadncccpoaaDoorCJ7
set_option linter.unusedVariables false
set_option linter.unusedSimpArgs false
set_option maxRecDepth 100000
namespace Go.Proofs.YtdbicadncccpoaaDoor
open Go Go.ChangeShapes Go.WideShapes
end Go.Proofs.YtdbicadncccpoaaDoor

set_option linter.unusedVariables false
set_option linter.unusedSimpArgs false
set_option maxRecDepth 100000
namespace Go.Proofs.YtdbicadncccpoaaDoor
open Go Go.ChangeShapes Go.WideShapes
end Go.Proofs.YtdbicadncccpoaaDoor

set_option linter.unusedVariables false
set_option linter.unusedSimpArgs false
set_option maxRecDepth 100000
namespace Go.Proofs.YtdbicadncccpoaaDoor
open Go Go.ChangeShapes Go.WideShapes
end Go.Proofs.YtdbicadncccpoaaDoor

set_option linter.unusedVariables false
set_option linter.unusedSimpArgs false
set_option maxRecDepth 100000
namespace Go.Proofs.YtdbicadncccpoaaDoor
open Go Go.ChangeShapes Go.WideShapes
structure Lit where
  b : Trm
  p : ByteArray
  l : List Trm
  a : Trm
deriving DecidableEq
structure Rul where
  h : Trm
  p : ByteArray
  l : List Trm
  t : Trm
  b : List Lit
deriving DecidableEq
end Go.Proofs.YtdbicadncccpoaaDoor

set_option linter.unusedVariables false
set_option linter.unusedSimpArgs false
set_option maxRecDepth 100000
namespace Go.Proofs.YtdbicadncccpoaaDoor
open Go Go.ChangeShapes Go.WideShapes
end Go.Proofs.YtdbicadncccpoaaDoor

set_option linter.unusedVariables false
set_option linter.unusedSimpArgs false
set_option maxRecDepth 100000
namespace Go.Proofs.YtdbicadncccpoaaDoor
open Go Go.ChangeShapes Go.WideShapes
def zF : Fct := ⟨⟨#[]⟩, ⟨#[]⟩, ⟨#[]⟩, []⟩
end Go.Proofs.YtdbicadncccpoaaDoor
