/- Parts of the proof: Rdr, RdV, RRdr, RdTs, RdR, RdRul. -/
import Derived.Test.YtdbicadncccpoaaCJ1
set_option linter.unusedVariables false
set_option linter.unusedSimpArgs false
set_option maxRecDepth 100000
namespace Go.Proofs.Ytdbicadncccpoaa
open Go Go.ChangeShapes Go.WideShapes
end Go.Proofs.Ytdbicadncccpoaa

set_option linter.unusedVariables false
set_option linter.unusedSimpArgs false
set_option maxRecDepth 100000
namespace Go.Proofs.Ytdbicadncccpoaa
open Go Go.ChangeShapes Go.WideShapes
end Go.Proofs.Ytdbicadncccpoaa

set_option linter.unusedVariables false
set_option linter.unusedSimpArgs false
set_option maxRecDepth 100000
namespace Go.Proofs.Ytdbicadncccpoaa
open Go Go.ChangeShapes Go.WideShapes
end Go.Proofs.Ytdbicadncccpoaa

set_option linter.unusedVariables false
set_option linter.unusedSimpArgs false
set_option maxRecDepth 100000
namespace Go.Proofs.Ytdbicadncccpoaa
open Go Go.ChangeShapes Go.WideShapes
end Go.Proofs.Ytdbicadncccpoaa

set_option linter.unusedVariables false
set_option linter.unusedSimpArgs false
set_option maxRecDepth 100000
namespace Go.Proofs.Ytdbicadncccpoaa
open Go Go.ChangeShapes Go.WideShapes
structure Lit where
  b : Trm
  p : ByteArray
  l : List Trm
  a : Trm
deriving DecidableEq
end Go.Proofs.Ytdbicadncccpoaa

set_option linter.unusedVariables false
set_option linter.unusedSimpArgs false
set_option maxRecDepth 100000
namespace Go.Proofs.Ytdbicadncccpoaa
open Go Go.ChangeShapes Go.WideShapes
end Go.Proofs.Ytdbicadncccpoaa
