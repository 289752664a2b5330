/- Parts of the proof: CStep, CTrip, CDec, CDecT, WtF. -/
import Derived.Test.YtdbicadncccpoaaCJ8
import Derived.Test.YtdbicadncccpoaaCJ11
import Derived.Test.YtdbicadncccpoaaCJ7
import Derived.Test.YtdbicadncccpoaaCJ0
set_option linter.unusedVariables false
set_option linter.unusedSimpArgs false
set_option maxRecDepth 100000
namespace Go.Proofs.Ytdbicadncccpoaa
open Go Go.ChangeShapes Go.WideShapes
/-! cert.step: an entry of bytes. -/
end Go.Proofs.Ytdbicadncccpoaa

set_option linter.unusedVariables false
set_option linter.unusedSimpArgs false
set_option maxRecDepth 100000
namespace Go.Proofs.Ytdbicadncccpoaa
open Go Go.ChangeShapes Go.WideShapes
/-! An entry laid and an entry read. -/
end Go.Proofs.Ytdbicadncccpoaa

set_option linter.unusedVariables false
set_option linter.unusedSimpArgs false
set_option maxRecDepth 100000
namespace Go.Proofs.Ytdbicadncccpoaa
open Go Go.ChangeShapes Go.WideShapes
/-! cert.Decode. -/
end Go.Proofs.Ytdbicadncccpoaa

set_option linter.unusedVariables false
set_option linter.unusedSimpArgs false
set_option maxRecDepth 100000
namespace Go.Proofs.Ytdbicadncccpoaa
open Go Go.ChangeShapes Go.WideShapes
/-! Certificates laid and read. -/
end Go.Proofs.Ytdbicadncccpoaa

set_option linter.unusedVariables false
set_option linter.unusedSimpArgs false
set_option maxRecDepth 100000
namespace Go.Proofs.Ytdbicadncccpoaa
open Go Go.ChangeShapes Go.WideShapes
/-- Sizes that a call's data have. -/
def szF (f : Fct) : Prop := f.a.size ≤ 140737488352000 ∧ f.b.size ≤ 140737488352000 ∧ f.p.size ≤ 140737488352000 ∧ f.l.length ≤ 140737488352000 ∧ ∀ c ∈ f.l, c.s.size ≤ 140737488352000
def wfSt1 (l : List Fct) (m : Int) (x : Nat × Int) : List (Nat × AV) := [(0, .d (.sl 4 l.length (flatE fctE l))), (1, .d (.c (.int .i64 m))), (5, .d (.c (.int .i64 x.2))), (6, .d (.c (.int .i64 x.1)))]
def wfSt2 (l : List Fct) (m : Int) (i : Nat) (x : Nat × Int) : List (Nat × AV) := [(0, .d (.sl 4 l.length (flatE fctE l))), (1, .d (.c (.int .i64 m))), (5, .d (.c (.int .i64 x.2))), (6, .d (.c (.int .i64 i))), (7, .d (.c (.int .i64 x.1)))]
end Go.Proofs.Ytdbicadncccpoaa
