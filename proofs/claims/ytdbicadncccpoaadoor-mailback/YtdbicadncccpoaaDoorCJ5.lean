/- Parts of the proof: RingZ, RRing, RSign, RNew, Fct. -/
import Derived.Test.YtdbicadncccpoaaDoorCJ4
import Derived.Test.YtdbicadncccpoaaDoorCJ0
set_option linter.unusedVariables false
set_option linter.unusedSimpArgs false
set_option maxRecDepth 100000
namespace Go.Proofs.YtdbicadncccpoaaDoor
open Go Go.ChangeShapes Go.WideShapes
end Go.Proofs.YtdbicadncccpoaaDoor

set_option linter.unusedVariables false
set_option linter.unusedSimpArgs false
set_option maxRecDepth 100000
namespace Go.Proofs.YtdbicadncccpoaaDoor
open Go Go.ChangeShapes Go.WideShapes
end Go.Proofs.YtdbicadncccpoaaDoor

set_option linter.unusedVariables false
set_option linter.unusedSimpArgs false
set_option maxRecDepth 100000
namespace Go.Proofs.YtdbicadncccpoaaDoor
open Go Go.ChangeShapes Go.WideShapes
end Go.Proofs.YtdbicadncccpoaaDoor

set_option linter.unusedVariables false
set_option linter.unusedSimpArgs false
set_option maxRecDepth 100000
namespace Go.Proofs.YtdbicadncccpoaaDoor
open Go Go.ChangeShapes Go.WideShapes
end Go.Proofs.YtdbicadncccpoaaDoor

set_option linter.unusedVariables false
set_option linter.unusedSimpArgs false
set_option maxRecDepth 100000
namespace Go.Proofs.YtdbicadncccpoaaDoor
open Go Go.ChangeShapes Go.WideShapes
/-- Rows of elements of one width. -/
def flatE {α : Type} (en : α → List D) (l : List α) : List D := l.flatMap en
theorem flatE_cons {α : Type} (en : α → List D) (a : α) (l : List α) : flatE en (a :: l) = en a ++ flatE en l := by rw [flatE, List.flatMap_cons]; rfl
theorem flatE_app {α : Type} (en : α → List D) (l m : List α) : flatE en (l ++ m) = flatE en l ++ flatE en m := by rw [flatE, List.flatMap_append]; rfl
theorem flatE_one {α : Type} (en : α → List D) (a : α) : flatE en [a] = en a := by rw [flatE_cons]; simp [flatE]
theorem flatE_nil {α : Type} (en : α → List D) : flatE en [] = [] := rfl
theorem flatE_len {α : Type} {en : α → List D} {k : Nat} (h : ∀ a, (en a).length = k) : ∀ l : List α, (flatE en l).length = k * l.length
  | [] => rfl
  | a :: l => by rw [flatE_cons, List.length_append, h, flatE_len h l, List.length_cons, Nat.mul_succ]; omega
theorem flatE_drop {α : Type} {en : α → List D} {k : Nat} (h : ∀ a, (en a).length = k) : ∀ (l : List α) (i : Nat) (hi : i < l.length), (flatE en l).drop (i * k) = en l[i] ++ flatE en (l.drop (i + 1))
  | a :: l, 0, _ => by rw [flatE_cons]; simp
  | a :: l, i + 1, hi => by
    have := flatE_drop h l i (by simpa using hi)
    rw [flatE_cons, Nat.succ_mul, Nat.add_comm (i * k) k, ← List.drop_drop]
    simp only [List.getElem_cons_succ, List.drop_succ_cons]
    rw [← h a, List.drop_left, h a, this]
structure Cst where
  num : Bool
  n : Int
  s : ByteArray
deriving DecidableEq
structure Fct where
  a : ByteArray
  b : ByteArray
  p : ByteArray
  l : List Cst
deriving DecidableEq
def cstE (c : Cst) : List D := [.c (.bool c.num), .c (.int .i64 c.n), .c (.string c.s)]
theorem cstE_len (c : Cst) : (cstE c).length = 3 := rfl
def fctE (f : Fct) : List D := [.c (.string f.a), .c (.string f.b), .c (.string f.p), .sl 3 f.l.length (flatE cstE f.l)]
theorem fctE_len (f : Fct) : (fctE f).length = 4 := rfl
def txtOK (s : ByteArray) : Bool := decide (1 ≤ s.size) && decide (s.size ≤ 32)
def goodC (c : Cst) : Bool := if c.num then decide (c.s = ⟨#[]⟩) else decide (c.n = 0) && txtOK c.s
def chkF (f : Fct) : Bool := txtOK f.a && (txtOK f.b && (txtOK f.p && (decide (f.l.length ≤ 48) && f.l.all goodC)))
def chkE (f : Fct) : Int := if chkF f then 0 else 40
end Go.Proofs.YtdbicadncccpoaaDoor
