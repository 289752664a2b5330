/- Parts of the proof: TOwn, TEnter, TBase, TGet, TNone. -/
import Derived.Test.YthdjblfiiogmgaaCJ2
import Derived.Test.YthdjblfiiogmgaaCJ1
set_option linter.unusedVariables false
set_option linter.unusedSimpArgs false
set_option maxRecDepth 100000
namespace Go.Proofs.Ythdjblfiiogmgaa
open Go Go.ChangeShapes Go.WideShapes
/-! trail.own: an entry whose slices are its own. -/
theorem cloneC_d (n : Nat) (xs : List D) (hx : xs.length = n * 3) (h : n ≤ 1000000) :
    AC Try.prog noG 55 [.d (.sl 3 n xs)] [] (fun v r' => v = .d (.sl 3 n xs) ∧ r' = []) := by
  by_cases h0 : 0 < n
  · exact AC.nones (y := .sl 3 n xs) 0 (by simp) ((cslO_lay hx h0 (cloneC_ac n xs hx h0 h)).mono fun v r' ⟨h1, h2⟩ => ⟨h1, by simp, by rw [h2]; simp⟩)
  · have hn : n = 0 := by omega
    subst hn
    have hxs : xs = [] := List.eq_nil_of_length_eq_zero (by omega)
    subst hxs
    exact AC.dat (cloneC_0.mono fun v r' ⟨h1, _⟩ => by rw [h1]; rfl)
end Go.Proofs.Ythdjblfiiogmgaa

set_option linter.unusedVariables false
set_option linter.unusedSimpArgs false
set_option maxRecDepth 100000
namespace Go.Proofs.Ythdjblfiiogmgaa
open Go Go.ChangeShapes Go.WideShapes
/-! trail.enter, Base, Said, Rule. -/
theorem ob1_hand (l : List D) (rc : Rs) (i : Nat) (hi : rc[i]? = some (some (.obj (l.map .d)))) : HandOK (nm [i] rc.length) rc [some (.obj (l.map .d))] [i] := by
  refine ⟨fun y h => ?_, trivial⟩
  injection h with h; subst h
  rw [hi, renRes, renL_map_d]
theorem ob2_hand (l m : List D) (rc : Rs) (i j : Nat) (hi : rc[i]? = some (some (.obj (l.map .d)))) (hj : rc[j]? = some (some (.obj (m.map .d)))) : HandOK (nm [i, j] rc.length) rc [some (.obj (l.map .d)), some (.obj (m.map .d))] [i, j] := by
  refine ⟨fun y h => ?_, fun y h => ?_, trivial⟩
  · injection h with h; subst h
    rw [hi, renRes, renL_map_d]
  · injection h with h; subst h
    rw [hj, renRes, renL_map_d]
theorem ob1_wf (l : List D) : wfRs 1 [some (.obj (l.map .d))] = true := by simp only [wfRs, wfL_map_d, Bool.and_true]
theorem ob2_wf (l m : List D) : wfRs 2 [some (.obj (l.map .d)), some (.obj (m.map .d))] = true := by simp only [wfRs, wfL_map_d, Bool.and_true]
end Go.Proofs.Ythdjblfiiogmgaa

set_option linter.unusedVariables false
set_option linter.unusedSimpArgs false
set_option maxRecDepth 100000
namespace Go.Proofs.Ythdjblfiiogmgaa
open Go Go.ChangeShapes Go.WideShapes
/-! trail's doors: Base, Said, Rule, Place, Get, over a trail that a call made. -/
end Go.Proofs.Ythdjblfiiogmgaa

set_option linter.unusedVariables false
set_option linter.unusedSimpArgs false
set_option maxRecDepth 100000
namespace Go.Proofs.Ythdjblfiiogmgaa
open Go Go.ChangeShapes Go.WideShapes
/-! trail.Place, Get, New, Len; the statement's Enter. -/
end Go.Proofs.Ythdjblfiiogmgaa

set_option linter.unusedVariables false
set_option linter.unusedSimpArgs false
set_option maxRecDepth 100000
namespace Go.Proofs.Ythdjblfiiogmgaa
open Go Go.ChangeShapes Go.WideShapes
/-! A trail that no call made: nil, or one that says that it wasn't made. -/
end Go.Proofs.Ythdjblfiiogmgaa
