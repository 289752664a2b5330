/- Parts of the proof: TOwn, TEnter, TBase, TGet, TNone. -/
import Derived.Test.YthdjblfiiogmgaaCJ2
import Derived.Test.YthdjblfiiogmgaaCJ1
set_option linter.unusedVariables false
set_option linter.unusedSimpArgs false
set_option maxRecDepth 100000
namespace Go.Proofs.Ythdjblfiiogmgaa
open Go Go.ChangeShapes Go.WideShapes
/-! trail.own: an entry whose slices are its own. -/
theorem RA_csl_osl {E : Env} {r : Rs} {w : World} {i off sz n c : Nat} {x : Value} (h : RA E r w (.csl i off sz n c) x) : RA E r w (.osl i off sz n) x := by
  simp only [RA] at h ⊢
  obtain ⟨h1, A, rfl, hc, h2⟩ := h
  refine ⟨h1, A, c, rfl, hc, fun l hl => ?_⟩
  obtain ⟨k1, k2⟩ := h2 l hl
  have hmul : n * sz ≤ c * sz := Nat.mul_le_mul_right _ hc
  exact ⟨by omega, fun hn => k2 (by omega)⟩
theorem cslO_osl {sz n : Nat} {xs : List D} {f : FuncId} {P : Program} {G : GR} {args : List AV} {r : Rs} (h : AC P G f args r (cslO sz n xs)) : AC P G f args r (fun v r' => ∃ zs : List D, v = .osl 0 0 sz n ∧ r' = [some (.obj ((xs ++ zs).map .d))]) :=
  ⟨h.1, fun E w vals hG hA => (h.2 E w vals hG hA).mono fun e w' ⟨v, x, r', E', he, ⟨k, zs, _, hv, hr⟩, k1, k2, k3⟩ => ⟨_, x, r', E', he, ⟨zs, rfl, hr⟩, RA_csl_osl (hv ▸ k1), k2, k3⟩⟩
theorem cloneC_d (n : Nat) (xs : List D) (hx : xs.length = n * 3) (h : n ≤ 1000000) :
    AC Try.prog noG 55 [.d (.sl 3 n xs)] [] (fun v r' => v = .d (.sl 3 n xs) ∧ r' = []) := by
  by_cases h0 : 0 < n
  · exact AC.nones (y := .sl 3 n xs) 0 (by simp) ((cslO_lay hx h0 (cloneC_ac n xs hx h0 h)).mono fun v r' ⟨h1, h2⟩ => ⟨h1, by simp, by rw [h2]; simp⟩)
  · have hn : n = 0 := by omega
    subst hn
    have hxs : xs = [] := List.eq_nil_of_length_eq_zero (by omega)
    subst hxs
    exact AC.dat (cloneC_0.mono fun v r' ⟨h1, _⟩ => by rw [h1]; rfl)
end Go.Proofs.Ythdjblfiiogmgaa

set_option linter.unusedVariables false
set_option linter.unusedSimpArgs false
set_option maxRecDepth 100000
namespace Go.Proofs.Ythdjblfiiogmgaa
open Go Go.ChangeShapes Go.WideShapes
/-! trail.enter, Base, Said, Rule. -/
theorem ob1_hand (l : List D) (rc : Rs) (i : Nat) (hi : rc[i]? = some (some (.obj (l.map .d)))) : HandOK (nm [i] rc.length) rc [some (.obj (l.map .d))] [i] := by
  refine ⟨fun y h => ?_, trivial⟩
  injection h with h; subst h
  rw [hi, renRes, renL_map_d]
theorem ob2_hand (l m : List D) (rc : Rs) (i j : Nat) (hi : rc[i]? = some (some (.obj (l.map .d)))) (hj : rc[j]? = some (some (.obj (m.map .d)))) : HandOK (nm [i, j] rc.length) rc [some (.obj (l.map .d)), some (.obj (m.map .d))] [i, j] := by
  refine ⟨fun y h => ?_, fun y h => ?_, trivial⟩
  · injection h with h; subst h
    rw [hi, renRes, renL_map_d]
  · injection h with h; subst h
    rw [hj, renRes, renL_map_d]
theorem ob1_wf (l : List D) : wfRs 1 [some (.obj (l.map .d))] = true := by simp only [wfRs, wfL_map_d, Bool.and_true]
theorem ob2_wf (l m : List D) : wfRs 2 [some (.obj (l.map .d)), some (.obj (m.map .d))] = true := by simp only [wfRs, wfL_map_d, Bool.and_true]
end Go.Proofs.Ythdjblfiiogmgaa

set_option linter.unusedVariables false
set_option linter.unusedSimpArgs false
set_option maxRecDepth 100000
namespace Go.Proofs.Ythdjblfiiogmgaa
open Go Go.ChangeShapes Go.WideShapes
/-! trail's doors: Base, Said, Rule, Place, Get, over a trail that a call made. -/
end Go.Proofs.Ythdjblfiiogmgaa

set_option linter.unusedVariables false
set_option linter.unusedSimpArgs false
set_option maxRecDepth 100000
namespace Go.Proofs.Ythdjblfiiogmgaa
open Go Go.ChangeShapes Go.WideShapes
/-! trail.Place, Get, New, Len; the statement's Enter. -/
end Go.Proofs.Ythdjblfiiogmgaa

set_option linter.unusedVariables false
set_option linter.unusedSimpArgs false
set_option maxRecDepth 100000
namespace Go.Proofs.Ythdjblfiiogmgaa
open Go Go.ChangeShapes Go.WideShapes
/-! A trail that no call made: nil, or one that says that it wasn't made. -/
end Go.Proofs.Ythdjblfiiogmgaa
