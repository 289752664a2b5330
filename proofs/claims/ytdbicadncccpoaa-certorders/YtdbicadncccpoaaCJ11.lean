/- Parts of the proof: Trip, TripI. -/
import Derived.Test.YtdbicadncccpoaaCJ10
import Derived.Test.YtdbicadncccpoaaCJ2
set_option linter.unusedVariables false
set_option linter.unusedSimpArgs false
set_option maxRecDepth 100000
namespace Go.Proofs.Ytdbicadncccpoaa
open Go Go.ChangeShapes Go.WideShapes
/-- These bytes lie at this place, and end at that one. -/
def At (b : List UInt8) (k : Int) (x : List UInt8) (nx : Int) : Prop := ∃ kn : Nat, k = kn ∧ nx = ((kn + x.length : Nat) : Int) ∧ kn + x.length ≤ b.length ∧ (b.drop kn).take x.length = x
theorem At.parts {b : List UInt8} {k nx : Int} {x : List UInt8} (h : At b k x nx) : ∃ p r : List UInt8, b = p ++ x ++ r ∧ k = p.length ∧ nx = ((p ++ x).length : Nat) := by
  obtain ⟨kn, h1, h2, h3, h4⟩ := h
  refine ⟨b.take kn, b.drop (kn + x.length), ?_, ?_, ?_⟩
  · have h5 : b = b.take kn ++ b.drop kn := (List.take_append_drop kn b).symm
    have h6 : b.drop kn = (b.drop kn).take x.length ++ (b.drop kn).drop x.length := (List.take_append_drop _ _).symm
    rw [h4, List.drop_drop] at h6
    rw [List.append_assoc, ← h6]
    exact h5
  · rw [List.length_take]; omega
  · rw [List.length_append, List.length_take]; omega
theorem At.split {b : List UInt8} {k nx : Int} {x y : List UInt8} (h : At b k (x ++ y) nx) : ∃ m, At b k x m ∧ At b m y nx := by
  obtain ⟨kn, h1, h2, h3, h4⟩ := h
  rw [List.length_append] at h2 h3 h4
  rw [List.take_add] at h4
  have hl : ((b.drop kn).take x.length).length = x.length := by rw [List.length_take, List.length_drop]; omega
  obtain ⟨e1, e2⟩ := List.append_inj h4 hl
  refine ⟨((kn + x.length : Nat) : Int), ⟨kn, h1, rfl, by omega, e1⟩, ⟨kn + x.length, rfl, by omega, by omega, ?_⟩⟩
  rw [List.drop_drop] at e2
  exact e2
theorem At.nil {b : List UInt8} {k : Int} (h0 : 0 ≤ k) (h1 : k ≤ b.length) : At b k [] k := ⟨k.toNat, by omega, by simp; omega, by simp; omega, by simp⟩
theorem At.one {b : List UInt8} {k nx : Int} {x : UInt8} (h : At b k [x] nx) : 0 ≤ k ∧ k < b.length ∧ b.getD k.toNat 0 = x ∧ nx = k + 1 := by
  obtain ⟨kn, h1, h2, h3, h4⟩ := h
  simp only [List.length_cons, List.length_nil] at h2 h3 h4
  have hk : k.toNat = kn := by omega
  have hlt : kn < b.length := by omega
  rw [List.drop_eq_getElem_cons hlt, List.take_succ_cons, List.take_zero] at h4
  injection h4 with h4
  exact ⟨by omega, by omega, by rw [hk, List.getD_eq_getElem?_getD, List.getElem?_eq_getElem hlt]; exact h4, by omega⟩
/-! ### What is laid stands behind any bytes -/
/-! ### What is laid is read -/
end Go.Proofs.Ytdbicadncccpoaa

set_option linter.unusedVariables false
set_option linter.unusedSimpArgs false
set_option maxRecDepth 100000
namespace Go.Proofs.Ytdbicadncccpoaa
open Go Go.ChangeShapes Go.WideShapes
/-! ### What is read was laid so -/
end Go.Proofs.Ytdbicadncccpoaa
