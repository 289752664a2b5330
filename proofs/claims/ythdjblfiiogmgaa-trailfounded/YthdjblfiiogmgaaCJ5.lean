/- Parts of the proof: TbNoneA, TbPut, TbLive, CSame. -/
import Derived.Test.YthdjblfiiogmgaaCJ4
import Derived.Test.YthdjblfiiogmgaaCJ3
set_option linter.unusedVariables false
set_option linter.unusedSimpArgs false
set_option maxRecDepth 100000
namespace Go.Proofs.Ythdjblfiiogmgaa
open Go Go.ChangeShapes Go.WideShapes
/-! .. tells nothing. -/
end Go.Proofs.Ythdjblfiiogmgaa

set_option linter.unusedVariables false
set_option linter.unusedSimpArgs false
set_option maxRecDepth 100000
namespace Go.Proofs.Ythdjblfiiogmgaa
open Go Go.ChangeShapes Go.WideShapes
/-! table: find, Has, Put, Len, New. -/
structure okB (L : List Fct) : Prop where
  len : L.length ≤ 100000
  ok : ∀ g ∈ L, g.l.length ≤ 1000000
  srt : srtF L
theorem okB.ins {L : List Fct} (h : okB L) {f : Fct} (hf : f.l.length ≤ 1000000) (hm : f ∉ L) (hl : L.length < 100000) : okB (insFc L f) := by
  refine ⟨by rw [insFc_len]; omega, fun g hg => ?_, insFc_srt h.srt hm⟩
  rcases insFc_mem.1 hg with hg | rfl
  · exact h.ok g hg
  · exact hf
def errB (L : List Fct) (m : Int) (f : Fct) : Int := if chkE f ≠ 0 then chkE f else if f ∈ L then 151 else if m ≤ L.length then 150 else 0
def insB (L : List Fct) (m : Int) (f : Fct) : List Fct := if errB L m f = 0 then insFc L f else L
theorem chkF_w {f : Fct} (h : chkF f = true) : f.l.length ≤ 48 := by
  simp only [chkF, Bool.and_eq_true, decide_eq_true_eq, List.all_eq_true] at h
  exact h.2.2.2.1
end Go.Proofs.Ythdjblfiiogmgaa

set_option linter.unusedVariables false
set_option linter.unusedSimpArgs false
set_option maxRecDepth 100000
namespace Go.Proofs.Ythdjblfiiogmgaa
open Go Go.ChangeShapes Go.WideShapes
/-! The statement's examples of tables. -/
end Go.Proofs.Ythdjblfiiogmgaa

set_option linter.unusedVariables false
set_option linter.unusedSimpArgs false
set_option maxRecDepth 100000
namespace Go.Proofs.Ythdjblfiiogmgaa
open Go Go.ChangeShapes Go.WideShapes
/-! The document's Same and Like of entries. -/
end Go.Proofs.Ythdjblfiiogmgaa
