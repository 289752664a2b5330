import Derived.Test.YtfeoafddagdbfaaCClose
import Derived.Test.YtfeoafddagdbfaaCOpenC
import Derived.Test.YtfeoafddagdbfaaCCodeRules
set_option linter.unusedVariables false
set_option linter.unusedSimpArgs false
set_option maxRecDepth 100000
namespace Go.Proofs.Ytfeoafddagdbfaa
open Go Go.ChangeShapes Go.WideShapes
theorem okRs3 {l : List Rul} (h : l.length * 160 ≤ reachBytes ∧ ∀ r ∈ l, okRule r) : l.length * 160 ≤ 140737488351232 ∧ (∀ r ∈ l, szRw r ∧ okRl r) ∧ ∀ r ∈ l, r.l.length * 48 ≤ 140737488351232 ∧ r.b.length * 136 ≤ 140737488351232 ∧ ∀ x ∈ r.b, x.l.length * 48 ≤ 140737488351232 := by
  have h2 := hRB
  refine ⟨by have := h.1; omega, fun r hr => ?_, fun r hr => ?_⟩
  · have h3 := h.2 r hr
    refine ⟨⟨(okRule_r h3).1, ?_, fun x hx => ?_⟩, (okRule_r h3).2⟩
    · have := h3.2.1; omega
    · have := (h3.2.2.2.2.2 x hx).2.1; omega
  · obtain ⟨_, _, h5, _, h6, h7⟩ := h.2 r hr
    refine ⟨by have := h5.1; omega, by omega, fun x hx => ?_⟩
    have := (h7 x hx).2.2.1.1
    omega
namespace codeRulesSaid
set_option maxRecDepth 100000 in
theorem lifted (os : Os) (started : os.Started) (H : Type) (enc : TypeId × Value → H) :
    ReturnsInHanded {} Try.checked os 3 .any (Rows.codeRulesSpec.pre6 enc Try.prog Try.f3 Rows.codeRulesRow.domain false) (Rows.codeRulesSpec.post enc Try.prog Try.f3 false true false false) := by
  refine returnsInHanded_of_change_sized (C := Try.checked) own started (by kernel_rfl) Try.func3
    (ChangeSpec.witness6 (enc := enc) (C := Try.checked) false ⟨#[], #[.slice none 0 0], []⟩ 8 (by kernel_rfl) (by kernel_rfl) (by kernel_rfl) (by kernel_rfl)) ?_
  intro W base args ds gs before hval hW _ hw _
  have hW0 := hW
  obtain ⟨p, q, hA0, hV, rfl, hfz, hnd⟩ := hW
  have hA : DataW.TrodAll enc Try.prog W 0 (fun _ => true) true Try.f3.params.toList args.toList ds p := hA0
  rw [Try.params3] at hA hval hw
  clear hA0
  obtain ⟨v0, vs0, d0, ds0, p0, q0, hargs, rfl, rfl, h0, r0⟩ := trodAll_cons hA
  obtain ⟨rfl, rfl, rfl⟩ := trodAll_nil r0
  obtain rfl : args = #[v0] := by cases args; simp_all
  obtain ⟨rfl, rfl⟩ := trodVars_none hV
  obtain ⟨a0, o0, k0, m0⟩ := arg_one (f := fun l : List Rul => D.sl 11 l.length (flatE rulE l)) Try.underlying22 rfl (o_ruls) (hval 0 22 v0 rfl rfl) (weights_of hw 0 rfl rfl) h0
  refine (AC.calls (codeRules_ac a0 (okRs3 o0).1 (okRs3 o0).2.1 (okRs3 o0).2.2) (fun g => by simp [noG, RM]) (by simp only [RAL]; exact ⟨_, _, rfl, k0, rfl⟩)).mono fun e W' ⟨he, hk⟩ => ?_
  subst he
  exact ⟨_, rfl, post_of_kept kids full (by rw [Try.params3]; decide +kernel) (fun n hn => by cases hn) (tb := boolT) boolU rfl hW0 rfl rfl rfl hk⟩
theorem proved : Rows.CodeRulesSaid :=
  OpenClaim.holds_of_wide 3 Try.f3 rfl rfl rfl rfl rfl rfl rfl ⟨rfl, rfl, rfl, rfl, rfl⟩ rfl rfl rfl rfl rfl (by kernel_rfl) Try.func3 (by kernel_rfl)
    (of_decide_eq_true (by kernel_rfl)) (by unfold Func.isWrapper; first | (rw [if_pos (by decide +kernel)]; kernel_rfl) | (rw [if_neg (by decide +kernel)]; exact ⟨rfl, rfl⟩))
    (fun os started H enc _ => lifted os started H enc)
end codeRulesSaid
end Go.Proofs.Ytfeoafddagdbfaa
