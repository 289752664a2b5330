import Derived.Test.YtfeoafddagdbfaaCClose
import Derived.Test.YtfeoafddagdbfaaCOpenC
import Derived.Test.YtfeoafddagdbfaaCOpenA
import Derived.Test.YtfeoafddagdbfaaCCodeSames
set_option linter.unusedVariables false
set_option linter.unusedSimpArgs false
set_option maxRecDepth 100000
namespace Go.Proofs.Ytfeoafddagdbfaa
open Go Go.ChangeShapes Go.WideShapes
theorem o_rul2 : Opens Try.prog 60 (fun x : Rul × Rul => rul2 x.1 x.2) (fun _ => 1) (fun x => okRule x.1 ∧ okRule x.2) := by
  refine (opens_array (n := 2) (sz := 11) Try.underlying60 (by kernel_rfl) (by kernel_rfl) (fun a _ => rfl) o_rul).mono (fun l => match l with | [a, b] => (a, b) | _ => (⟨zT, ⟨#[]⟩, [], zT, []⟩, ⟨zT, ⟨#[]⟩, [], zT, []⟩)) ?_ (fun _ _ => Nat.le_refl _) ?_
  · intro l hl
    match l, hl.1 with
    | [a, b], _ => simp [rul2]
  · intro l hl
    match l, hl.1 with
    | [a, b], _ => exact ⟨hl.2 a (by simp), hl.2 b (by simp)⟩
namespace codeSamesSaid
set_option maxRecDepth 100000 in
theorem lifted (os : Os) (started : os.Started) (H : Type) (enc : TypeId × Value → H) :
    ReturnsInHanded {} Try.checked os 9 .any (Rows.codeSamesSpec.pre6 enc Try.prog Try.f9 Rows.codeSamesRow.domain false) (Rows.codeSamesSpec.post enc Try.prog Try.f9 false true false false) := by
  refine returnsInHanded_of_change_sized (C := Try.checked) own started (by kernel_rfl) Try.func9
    (ChangeSpec.witness6 (enc := enc) (C := Try.checked) false ⟨#[], #[.agg #[.string .empty, .string .empty, .string .empty, .slice none 0 0], .agg #[.string .empty, .string .empty, .string .empty, .slice none 0 0], .agg #[.string .empty, .bool false, .int .i64 0, .string .empty, .string .empty, .slice none 0 0, .string .empty, .bool false, .int .i64 0, .string .empty, .slice none 0 0, .string .empty, .bool false, .int .i64 0, .string .empty, .string .empty, .slice none 0 0, .string .empty, .bool false, .int .i64 0, .string .empty, .slice none 0 0]], []⟩ 8 (by kernel_rfl) (by kernel_rfl) (by kernel_rfl) (by kernel_rfl)) ?_
  intro W base args ds gs before hval hW _ hw _
  have hW0 := hW
  obtain ⟨p, q, hA0, hV, rfl, hfz, hnd⟩ := hW
  have hA : DataW.TrodAll enc Try.prog W 0 (fun _ => true) true Try.f9.params.toList args.toList ds p := hA0
  rw [Try.params9] at hA hval hw
  clear hA0
  obtain ⟨v0, vs0, d0, ds0, p0, q0, hargs, rfl, rfl, h0, r0⟩ := trodAll_cons hA
  obtain ⟨v1, vs1, d1, ds1, p1, q1, rfl, rfl, rfl, h1, r1⟩ := trodAll_cons r0
  obtain ⟨v2, vs2, d2, ds2, p2, q2, rfl, rfl, rfl, h2, r2⟩ := trodAll_cons r1
  obtain ⟨rfl, rfl, rfl⟩ := trodAll_nil r2
  obtain rfl : args = #[v0, v1, v2] := by cases args; simp_all
  obtain ⟨rfl, rfl⟩ := trodVars_none hV
  obtain ⟨a0, o0, k0, m0⟩ := arg_agg (en := fctE) Try.underlying40 rfl (o_fct) (hval 0 40 v0 rfl rfl) (weights_of hw 0 rfl rfl) h0
  obtain ⟨a1, o1, k1, m1⟩ := arg_agg (en := fctE) Try.underlying40 rfl (o_fct) (hval 1 40 v1 rfl rfl) (weights_of hw 1 rfl rfl) h1
  obtain ⟨a2, o2, k2, m2⟩ := arg_agg (en := fun x : Rul × Rul => rul2 x.1 x.2) Try.underlying60 rfl (o_rul2) (hval 2 60 v2 rfl rfl) (weights_of hw 2 rfl rfl) h2
  refine (AC.calls (codeSames_ac a0 a1 a2.1 a2.2 (okFct_f o0).2.2.2.2.1 (okFct_f o1).2.2.2.2.1 (okRule_r o2.1).1 (okRule_r o2.2).1) (fun g => by simp [noG, RM]) (by simp only [RAL]; exact ⟨_, _, rfl, k0, _, _, rfl, k1, _, _, rfl, k2, rfl⟩)).mono fun e W' ⟨he, hk⟩ => ?_
  subst he
  exact ⟨_, rfl, post_of_kept kids full (by rw [Try.params9]; decide +kernel) (fun n hn => by cases hn) (tb := boolT) boolU rfl hW0 rfl rfl rfl hk⟩
theorem proved : Rows.CodeSamesSaid :=
  OpenClaim.holds_of_wide 9 Try.f9 rfl rfl rfl rfl rfl rfl rfl ⟨rfl, rfl, rfl, rfl, rfl⟩ rfl rfl rfl rfl rfl (by kernel_rfl) Try.func9 (by kernel_rfl)
    (of_decide_eq_true (by kernel_rfl)) (by unfold Func.isWrapper; first | (rw [if_pos (by decide +kernel)]; kernel_rfl) | (rw [if_neg (by decide +kernel)]; exact ⟨rfl, rfl⟩))
    (fun os started H enc _ => lifted os started H enc)
end codeSamesSaid
end Go.Proofs.Ytfeoafddagdbfaa
