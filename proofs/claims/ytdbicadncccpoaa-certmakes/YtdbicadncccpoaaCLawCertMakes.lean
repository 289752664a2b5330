import Derived.Test.YtdbicadncccpoaaCClose
import Derived.Test.YtdbicadncccpoaaCJ16
import Derived.Test.YtdbicadncccpoaaCCertMakes
set_option linter.unusedVariables false
set_option linter.unusedSimpArgs false
set_option maxRecDepth 100000
namespace Go.Proofs.Ytdbicadncccpoaa
open Go Go.ChangeShapes Go.WideShapes
namespace certMakesSaid
set_option maxRecDepth 100000 in
theorem lifted (os : Os) (started : os.Started) (H : Type) (enc : TypeId × Value → H) :
    ReturnsInHanded {} Try.checked os 5 .any (Rows.certMakesSpec.pre6 enc Try.prog Try.f5 Rows.certMakesRow.domain false) (Rows.certMakesSpec.post enc Try.prog Try.f5 false true false false) := by
  refine returnsInHanded_of_change_sized (C := Try.checked) own started (by kernel_rfl) Try.func5
    (ChangeSpec.witness6 (enc := enc) (C := Try.checked) false ⟨#[], #[.slice none 0 0, .string .empty, .agg #[.string .empty, .string .empty, .string .empty, .slice none 0 0]], []⟩ 8 (by kernel_rfl) (by kernel_rfl) (by kernel_rfl) (by kernel_rfl)) ?_
  intro W base args ds gs before hval hW _ hw _
  have hW0 := hW
  obtain ⟨p, q, hA0, hV, rfl, hfz, hnd⟩ := hW
  have hA : DataW.TrodAll enc Try.prog W 0 (fun _ => true) true Try.f5.params.toList args.toList ds p := hA0
  rw [Try.params5] at hA hval hw
  clear hA0
  obtain ⟨v0, vs0, d0, ds0, p0, q0, hargs, rfl, rfl, h0, r0⟩ := trodAll_cons hA
  obtain ⟨v1, vs1, d1, ds1, p1, q1, rfl, rfl, rfl, h1, r1⟩ := trodAll_cons r0
  obtain ⟨v2, vs2, d2, ds2, p2, q2, rfl, rfl, rfl, h2, r2⟩ := trodAll_cons r1
  obtain ⟨rfl, rfl, rfl⟩ := trodAll_nil r2
  obtain rfl : args = #[v0, v1, v2] := by cases args; simp_all
  obtain ⟨rfl, rfl⟩ := trodVars_none hV
  obtain ⟨a0, o0, k0, m0⟩ := arg_one (f := fun l : List Knw => D.sl 2 l.length (flatE knE l)) Try.underlying52 rfl (o_kns) (hval 0 52 v0 rfl rfl) (weights_of hw 0 rfl rfl) h0
  obtain ⟨a1, o1, k1, m1⟩ := arg_one (f := fun s : ByteArray => D.c (.string s)) Try.underlying9 rfl (opens_string Try.underlying9) (hval 1 9 v1 rfl rfl) (weights_of hw 1 rfl rfl) h1
  obtain ⟨a2, o2, k2, m2⟩ := arg_agg (en := fctE) Try.underlying24 rfl (o_fct) (hval 2 24 v2 rfl rfl) (weights_of hw 2 rfl rfl) h2
  refine (AC.calls (certMakes_ac a0 (okKns o0).1 (okKns o0).2 a1 a2 (okFct_l o2)) (fun g => by simp [noG, RM]) (by simp only [RAL]; exact ⟨_, _, rfl, k0, _, _, rfl, k1, _, _, rfl, k2, rfl⟩)).mono fun e W' ⟨he, hk⟩ => ?_
  subst he
  exact ⟨_, rfl, post_of_kept kids full (by rw [Try.params5]; decide +kernel) (fun n hn => by cases hn) (tb := boolT) boolU rfl hW0 rfl rfl rfl hk⟩
theorem proved : Rows.CertMakesSaid :=
  OpenClaim.holds_of_wide 5 Try.f5 rfl rfl rfl rfl rfl rfl rfl ⟨rfl, rfl, rfl, rfl, rfl⟩ rfl rfl rfl rfl rfl (by kernel_rfl) Try.func5 (by kernel_rfl)
    (of_decide_eq_true (by kernel_rfl)) (by unfold Func.isWrapper; first | (rw [if_pos (by decide +kernel)]; kernel_rfl) | (rw [if_neg (by decide +kernel)]; exact ⟨rfl, rfl⟩))
    (fun os started H enc _ => lifted os started H enc)
end certMakesSaid
end Go.Proofs.Ytdbicadncccpoaa
