import Derived.Test.YtdbicadncccpoaaGreatCClose
import Derived.Test.YtdbicadncccpoaaGreatCJ13
import Derived.Test.YtdbicadncccpoaaGreatCCertBytes
set_option linter.unusedVariables false
set_option linter.unusedSimpArgs false
set_option maxRecDepth 100000
namespace Go.Proofs.YtdbicadncccpoaaGreat
open Go Go.ChangeShapes Go.WideShapes
theorem okEs {l : List Ntr} (h : l.length * 144 ≤ reachBytes ∧ ∀ x ∈ l, okNt x) : l.length ≤ 140737488352000 ∧ (∀ x ∈ l, szE x) ∧ ∀ x ∈ l, ∀ g ∈ facX x, okF g := by
  have h1 := h.1
  have h2 := hRB
  exact ⟨by omega, fun x hx => (okNt_sz (h.2 x hx)).1, fun x hx => (okNt_sz (h.2 x hx)).2⟩
namespace certBytesSaid
set_option maxRecDepth 100000 in
theorem lifted (os : Os) (started : os.Started) (H : Type) (enc : TypeId × Value → H) :
    ReturnsInHanded {} Tryz.checked os 3 .any (Rows.certBytesSpec.pre6 enc Tryz.prog Tryz.f3 Rows.certBytesRow.domain false) (Rows.certBytesSpec.post enc Tryz.prog Tryz.f3 false true false false) := by
  refine returnsInHanded_of_change_sized (C := Tryz.checked) own started (by kernel_rfl) Tryz.func3
    (ChangeSpec.witness6 (enc := enc) (C := Tryz.checked) false ⟨#[], #[.slice none 0 0, .slice none 0 0], []⟩ 8 (by kernel_rfl) (by kernel_rfl) (by kernel_rfl) (by kernel_rfl)) ?_
  intro W base args ds gs before hval hW _ hw _
  have hW0 := hW
  obtain ⟨p, q, hA0, hV, rfl, hfz, hnd⟩ := hW
  have hA : DataW.TrodAll enc Tryz.prog W 0 (fun _ => true) true Tryz.f3.params.toList args.toList ds p := hA0
  rw [Tryz.params3] at hA hval hw
  clear hA0
  obtain ⟨v0, vs0, d0, ds0, p0, q0, hargs, rfl, rfl, h0, r0⟩ := trodAll_cons hA
  obtain ⟨v1, vs1, d1, ds1, p1, q1, rfl, rfl, rfl, h1, r1⟩ := trodAll_cons r0
  obtain ⟨rfl, rfl, rfl⟩ := trodAll_nil r1
  obtain rfl : args = #[v0, v1] := by cases args; simp_all
  obtain ⟨rfl, rfl⟩ := trodVars_none hV
  obtain ⟨a0, o0, k0, m0⟩ := arg_one (f := fun l : List Ntr => D.sl 39 l.length (flE l)) Tryz.underlying22 rfl (o_ents) (hval 0 22 v0 rfl rfl) (weights_of hw 0 rfl rfl) h0
  obtain ⟨a1, o1, k1, m1⟩ := arg_one (f := fun l : List UInt8 => D.sl 1 l.length (bD l)) Tryz.underlying23 rfl (opens_bytes Tryz.underlying23 Tryz.underlying5 (by kernel_rfl) (by kernel_rfl)) (hval 1 23 v1 rfl rfl) (weights_of hw 1 rfl rfl) h1
  refine (AC.calls (certBytes_ac a0 a1 (okEs o0).1 (okEs o0).2.1 (okEs o0).2.2 (Nat.le_trans o1 (by decide))) (fun g => by simp [noG, RM]) (by simp only [RAL]; exact ⟨_, _, rfl, k0, _, _, rfl, k1, rfl⟩)).mono fun e W' ⟨he, hk⟩ => ?_
  subst he
  exact ⟨_, rfl, post_of_kept kids full (by rw [Tryz.params3]; decide +kernel) (fun n hn => by cases hn) (tb := boolT) boolU rfl hW0 rfl rfl rfl hk⟩
theorem proved : Rows.CertBytesSaid :=
  OpenClaim.holds_of_wide 3 Tryz.f3 rfl rfl rfl rfl rfl rfl rfl ⟨rfl, rfl, rfl, rfl, rfl⟩ rfl rfl rfl rfl rfl (by kernel_rfl) Tryz.func3 (by kernel_rfl)
    (of_decide_eq_true (by kernel_rfl)) (by unfold Func.isWrapper; first | (rw [if_pos (by decide +kernel)]; kernel_rfl) | (rw [if_neg (by decide +kernel)]; exact ⟨rfl, rfl⟩))
    (fun os started H enc _ => lifted os started H enc)
end certBytesSaid
end Go.Proofs.YtdbicadncccpoaaGreat
