import Derived.Test.YthdjblfiiogmgaaCClose
import Derived.Test.YthdjblfiiogmgaaCJ4
import Derived.Test.YthdjblfiiogmgaaCTableStops
set_option linter.unusedVariables false
set_option linter.unusedSimpArgs false
set_option maxRecDepth 100000
namespace Go.Proofs.Ythdjblfiiogmgaa
open Go Go.ChangeShapes Go.WideShapes
theorem okFct_sz {f : Fct} (h : okFct f) : szF f := by
  have h2 := hRB
  have h3 := h.1
  have h4 := h.2.1
  refine ⟨by omega, by omega, by omega, by omega, fun c hc => ?_⟩
  have := (h.2.2 c hc).2
  omega
theorem okFs_t {l : List Fct} (h : l.length * 72 ≤ reachBytes ∧ ∀ f ∈ l, okFct f) : (∀ f ∈ l, szF f) ∧ l.length ≤ 140737488352000 := ⟨fun f hf => okFct_sz (h.2 f hf), by have := h.1; have := hRB; omega⟩
namespace tableStopsSaid
set_option maxRecDepth 100000 in
theorem lifted (os : Os) (started : os.Started) (H : Type) (enc : TypeId × Value → H) :
    ReturnsInHanded {} Try.checked os 4 .any (Rows.tableStopsSpec.pre6 enc Try.prog Try.f4 Rows.tableStopsRow.domain false) (Rows.tableStopsSpec.post enc Try.prog Try.f4 false true false false) := by
  refine returnsInHanded_of_change_sized (C := Try.checked) own started (by kernel_rfl) Try.func4
    (ChangeSpec.witness6 (enc := enc) (C := Try.checked) false ⟨#[], #[.slice none 0 0, .int .i64 0, .agg #[.string .empty, .string .empty, .string .empty, .slice none 0 0]], []⟩ 8 (by kernel_rfl) (by kernel_rfl) (by kernel_rfl) (by kernel_rfl)) ?_
  intro W base args ds gs before hval hW _ hw _
  have hW0 := hW
  obtain ⟨p, q, hA0, hV, rfl, hfz, hnd⟩ := hW
  have hA : DataW.TrodAll enc Try.prog W 0 (fun _ => true) true Try.f4.params.toList args.toList ds p := hA0
  rw [Try.params4] at hA hval hw
  clear hA0
  obtain ⟨v0, vs0, d0, ds0, p0, q0, hargs, rfl, rfl, h0, r0⟩ := trodAll_cons hA
  obtain ⟨v1, vs1, d1, ds1, p1, q1, rfl, rfl, rfl, h1, r1⟩ := trodAll_cons r0
  obtain ⟨v2, vs2, d2, ds2, p2, q2, rfl, rfl, rfl, h2, r2⟩ := trodAll_cons r1
  obtain ⟨rfl, rfl, rfl⟩ := trodAll_nil r2
  obtain rfl : args = #[v0, v1, v2] := by cases args; simp_all
  obtain ⟨rfl, rfl⟩ := trodVars_none hV
  obtain ⟨a0, o0, k0, m0⟩ := arg_one (f := fun l : List Fct => D.sl 4 l.length (flatE fctE l)) Try.underlying22 rfl (o_fcts) (hval 0 22 v0 rfl rfl) (weights_of hw 0 rfl rfl) h0
  obtain ⟨a1, o1, k1, m1⟩ := arg_one (f := fun n : Int => D.c (.int .i64 n)) Try.underlying3 rfl (opens_int Try.underlying3) (hval 1 3 v1 rfl rfl) (weights_of hw 1 rfl rfl) h1
  obtain ⟨a2, o2, k2, m2⟩ := arg_agg (en := fctE) Try.underlying32 rfl (o_fct) (hval 2 32 v2 rfl rfl) (weights_of hw 2 rfl rfl) h2
  refine (AC.calls (tableStops_ac a0 a1 a2 (okFs_t o0).2 (okFs_t o0).1 (okFct_sz o2).2.2.2.1) (fun g => by simp [noG, RM]) (by simp only [RAL]; exact ⟨_, _, rfl, k0, _, _, rfl, k1, _, _, rfl, k2, rfl⟩)).mono fun e W' ⟨he, hk⟩ => ?_
  subst he
  exact ⟨_, rfl, post_of_kept kids full (by rw [Try.params4]; decide +kernel) (fun n hn => by cases hn) (tb := boolT) boolU rfl hW0 rfl rfl rfl hk⟩
theorem proved : Rows.TableStopsSaid :=
  OpenClaim.holds_of_wide 4 Try.f4 rfl rfl rfl rfl rfl rfl rfl ⟨rfl, rfl, rfl, rfl, rfl⟩ rfl rfl rfl rfl rfl (by kernel_rfl) Try.func4 (by kernel_rfl)
    (of_decide_eq_true (by kernel_rfl)) (by unfold Func.isWrapper; first | (rw [if_pos (by decide +kernel)]; kernel_rfl) | (rw [if_neg (by decide +kernel)]; exact ⟨rfl, rfl⟩))
    (fun os started H enc _ => lifted os started H enc)
end tableStopsSaid
end Go.Proofs.Ythdjblfiiogmgaa
