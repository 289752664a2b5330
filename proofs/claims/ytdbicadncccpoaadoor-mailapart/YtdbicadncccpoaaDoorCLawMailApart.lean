import Derived.Test.YtdbicadncccpoaaDoorCCloseV
import Derived.Test.YtdbicadncccpoaaDoorCJ15
import Derived.Test.YtdbicadncccpoaaDoorCMailApart
set_option linter.unusedVariables false
set_option linter.unusedSimpArgs false
set_option maxRecDepth 100000
namespace Go.Proofs.YtdbicadncccpoaaDoor
open Go Go.ChangeShapes Go.WideShapes
namespace mailApartSaid
theorem laid_met (os : Os) : laidMet Tryd.prog Rows.mailApartRow.laid ((laidWorld os #[wPk, wPk, .int .i64 0]).forCall (fun _ _ => 0) ⟨#[], #[wPk, wPk, .int .i64 0], []⟩).memory :=
  laidMet_of_run' 8 (by kernel_rfl) (by kernel_rfl)
theorem reads (os : Os) {H : Type} (enc : TypeId × Value → H) : DataW.whole enc Tryd.prog ((laidWorld os #[wPk, wPk, .int .i64 0]).forCall (fun _ _ => 0) ⟨#[], #[wPk, wPk, .int .i64 0], []⟩).memory Tryd.f6.params.toList Rows.mailApartSpec.vars false #[wPk, wPk, .int .i64 0].toList 8 = some ([wPkD, wPkD, .lit (.int .i64 0)], [], []) := by kernel_rfl
set_option maxRecDepth 100000 in
theorem lifted (os : Os) (started : os.Started) (H : Type) (enc : TypeId × Value → H) (F : Stop.Interp) :
    ReturnsInHanded {} Tryd.checked os 6 .any ((OpenSpec.ofChange Rows.mailApartSpec).preRow enc Tryd.prog Tryd.f6 Rows.mailApartRow.domain false Rows.mailApartRow.laid) (((OpenSpec.ofChange Rows.mailApartSpec).at F).post enc Tryd.prog Tryd.f6 false true false false) := by
  refine returnsInHanded_of_row (C := Tryd.checked) (s := (OpenSpec.ofChange Rows.mailApartSpec)) own started (by kernel_rfl) Tryd.func6
    (witness_row_at (enc := enc) (C := Tryd.checked) false (laidWorld os #[wPk, wPk, .int .i64 0]) #[wPk, wPk, .int .i64 0] rfl (by kernel_rfl) (by kernel_rfl) (by kernel_rfl)
      (OpenSpec.preRow_of_cond 8 (reads os enc) (by kernel_rfl) (fun k hk => by cases hk) (by kernel_rfl) (laid_met os))) ?_
  intro W base args ds gs before hval hW _ hkk hw hL _ _
  have hW0 := hW
  obtain ⟨p, q, hA0, hV, rfl, hfz, hnd⟩ := hW
  have hA : DataW.TrodAll enc Tryd.prog W 0 (fun _ => true) true Tryd.f6.params.toList args.toList ds p := hA0
  rw [Tryd.params6] at hA hval hw
  clear hA0
  obtain ⟨v0, vs0, d0, ds0, p0, q0, hargs, rfl, rfl, h0, r0⟩ := trodAll_cons hA
  obtain ⟨v1, vs1, d1, ds1, p1, q1, rfl, rfl, rfl, h1, r1⟩ := trodAll_cons r0
  obtain ⟨v2, vs2, d2, ds2, p2, q2, rfl, rfl, rfl, h2, r2⟩ := trodAll_cons r1
  obtain ⟨rfl, rfl, rfl⟩ := trodAll_nil r2
  obtain rfl : args = #[v0, v1, v2] := by cases args; simp_all
  obtain ⟨rfl, rfl⟩ := trodVars_none hV
  obtain ⟨a0, o0, k0, m0⟩ := arg_agg (en := pktE) Tryd.underlying33 rfl (o_pkt) (hval 0 33 v0 rfl rfl) (weights_of hw 0 rfl rfl) h0
  obtain ⟨a1, o1, k1, m1⟩ := arg_agg (en := pktE) Tryd.underlying33 rfl (o_pkt) (hval 1 33 v1 rfl rfl) (weights_of hw 1 rfl rfl) h1
  obtain ⟨a2, o2, k2, m2⟩ := arg_one (f := fun n : Int => D.c (.int .i64 n)) Tryd.underlying3 rfl (opens_int Tryd.underlying3) (hval 2 3 v2 rfl rfl) (weights_of hw 2 rfl rfl) h2
  refine (AC.calls (mailApart_ac a0 a1 a2 (okPk_p o0).1 (okPk_p o0).2 (okPk_p o1).1 (okPk_p o1).2 o2.1 o2.2) (laid_globs hL) (by simp only [RAL]; exact ⟨_, _, rfl, k0, _, _, rfl, k1, _, _, rfl, k2, rfl⟩)).mono fun e W' ⟨he, hk⟩ => ?_
  subst he
  exact ⟨_, rfl, post_of_kept kids full (by rw [Tryd.params6]; decide +kernel) (fun n hn => by cases hn) (tb := boolT) boolU rfl hW0 rfl rfl rfl hk⟩
theorem said : Rows.MailApartSaid :=
  OpenClaim.holds_of_cond 6 Tryd.f6 rfl rfl rfl rfl rfl rfl rfl ⟨rfl, rfl, rfl, rfl, rfl⟩ rfl rfl rfl rfl rfl (by kernel_rfl) Tryd.func6 (by kernel_rfl)
    (of_decide_eq_true (by kernel_rfl)) (by unfold Func.isWrapper; first | (rw [if_pos (by decide +kernel)]; kernel_rfl) | (rw [if_neg (by decide +kernel)]; exact ⟨rfl, rfl⟩))
    (fun os started H enc _ F => by rw [OpenClaim.pre_eq_preRow]; exact lifted os started H enc F)
theorem plain (f : FuncId) (fn : Func) (hf : Tryd.pinned.checked.prog.funcNamed "avowal/avowallaw21.MailApart" = some f) (hfn : Tryd.pinned.checked.prog.funcs[f]? = some fn) :
    false = Tryd.pinned.checked.prog.looks [] ∧ ∀ (j : Nat) t, fn.params[j]? = some t → Tryd.pinned.checked.prog.wantsStandIn t = false := by
  obtain rfl : f = 6 := Option.some.inj ((show Tryd.prog.funcNamed "avowal/avowallaw21.MailApart" = some 6 by kernel_rfl).symm.trans hf) |>.symm
  obtain rfl : fn = Tryd.f6 := (Option.some.inj (Tryd.func6.symm.trans hfn)).symm
  refine ⟨by kernel_rfl, fun j t ht => ?_⟩
  rw [Tryd.params6] at ht
  have hm := Array.mem_of_getElem? ht
  simp only [List.mem_toArray, List.mem_cons, List.not_mem_nil, or_false] at hm
  have key : ∀ t ∈ [33, 33, 3], Tryd.pinned.checked.prog.wantsStandIn t = false := by decide +kernel
  exact key t (by simpa using hm)
theorem proved : Rows.MailApartCardSaid :=
  Claim7.holds_tied_plain_at .later [] _ _ _ _ said (fun _ h => by cases h) (by kernel_rfl) (fun _ h => by cases h) mailApart_row_tie rfl ⟨rfl, rfl⟩ (by kernel_rfl) rfl plain (by kernel_rfl)
end mailApartSaid
end Go.Proofs.YtdbicadncccpoaaDoor
