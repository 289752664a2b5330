import Derived.Test.YtdbicadncccpoaaDoorCCloseV
import Derived.Test.YtdbicadncccpoaaDoorCJ15
import Derived.Test.YtdbicadncccpoaaDoorCMailBack
set_option linter.unusedVariables false
set_option linter.unusedSimpArgs false
set_option maxRecDepth 100000
namespace Go.Proofs.YtdbicadncccpoaaDoor
open Go Go.ChangeShapes Go.WideShapes
namespace mailBackSaid
theorem laid_met (os : Os) : laidMet Tryd.prog Rows.mailBackRow.laid ((laidWorld os #[wPk, .slice none 0 0]).forCall (fun _ _ => 0) ⟨#[], #[wPk, .slice none 0 0], []⟩).memory :=
  laidMet_of_run' 8 (by kernel_rfl) (by kernel_rfl)
theorem reads (os : Os) {H : Type} (enc : TypeId × Value → H) : DataW.whole enc Tryd.prog ((laidWorld os #[wPk, .slice none 0 0]).forCall (fun _ _ => 0) ⟨#[], #[wPk, .slice none 0 0], []⟩).memory Tryd.f5.params.toList Rows.mailBackSpec.vars false #[wPk, .slice none 0 0].toList 8 = some ([wPkD, .nil], [], []) := by kernel_rfl
set_option maxRecDepth 100000 in
theorem lifted (os : Os) (started : os.Started) (H : Type) (enc : TypeId × Value → H) (F : Stop.Interp) :
    ReturnsInHanded {} Tryd.checked os 5 .any ((OpenSpec.ofChange Rows.mailBackSpec).preRow enc Tryd.prog Tryd.f5 Rows.mailBackRow.domain false Rows.mailBackRow.laid) (((OpenSpec.ofChange Rows.mailBackSpec).at F).post enc Tryd.prog Tryd.f5 false true false false) := by
  refine returnsInHanded_of_row (C := Tryd.checked) (s := (OpenSpec.ofChange Rows.mailBackSpec)) own started (by kernel_rfl) Tryd.func5
    (witness_row_at (enc := enc) (C := Tryd.checked) false (laidWorld os #[wPk, .slice none 0 0]) #[wPk, .slice none 0 0] rfl (by kernel_rfl) (by kernel_rfl) (by kernel_rfl)
      (OpenSpec.preRow_of_cond 8 (reads os enc) (by kernel_rfl) (fun k hk => by cases hk) (by kernel_rfl) (laid_met os))) ?_
  intro W base args ds gs before hval hW _ hkk hw hL _ _
  have hW0 := hW
  obtain ⟨p, q, hA0, hV, rfl, hfz, hnd⟩ := hW
  have hA : DataW.TrodAll enc Tryd.prog W 0 (fun _ => true) true Tryd.f5.params.toList args.toList ds p := hA0
  rw [Tryd.params5] at hA hval hw
  clear hA0
  obtain ⟨v0, vs0, d0, ds0, p0, q0, hargs, rfl, rfl, h0, r0⟩ := trodAll_cons hA
  obtain ⟨v1, vs1, d1, ds1, p1, q1, rfl, rfl, rfl, h1, r1⟩ := trodAll_cons r0
  obtain ⟨rfl, rfl, rfl⟩ := trodAll_nil r1
  obtain rfl : args = #[v0, v1] := by cases args; simp_all
  obtain ⟨rfl, rfl⟩ := trodVars_none hV
  obtain ⟨a0, o0, k0, m0⟩ := arg_agg (en := pktE) Tryd.underlying33 rfl (o_pkt) (hval 0 33 v0 rfl rfl) (weights_of hw 0 rfl rfl) h0
  obtain ⟨a1, o1, k1, m1⟩ := arg_one (f := fun l : List UInt8 => D.sl 1 l.length (bD l)) Tryd.underlying40 rfl (opens_bytes Tryd.underlying40 Tryd.underlying5 (by kernel_rfl) (by kernel_rfl)) (hval 1 40 v1 rfl rfl) (weights_of hw 1 rfl rfl) h1
  refine (AC.calls (mailBack_ac a0 a1 (okPk_p o0).1 (okPk_p o0).2 (Nat.le_trans o1 (by decide))) (laid_globs hL) (by simp only [RAL]; exact ⟨_, _, rfl, k0, _, _, rfl, k1, rfl⟩)).mono fun e W' ⟨he, hk⟩ => ?_
  subst he
  exact ⟨_, rfl, post_of_kept kids full (by rw [Tryd.params5]; decide +kernel) (fun n hn => by cases hn) (tb := boolT) boolU rfl hW0 rfl rfl rfl hk⟩
theorem said : Rows.MailBackSaid :=
  OpenClaim.holds_of_cond 5 Tryd.f5 rfl rfl rfl rfl rfl rfl rfl ⟨rfl, rfl, rfl, rfl, rfl⟩ rfl rfl rfl rfl rfl (by kernel_rfl) Tryd.func5 (by kernel_rfl)
    (of_decide_eq_true (by kernel_rfl)) (by unfold Func.isWrapper; first | (rw [if_pos (by decide +kernel)]; kernel_rfl) | (rw [if_neg (by decide +kernel)]; exact ⟨rfl, rfl⟩))
    (fun os started H enc _ F => by rw [OpenClaim.pre_eq_preRow]; exact lifted os started H enc F)
theorem plain (f : FuncId) (fn : Func) (hf : Tryd.pinned.checked.prog.funcNamed "avowal/avowallaw21.MailBack" = some f) (hfn : Tryd.pinned.checked.prog.funcs[f]? = some fn) :
    false = Tryd.pinned.checked.prog.looks [] ∧ ∀ (j : Nat) t, fn.params[j]? = some t → Tryd.pinned.checked.prog.wantsStandIn t = false := by
  obtain rfl : f = 5 := Option.some.inj ((show Tryd.prog.funcNamed "avowal/avowallaw21.MailBack" = some 5 by kernel_rfl).symm.trans hf) |>.symm
  obtain rfl : fn = Tryd.f5 := (Option.some.inj (Tryd.func5.symm.trans hfn)).symm
  refine ⟨by kernel_rfl, fun j t ht => ?_⟩
  rw [Tryd.params5] at ht
  have hm := Array.mem_of_getElem? ht
  simp only [List.mem_toArray, List.mem_cons, List.not_mem_nil, or_false] at hm
  have key : ∀ t ∈ [33, 40], Tryd.pinned.checked.prog.wantsStandIn t = false := by decide +kernel
  exact key t (by simpa using hm)
theorem proved : Rows.MailBackCardSaid :=
  Claim7.holds_tied_plain_at .later [] _ _ _ _ said (fun _ h => by cases h) (by kernel_rfl) (fun _ h => by cases h) mailBack_row_tie rfl ⟨rfl, rfl⟩ (by kernel_rfl) rfl plain (by kernel_rfl)
end mailBackSaid
end Go.Proofs.YtdbicadncccpoaaDoor
