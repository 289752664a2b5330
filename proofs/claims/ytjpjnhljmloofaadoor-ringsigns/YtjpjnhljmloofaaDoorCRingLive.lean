import Derived.Test.YtjpjnhljmloofaaDoorCRingVer
set_option linter.unusedVariables false
set_option linter.unusedSimpArgs false
set_option maxRecDepth 100000
namespace Go.Proofs.YtjpjnhljmloofaaDoor
open Go Go.ChangeShapes Go.WideShapes
def sa : ByteArray := ⟨#[97]⟩
def sbb : ByteArray := ⟨#[98]⟩
def sx : ByteArray := ⟨#[120]⟩
theorem ne_aa : newE [sa, sa] = 2 := by decide +kernel
theorem ne_a : newE [sa] = 0 := by decide +kernel
theorem se_b : signE [sa] [] sbb sx [] = 60 ∧ signB [sa] [] sbb sx [] = [] := by decide +kernel
theorem se_a : signE [sa] [] sa sx [] = 0 ∧ signB [sa] [] sa sx [] = [pr sa sx []] := by decide +kernel
theorem me_a : memB sa [sa] = true := by decide +kernel
set_option maxHeartbeats 400000 in
theorem rlive_ac : AC Tryd.prog noG 27 [] [] (fun v r' => v = .d (.c (.bool true)) ∧ r' = []) := by
  refine AC.pure ?_ (by rintro v rfl; rfl)
  refine AC_of_R (N := 53) (res := [.tmp 0]) ty_ok Tryd.call27 Tryd.func27 rfl rfl rfl (Nat.le_of_ble_eq_true rfl) ?_
  simp (config := {contextual := true, maxSteps := 1000000, implicitDefEqProofs := false}) (disch := omega) only [↓SA, SB, ST, stops, dstOK, resA, resAll, resOne, resTup, initSt, mkL, gdB, Nat.reduceLT, Nat.reduceEqDiff, Nat.reduceAdd, Nat.reduceMul, Nat.reduceLeDiff, Nat.reduceSub, Int.reduceLT, Int.reduceLE, Int.reduceAdd, Int.reduceSub, Int.reduceMul, Int.reduceToNat, Int.reduceNeg, Int.reduceEq, Int.reduceNe, if_true, if_false, ite_true, ite_false, ↓reduceIte, reduceCtorEq, forall_const, implies_true, eq_self, ne_eq, ren, renL, renM, renRes, putAll]
  refine HO_call ty_ok [] (new_bad 1 [sa, sa] (by decide) (by decide) (by rw [ne_aa]; decide)) rfl rfl rfl (by kernel_rfl) (by decide) ⟨(by simp), (by repeat' (first | exact trivial | exact WeakA.refl _ | exact WeakA.toD rfl | exact WeakA.nilD _ | refine ⟨?_, ?_⟩)), rfl, trivial, rfl⟩ (by first | exact .inl rfl | exact .inr rfl) ?_
  rintro v r' ⟨rfl, rfl⟩ _
  simp (config := {contextual := true, maxSteps := 1000000, implicitDefEqProofs := false}) (disch := omega) only [↓SA, SB, ST, stops, dstOK, resA, resAll, resOne, resTup, initSt, mkL, gdB, Nat.reduceLT, Nat.reduceEqDiff, Nat.reduceAdd, Nat.reduceMul, Nat.reduceLeDiff, Nat.reduceSub, Int.reduceLT, Int.reduceLE, Int.reduceAdd, Int.reduceSub, Int.reduceMul, Int.reduceToNat, Int.reduceNeg, Int.reduceEq, Int.reduceNe, if_true, if_false, ite_true, ite_false, ↓reduceIte, reduceCtorEq, forall_const, implies_true, eq_self, ne_eq, ren, renL, renM, renRes, putAll, ne_aa]
  refine HO_call ty_ok [] (new_ok 1 [sa] (by decide) (by decide) ne_a) rfl rfl rfl (by kernel_rfl) (by decide) ⟨(by simp), (by repeat' (first | exact trivial | exact WeakA.refl _ | exact WeakA.toD rfl | exact WeakA.nilD _ | refine ⟨?_, ?_⟩)), rfl, trivial, rfl⟩ (by first | exact .inl rfl | exact .inr rfl) ?_
  rintro v r' ⟨rfl, rfl⟩ _
  simp (config := {contextual := true, maxSteps := 1000000, implicitDefEqProofs := false}) (disch := omega) only [↓SA, SB, ST, stops, dstOK, resA, resAll, resOne, resTup, initSt, mkL, gdB, Nat.reduceLT, Nat.reduceEqDiff, Nat.reduceAdd, Nat.reduceMul, Nat.reduceLeDiff, Nat.reduceSub, Int.reduceLT, Int.reduceLE, Int.reduceAdd, Int.reduceSub, Int.reduceMul, Int.reduceToNat, Int.reduceNeg, Int.reduceEq, Int.reduceNe, if_true, if_false, ite_true, ite_false, ↓reduceIte, reduceCtorEq, forall_const, implies_true, eq_self, ne_eq, ren, renL, renM, renRes, putAll, rg, rgO]
  refine HO_call ty_ok [0, 1, 2] (sign_ac 1 [sa] [] sbb sx [] (by decide) (by decide)) rfl rfl rfl (by kernel_rfl) (by decide) ⟨(by simp), (by repeat' (first | exact trivial | exact WeakA.refl _ | exact WeakA.toD rfl | exact WeakA.nilD _ | refine ⟨?_, ?_⟩)), rfl, rg_hand _ _ _ _ _ _ _ rfl rfl rfl, rg_wf _ _ _⟩ (by first | exact .inl rfl | exact .inr rfl) ?_
  rintro v r' ⟨rfl, rfl⟩ _
  rw [se_b.1, se_b.2]
  have hZl := signT_len 1 [sa] [] sbb sx []
  generalize signT 1 [sa] [] sbb sx [] = Z at *
  obtain ⟨hl, hb, ht, hm, hsp⟩ := dig32 Z hZl
  simp (config := {contextual := true, maxSteps := 1000000, implicitDefEqProofs := false}) (disch := omega) only [↓SA, SB, ST, stops, dstOK, resA, resAll, resOne, resTup, initSt, mkL, gdB, Nat.reduceLT, Nat.reduceEqDiff, Nat.reduceAdd, Nat.reduceMul, Nat.reduceLeDiff, Nat.reduceSub, Int.reduceLT, Int.reduceLE, Int.reduceAdd, Int.reduceSub, Int.reduceMul, Int.reduceToNat, Int.reduceNeg, Int.reduceEq, Int.reduceNe, if_true, if_false, ite_true, ite_false, ↓reduceIte, reduceCtorEq, forall_const, implies_true, eq_self, ne_eq, ren, renL, renM, renRes, putAll, rg, rgO, hl, hb, ht, hm, hsp]
  clear hsp
  refine HO_call ty_ok [0, 1, 2] (sign_ac 1 [sa] [] sa sx [] (by decide) (by decide)) rfl rfl rfl (by kernel_rfl) (by decide) ⟨(by simp), (by repeat' (first | exact trivial | exact WeakA.refl _ | exact WeakA.toD rfl | exact WeakA.nilD _ | refine ⟨?_, ?_⟩)), rfl, rg_hand _ _ _ _ _ _ _ rfl rfl rfl, rg_wf _ _ _⟩ (by first | exact .inl rfl | exact .inr rfl) ?_
  rintro v r' ⟨rfl, rfl⟩ _
  have hT : signT 1 [sa] [] sa sx [] = rtag 1 sa sx [] := by rw [signT, if_pos se_a.1]
  rw [se_a.1, se_a.2, hT]
  have hTl := rtag_len 1 sa sx []
  have kv := verifyO_ac 1 [sa] [pr sa sx []] sa sx [] (rtag 1 sa sx []) (by decide) hTl
  generalize rtag 1 sa sx [] = T at *
  obtain ⟨hl, hb, ht, hm, hsp⟩ := dig32 T hTl
  simp (config := {contextual := true, maxSteps := 1000000, implicitDefEqProofs := false}) (disch := omega) only [↓SA, SB, ST, stops, dstOK, resA, resAll, resOne, resTup, initSt, mkL, gdB, Nat.reduceLT, Nat.reduceEqDiff, Nat.reduceAdd, Nat.reduceMul, Nat.reduceLeDiff, Nat.reduceSub, Int.reduceLT, Int.reduceLE, Int.reduceAdd, Int.reduceSub, Int.reduceMul, Int.reduceToNat, Int.reduceNeg, Int.reduceEq, Int.reduceNe, if_true, if_false, ite_true, ite_false, ↓reduceIte, reduceCtorEq, forall_const, implies_true, eq_self, ne_eq, ren, renL, renM, renRes, putAll, rg, rgO, hl, hb, ht, hm, hsp]
  clear hsp
  refine ⟨⟨by decide, by decide⟩, HO_call ty_ok [0, 1, 2, 4] kv rfl rfl rfl (by kernel_rfl) (by decide) ⟨(by simp), (by repeat' (first | exact trivial | exact WeakA.refl _ | exact WeakA.toD rfl | exact WeakA.nilD _ | refine ⟨?_, ?_⟩)), rfl, rgT_hand _ _ _ _ _ _ _ _ _ rfl rfl rfl rfl, rgT_wf _ _ _ _⟩ (by first | exact .inl rfl | exact .inr rfl) ?_⟩
  rintro v r' ⟨rfl, rfl⟩ _
  simp (config := {contextual := true, maxSteps := 1000000, implicitDefEqProofs := false}) (disch := omega) only [↓SA, SB, ST, stops, dstOK, resA, resAll, resOne, resTup, initSt, mkL, gdB, Nat.reduceLT, Nat.reduceEqDiff, Nat.reduceAdd, Nat.reduceMul, Nat.reduceLeDiff, Nat.reduceSub, Int.reduceLT, Int.reduceLE, Int.reduceAdd, Int.reduceSub, Int.reduceMul, Int.reduceToNat, Int.reduceNeg, Int.reduceEq, Int.reduceNe, if_true, if_false, ite_true, ite_false, ↓reduceIte, reduceCtorEq, forall_const, implies_true, eq_self, ne_eq, ren, renL, renM, renRes, putAll, rgT, rgO, me_a, ren_bA]
  refine HO_call ty_ok [0, 1, 2] (rlen_ac 1 [sa] [pr sa sx []]) rfl rfl rfl (by kernel_rfl) (by decide) ⟨(by simp), (by repeat' (first | exact trivial | exact WeakA.refl _ | exact WeakA.toD rfl | exact WeakA.nilD _ | refine ⟨?_, ?_⟩)), rfl, rg_hand _ _ _ _ _ _ _ rfl rfl rfl, rg_wf _ _ _⟩ (by first | exact .inl rfl | exact .inr rfl) ?_
  rintro v r' ⟨rfl, rfl⟩ _
  simp (config := {contextual := true, maxSteps := 1000000, implicitDefEqProofs := false}) (disch := omega) only [↓SA, SB, ST, stops, dstOK, resA, resAll, resOne, resTup, initSt, mkL, gdB, Nat.reduceLT, Nat.reduceEqDiff, Nat.reduceAdd, Nat.reduceMul, Nat.reduceLeDiff, Nat.reduceSub, Int.reduceLT, Int.reduceLE, Int.reduceAdd, Int.reduceSub, Int.reduceMul, Int.reduceToNat, Int.reduceNeg, Int.reduceEq, Int.reduceNe, if_true, if_false, ite_true, ite_false, ↓reduceIte, reduceCtorEq, forall_const, implies_true, eq_self, ne_eq, ren, renL, renM, renRes, putAll, rg, rgO]
end Go.Proofs.YtjpjnhljmloofaaDoor
