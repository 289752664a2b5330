import Derived.Test.YtjpjnhljmloofaaDoorCMacLive
set_option linter.unusedVariables false
set_option linter.unusedSimpArgs false
set_option maxRecDepth 100000
namespace Go.Proofs.YtjpjnhljmloofaaDoor
open Go Go.ChangeShapes Go.WideShapes
def kz (key : List UInt8) (j : Nat) : List UInt8 := key ++ List.replicate j 0
theorem kz_len (key : List UInt8) (j : Nat) : (kz key j).length = key.length + j := by rw [kz, List.length_append, List.length_replicate]
theorem kz_zero (key : List UInt8) : kz key 0 = key := by rw [kz, List.replicate_zero, List.append_nil]
theorem kz_succ (key : List UInt8) (j : Nat) : kz key j ++ [UInt8.ofNat 0] = kz key (j + 1) := by
  rw [kz, kz, List.append_assoc, List.replicate_succ']; rfl
theorem kz_pad (key : List UInt8) (j : Nat) (h : key.length + j ≤ 64) : padK (kz key j) = padK key := by
  rw [padK, padK, if_neg (by rw [kz_len]; omega), if_neg (by omega), pad64, pad64, kz_len, kz, List.append_assoc, List.replicate_append_replicate, show j + (64 - (key.length + j)) = 64 - key.length by omega]
theorem padK_sha (key : List UInt8) (h : 64 < key.length) : padK (sha key) = padK key := by
  rw [padK, padK, if_pos h, if_neg (by rw [sha_len]; decide)]
theorem tagS_congr {k l : List UInt8} (s : ByteArray) (b : List UInt8) (h : padK k = padK l) : tagS k s b = tagS l s b := by rw [tagS, tagS, h]
def mlSt (key b : List UInt8) (m j : Nat) : List (Nat × AV) := [(0, .d (.sl 1 key.length (bD key))), (1, .d (.c (.int .i64 m))), (2, .d (.sl 1 b.length (bD b))), (6, .d (.c (.bool false))), (7, .sl (.own 0) 1 (kz key j).length (bD (kz key j)))]
def mlRe (key : List UInt8) (j : Nat) : Rs := [some (.tok (kz key j).length)]
set_option maxHeartbeats 400000 in
theorem macLong_ac (key : List UInt8) (n : Int) (b : List UInt8) (h0 : -9223372036854775808 ≤ n) (hn : n ≤ 9223372036854775807) (h1 : key.length ≤ 140737488352000) (h3 : b.length ≤ 140737488352000) : AC Tryd.prog noG 6 [.d (.sl 1 key.length (bD key)), .d (.c (.int .i64 n)), .d (.sl 1 b.length (bD b))] [] (fun v r' => v = .d (.c (.bool true)) ∧ r' = []) := by
  refine AC.pure ?_ (by rintro v rfl; rfl)
  refine AC_of_R (N := 72) (res := [.tmp 6]) ty_ok Tryd.call6 Tryd.func6 rfl rfl rfl (Nat.le_of_ble_eq_true rfl) ?_
  have hs1 : ByteArray.size ⟨#[97]⟩ = 1 := rfl
  by_cases g1 : (200 : Int) < key.length
  · simp (config := {contextual := true, maxSteps := 1000000, implicitDefEqProofs := false}) (disch := omega) only [↓SA, SB, ST, stops, dstOK, resA, resAll, resOne, resTup, initSt, mkL, gdB, Nat.reduceLT, Nat.reduceEqDiff, Nat.reduceAdd, Nat.reduceMul, Nat.reduceLeDiff, Nat.reduceSub, Int.reduceLT, Int.reduceLE, Int.reduceAdd, Int.reduceSub, Int.reduceMul, Int.reduceToNat, Int.reduceNeg, Int.reduceEq, Int.reduceNe, if_true, if_false, ite_true, ite_false, ↓reduceIte, reduceCtorEq, forall_const, implies_true, eq_self, ne_eq, ren, renL, renM, renRes, putAll, g1]
    refine HO_pure ty_ok mlive_ac rfl rfl rfl (by kernel_rfl) (fun _ => rfl) (fun _ => rfl) rfl (by repeat' (first | exact trivial | exact WeakA.refl _ | exact WeakA.toD rfl | exact WeakA.nilD _ | refine ⟨?_, ?_⟩)) ?_
    simp (config := {contextual := true, maxSteps := 1000000, implicitDefEqProofs := false}) (disch := omega) only [↓SA, SB, ST, stops, dstOK, resA, resAll, resOne, resTup, initSt, mkL, gdB, Nat.reduceLT, Nat.reduceEqDiff, Nat.reduceAdd, Nat.reduceMul, Nat.reduceLeDiff, Nat.reduceSub, Int.reduceLT, Int.reduceLE, Int.reduceAdd, Int.reduceSub, Int.reduceMul, Int.reduceToNat, Int.reduceNeg, Int.reduceEq, Int.reduceNe, if_true, if_false, ite_true, ite_false, ↓reduceIte, reduceCtorEq, forall_const, implies_true, eq_self, ne_eq, ren, renL, renM, renRes, putAll]
  by_cases g2 : (3000 : Int) < b.length
  · simp (config := {contextual := true, maxSteps := 1000000, implicitDefEqProofs := false}) (disch := omega) only [↓SA, SB, ST, stops, dstOK, resA, resAll, resOne, resTup, initSt, mkL, gdB, Nat.reduceLT, Nat.reduceEqDiff, Nat.reduceAdd, Nat.reduceMul, Nat.reduceLeDiff, Nat.reduceSub, Int.reduceLT, Int.reduceLE, Int.reduceAdd, Int.reduceSub, Int.reduceMul, Int.reduceToNat, Int.reduceNeg, Int.reduceEq, Int.reduceNe, if_true, if_false, ite_true, ite_false, ↓reduceIte, reduceCtorEq, forall_const, implies_true, eq_self, ne_eq, ren, renL, renM, renRes, putAll, g1, g2]
    refine HO_pure ty_ok mlive_ac rfl rfl rfl (by kernel_rfl) (fun _ => rfl) (fun _ => rfl) rfl (by repeat' (first | exact trivial | exact WeakA.refl _ | exact WeakA.toD rfl | exact WeakA.nilD _ | refine ⟨?_, ?_⟩)) ?_
    simp (config := {contextual := true, maxSteps := 1000000, implicitDefEqProofs := false}) (disch := omega) only [↓SA, SB, ST, stops, dstOK, resA, resAll, resOne, resTup, initSt, mkL, gdB, Nat.reduceLT, Nat.reduceEqDiff, Nat.reduceAdd, Nat.reduceMul, Nat.reduceLeDiff, Nat.reduceSub, Int.reduceLT, Int.reduceLE, Int.reduceAdd, Int.reduceSub, Int.reduceMul, Int.reduceToNat, Int.reduceNeg, Int.reduceEq, Int.reduceNe, if_true, if_false, ite_true, ite_false, ↓reduceIte, reduceCtorEq, forall_const, implies_true, eq_self, ne_eq, ren, renL, renM, renRes, putAll]
  obtain ⟨m, hm, hm2⟩ : ∃ m : Nat, (IntKind.i64.wrap (n.tmod 200 + 200)).tmod 200 = (m : Int) ∧ m < 200 := by
    have e1 : -200 < n.tmod 200 ∧ n.tmod 200 < 200 := by
      have := Int.lt_tmod_of_pos n (show (0 : Int) < 200 by decide)
      have := Int.tmod_lt_of_pos n (show (0 : Int) < 200 by decide)
      omega
    rw [w_i64 (by omega) (by omega)]
    refine ⟨(n.tmod 200 + 200).tmod 200 |>.toNat, ?_, ?_⟩
    · rw [Int.tmod_eq_emod_of_nonneg (by omega)]; omega
    · rw [Int.tmod_eq_emod_of_nonneg (by omega)]; omega
  simp (config := {contextual := true, maxSteps := 1000000, implicitDefEqProofs := false}) (disch := omega) only [↓SA, SB, ST, stops, dstOK, resA, resAll, resOne, resTup, initSt, mkL, gdB, Nat.reduceLT, Nat.reduceEqDiff, Nat.reduceAdd, Nat.reduceMul, Nat.reduceLeDiff, Nat.reduceSub, Int.reduceLT, Int.reduceLE, Int.reduceAdd, Int.reduceSub, Int.reduceMul, Int.reduceToNat, Int.reduceNeg, Int.reduceEq, Int.reduceNe, if_true, if_false, ite_true, ite_false, ↓reduceIte, reduceCtorEq, forall_const, implies_true, eq_self, ne_eq, ren, renL, renM, renRes, putAll, g1, g2, hm]
  refine ⟨⟨by omega, by omega⟩, HC_loopR (mlSt key b m) (mlRe key) (fun j => j = 0 ∨ key.length + j ≤ m) (fun j => m - (key.length + j)) 0 [0] [] (.inl rfl) ?_ ?_⟩
  · simp only [FitR, WkLR, get_mk, ↓lk_cons, ↓reduceIte, Nat.reduceEqDiff, List.cons_append, List.nil_append, List.append_nil, List.length_append, List.length_cons, List.length_nil, Nat.zero_add, mlSt, mlRe, kz_zero]
    refine ⟨?_, (by first | (simp only [wfSt, wfRs, wfL, wfA, wfM, wfL_append, wfL_map_d, Bool.and_true, Bool.and_self, decide_true, Nat.reduceLT, Nat.reduceAdd, List.length_cons, List.length_nil, Nat.zero_add, mlSt, mlRe, kz_zero]; done) | rfl), ?_, (by first | (simp only [wfSt, wfRs, wfL, wfA, wfM, wfL_append, wfL_map_d, Bool.and_true, Bool.and_self, decide_true, Nat.reduceLT, Nat.reduceAdd, List.length_cons, List.length_nil, Nat.zero_add, mlSt, mlRe, kz_zero]; done) | rfl), rfl, rfl⟩ <;> (repeat' (first | exact WkFs.data _ | exact trivial | exact WkF.refl _ | exact WkFs.refl _ | exact rfl | exact WkF.top _ | exact WkF.nil rfl rfl | exact WkF.full rfl rfl | exact .inl (WeakA.toD rfl) | exact .inl (WeakA.nilD _) | exact .inl (WeakA.nilFull _) | exact WkFT.one (WkF.refl _) | exact WkFT.one (.inl (WeakA.toD rfl)) | exact WkFT.one (.inl (WeakA.nilD _)) | refine ⟨_, rfl, ?_⟩ | refine ⟨?_, ?_⟩ | refine WkFT.tup ?_))
  · intro j hj
    refine HC_of_R ty_ok ?_
    have hkl := kz_len key j
    by_cases hlt : (kz key j).length < m
    · have hi : ((kz key j).length : Int) < m := by omega
      simp (config := {contextual := true, maxSteps := 1000000, implicitDefEqProofs := false}) (disch := omega) only [↓SA, SB, ST, stops, dstOK, resA, resAll, resOne, resTup, initSt, mkL, gdB, Nat.reduceLT, Nat.reduceEqDiff, Nat.reduceAdd, Nat.reduceMul, Nat.reduceLeDiff, Nat.reduceSub, Int.reduceLT, Int.reduceLE, Int.reduceAdd, Int.reduceSub, Int.reduceMul, Int.reduceToNat, Int.reduceNeg, Int.reduceEq, Int.reduceNe, if_true, if_false, ite_true, ite_false, ↓reduceIte, reduceCtorEq, forall_const, implies_true, eq_self, ne_eq, ren, renL, renM, renRes, putAll, mlSt, mlRe, hi]
      have hkl2 := kz_len key (j + 1)
      refine ⟨⟨by omega, by omega⟩, j + 1, .inr (by omega), by omega, [0], [], ?_⟩
      rw [kz_succ]
      simp only [FitR, WkLR, get_mk, ↓lk_cons, ↓reduceIte, Nat.reduceEqDiff, List.cons_append, List.nil_append, List.append_nil, List.length_append, List.length_cons, List.length_nil, Nat.zero_add, hkl, hkl2, Nat.add_assoc]
      refine ⟨?_, (by first | (simp only [wfSt, wfRs, wfL, wfA, wfM, wfL_append, wfL_map_d, Bool.and_true, Bool.and_self, decide_true, Nat.reduceLT, Nat.reduceAdd, List.length_cons, List.length_nil, Nat.zero_add, hkl, hkl2, Nat.add_assoc]; done) | rfl), ?_, (by first | (simp only [wfSt, wfRs, wfL, wfA, wfM, wfL_append, wfL_map_d, Bool.and_true, Bool.and_self, decide_true, Nat.reduceLT, Nat.reduceAdd, List.length_cons, List.length_nil, Nat.zero_add, hkl, hkl2, Nat.add_assoc]; done) | rfl), rfl, rfl⟩ <;> (repeat' (first | exact WkFs.data _ | exact trivial | exact WkF.refl _ | exact WkFs.refl _ | exact rfl | exact WkF.top _ | exact WkF.nil rfl rfl | exact WkF.full rfl rfl | exact .inl (WeakA.toD rfl) | exact .inl (WeakA.nilD _) | exact .inl (WeakA.nilFull _) | exact WkFT.one (WkF.refl _) | exact WkFT.one (.inl (WeakA.toD rfl)) | exact WkFT.one (.inl (WeakA.nilD _)) | refine ⟨_, rfl, ?_⟩ | refine ⟨?_, ?_⟩ | refine WkFT.tup ?_))
    · have hi : ¬ ((kz key j).length : Int) < m := by omega
      by_cases h64 : 64 < key.length
      · have g3 : (key.length : Int) > 64 := by omega
        simp (config := {contextual := true, maxSteps := 1000000, implicitDefEqProofs := false}) (disch := omega) only [↓SA, SB, ST, stops, dstOK, resA, resAll, resOne, resTup, initSt, mkL, gdB, Nat.reduceLT, Nat.reduceEqDiff, Nat.reduceAdd, Nat.reduceMul, Nat.reduceLeDiff, Nat.reduceSub, Int.reduceLT, Int.reduceLE, Int.reduceAdd, Int.reduceSub, Int.reduceMul, Int.reduceToNat, Int.reduceNeg, Int.reduceEq, Int.reduceNe, if_true, if_false, ite_true, ite_false, ↓reduceIte, reduceCtorEq, forall_const, implies_true, eq_self, ne_eq, ren, renL, renM, renRes, putAll, mlSt, mlRe, hi, g3]
        refine HO_pure ty_ok (refSum_ac key (by omega)) rfl rfl rfl (by kernel_rfl) (fun _ => rfl) (fun _ => rfl) rfl (by repeat' (first | exact trivial | exact WeakA.refl _ | exact WeakA.toD rfl | exact WeakA.nilD _ | refine ⟨?_, ?_⟩)) ?_
        obtain ⟨D, hD⟩ : ∃ D, D = sha key := ⟨_, rfl⟩
        have hDl : D.length = 32 := by rw [hD, sha_len]
        rw [← hD]
        obtain ⟨hl, hb, ht, hm, hsp⟩ := dig32 D hDl
        simp (config := {contextual := true, maxSteps := 1000000, implicitDefEqProofs := false}) (disch := omega) only [↓SA, SB, ST, stops, dstOK, resA, resAll, resOne, resTup, initSt, mkL, gdB, Nat.reduceLT, Nat.reduceEqDiff, Nat.reduceAdd, Nat.reduceMul, Nat.reduceLeDiff, Nat.reduceSub, Int.reduceLT, Int.reduceLE, Int.reduceAdd, Int.reduceSub, Int.reduceMul, Int.reduceToNat, Int.reduceNeg, Int.reduceEq, Int.reduceNe, if_true, if_false, ite_true, ite_false, ↓reduceIte, reduceCtorEq, forall_const, implies_true, eq_self, ne_eq, ren, renL, renM, renRes, putAll, hm, hl, hb, ht, hsp, bA_allD]
        clear hsp
        refine HC_order [] ty_ok mix [0, 1, 3, 4, 2, 5, 6, 7, 8, 9, 10] (by kernel_rfl) rfl _ rfl ?_
        simp only [opl_nil', opl_cons', oplC_some, List.getElem?_toArray, List.getElem?_cons_zero, List.getElem?_cons_succ]
        simp (config := {contextual := true, maxSteps := 1000000, implicitDefEqProofs := false}) (disch := omega) only [↓SA, SB, ST, stops, dstOK, resA, resAll, resOne, resTup, initSt, mkL, gdB, Nat.reduceLT, Nat.reduceEqDiff, Nat.reduceAdd, Nat.reduceMul, Nat.reduceLeDiff, Nat.reduceSub, Int.reduceLT, Int.reduceLE, Int.reduceAdd, Int.reduceSub, Int.reduceMul, Int.reduceToNat, Int.reduceNeg, Int.reduceEq, Int.reduceNe, if_true, if_false, ite_true, ite_false, ↓reduceIte, reduceCtorEq, forall_const, implies_true, eq_self, ne_eq, ren, renL, renM, renRes, putAll]
        refine ⟨⟨by rw [bA_len, hDl]; exact Nat.le_refl _, by decide, by decide⟩, HO_pure ty_ok (mTag_ac key ⟨#[97]⟩ b (by omega) (by rw [hs1]; omega)) rfl rfl rfl (by kernel_rfl) (fun _ => rfl) (fun _ => rfl) rfl (by repeat' (first | exact trivial | exact WeakA.refl _ | exact WeakA.toD rfl | exact WeakA.nilD _ | refine ⟨?_, ?_⟩)) ?_⟩
        have hT := tagS_congr (k := sha key) (l := key) ⟨#[97]⟩ b (padK_sha key h64)
        rw [← hD] at hT
        have kd := mTag_ac D ⟨#[97]⟩ b (by omega) (by rw [hs1]; omega)
        have hbd : (AV.d (.sl 1 32 (bD D))) = .d (.sl 1 32 (((bD D).drop 0).take (32 * 1))) := by
          rw [List.drop_zero, List.take_of_length_le (by rw [bD_length, hDl]; decide)]
        rw [hDl, hT, hbd] at kd
        have hTl := tagS_len key ⟨#[97]⟩ b
        generalize tagS key ⟨#[97]⟩ b = T at hTl kd ⊢
        simp (config := {contextual := true, maxSteps := 1000000, implicitDefEqProofs := false}) (disch := omega) only [↓SA, SB, ST, stops, dstOK, resA, resAll, resOne, resTup, initSt, mkL, gdB, Nat.reduceLT, Nat.reduceEqDiff, Nat.reduceAdd, Nat.reduceMul, Nat.reduceLeDiff, Nat.reduceSub, Int.reduceLT, Int.reduceLE, Int.reduceAdd, Int.reduceSub, Int.reduceMul, Int.reduceToNat, Int.reduceNeg, Int.reduceEq, Int.reduceNe, if_true, if_false, ite_true, ite_false, ↓reduceIte, reduceCtorEq, forall_const, implies_true, eq_self, ne_eq, ren, renL, renM, renRes, putAll]
        refine HO_lend ty_ok kd (scal_bD _) rfl rfl rfl (by kernel_rfl) ⟨BwA.osl rfl (bA_allD _) (by decide), BwA.val (.refl _) rfl, BwA.val (.refl _) rfl, trivial⟩ ?_
        simp (config := {contextual := true, maxSteps := 1000000, implicitDefEqProofs := false}) (disch := omega) only [↓SA, SB, ST, stops, dstOK, resA, resAll, resOne, resTup, initSt, mkL, gdB, Nat.reduceLT, Nat.reduceEqDiff, Nat.reduceAdd, Nat.reduceMul, Nat.reduceLeDiff, Nat.reduceSub, Int.reduceLT, Int.reduceLE, Int.reduceAdd, Int.reduceSub, Int.reduceMul, Int.reduceToNat, Int.reduceNeg, Int.reduceEq, Int.reduceNe, if_true, if_false, ite_true, ite_false, ↓reduceIte, reduceCtorEq, forall_const, implies_true, eq_self, ne_eq, ren, renL, renM, renRes, putAll, hTl]
        refine HO_pure ty_ok mlive_ac rfl rfl rfl (by kernel_rfl) (fun _ => rfl) (fun _ => rfl) rfl (by repeat' (first | exact trivial | exact WeakA.refl _ | exact WeakA.toD rfl | exact WeakA.nilD _ | refine ⟨?_, ?_⟩)) ?_
        simp (config := {contextual := true, maxSteps := 1000000, implicitDefEqProofs := false}) (disch := omega) only [↓SA, SB, ST, stops, dstOK, resA, resAll, resOne, resTup, initSt, mkL, gdB, Nat.reduceLT, Nat.reduceEqDiff, Nat.reduceAdd, Nat.reduceMul, Nat.reduceLeDiff, Nat.reduceSub, Int.reduceLT, Int.reduceLE, Int.reduceAdd, Int.reduceSub, Int.reduceMul, Int.reduceToNat, Int.reduceNeg, Int.reduceEq, Int.reduceNe, if_true, if_false, ite_true, ite_false, ↓reduceIte, reduceCtorEq, forall_const, implies_true, eq_self, ne_eq, ren, renL, renM, renRes, putAll]
      · have g3 : ¬ (key.length : Int) > 64 := by omega
        by_cases g4 : ((kz key j).length : Int) ≤ 64
        · simp (config := {contextual := true, maxSteps := 1000000, implicitDefEqProofs := false}) (disch := omega) only [↓SA, SB, ST, stops, dstOK, resA, resAll, resOne, resTup, initSt, mkL, gdB, Nat.reduceLT, Nat.reduceEqDiff, Nat.reduceAdd, Nat.reduceMul, Nat.reduceLeDiff, Nat.reduceSub, Int.reduceLT, Int.reduceLE, Int.reduceAdd, Int.reduceSub, Int.reduceMul, Int.reduceToNat, Int.reduceNeg, Int.reduceEq, Int.reduceNe, if_true, if_false, ite_true, ite_false, ↓reduceIte, reduceCtorEq, forall_const, implies_true, eq_self, ne_eq, ren, renL, renM, renRes, putAll, mlSt, mlRe, hi, g3, g4]
          have hT := tagS_congr (k := kz key j) (l := key) ⟨#[97]⟩ b (kz_pad key j (by omega))
          refine HO_pure ty_ok (mTag_ac (kz key j) ⟨#[97]⟩ b (by omega) (by rw [hs1]; omega)) rfl rfl rfl (by kernel_rfl) (fun _ => rfl) (fun _ => rfl) rfl (by repeat' (first | exact trivial | exact WeakA.refl _ | exact WeakA.toD rfl | exact WeakA.nilD _ | refine ⟨?_, ?_⟩)) ?_
          simp (config := {contextual := true, maxSteps := 1000000, implicitDefEqProofs := false}) (disch := omega) only [↓SA, SB, ST, stops, dstOK, resA, resAll, resOne, resTup, initSt, mkL, gdB, Nat.reduceLT, Nat.reduceEqDiff, Nat.reduceAdd, Nat.reduceMul, Nat.reduceLeDiff, Nat.reduceSub, Int.reduceLT, Int.reduceLE, Int.reduceAdd, Int.reduceSub, Int.reduceMul, Int.reduceToNat, Int.reduceNeg, Int.reduceEq, Int.reduceNe, if_true, if_false, ite_true, ite_false, ↓reduceIte, reduceCtorEq, forall_const, implies_true, eq_self, ne_eq, ren, renL, renM, renRes, putAll]
          refine HO_pure ty_ok (mTag_ac key ⟨#[97]⟩ b (by omega) (by rw [hs1]; omega)) rfl rfl rfl (by kernel_rfl) (fun _ => rfl) (fun _ => rfl) rfl (by repeat' (first | exact trivial | exact WeakA.refl _ | exact WeakA.toD rfl | exact WeakA.nilD _ | refine ⟨?_, ?_⟩)) ?_
          rw [hT]
          have hTl := tagS_len key ⟨#[97]⟩ b
          generalize tagS key ⟨#[97]⟩ b = T at hTl ⊢
          simp (config := {contextual := true, maxSteps := 1000000, implicitDefEqProofs := false}) (disch := omega) only [↓SA, SB, ST, stops, dstOK, resA, resAll, resOne, resTup, initSt, mkL, gdB, Nat.reduceLT, Nat.reduceEqDiff, Nat.reduceAdd, Nat.reduceMul, Nat.reduceLeDiff, Nat.reduceSub, Int.reduceLT, Int.reduceLE, Int.reduceAdd, Int.reduceSub, Int.reduceMul, Int.reduceToNat, Int.reduceNeg, Int.reduceEq, Int.reduceNe, if_true, if_false, ite_true, ite_false, ↓reduceIte, reduceCtorEq, forall_const, implies_true, eq_self, ne_eq, ren, renL, renM, renRes, putAll, hTl]
          refine HO_pure ty_ok mlive_ac rfl rfl rfl (by kernel_rfl) (fun _ => rfl) (fun _ => rfl) rfl (by repeat' (first | exact trivial | exact WeakA.refl _ | exact WeakA.toD rfl | exact WeakA.nilD _ | refine ⟨?_, ?_⟩)) ?_
          simp (config := {contextual := true, maxSteps := 1000000, implicitDefEqProofs := false}) (disch := omega) only [↓SA, SB, ST, stops, dstOK, resA, resAll, resOne, resTup, initSt, mkL, gdB, Nat.reduceLT, Nat.reduceEqDiff, Nat.reduceAdd, Nat.reduceMul, Nat.reduceLeDiff, Nat.reduceSub, Int.reduceLT, Int.reduceLE, Int.reduceAdd, Int.reduceSub, Int.reduceMul, Int.reduceToNat, Int.reduceNeg, Int.reduceEq, Int.reduceNe, if_true, if_false, ite_true, ite_false, ↓reduceIte, reduceCtorEq, forall_const, implies_true, eq_self, ne_eq, ren, renL, renM, renRes, putAll]
        · by_cases g5 : ((kz key j).length : Int) = key.length
          · have hj0 : j = 0 := by omega
            subst hj0
            rw [kz_zero] at *
            have hi2 : ¬ (key.length : Int) < m := hi
            clear hi
            simp (config := {contextual := true, maxSteps := 1000000, implicitDefEqProofs := false}) (disch := omega) only [↓SA, SB, ST, stops, dstOK, resA, resAll, resOne, resTup, initSt, mkL, gdB, Nat.reduceLT, Nat.reduceEqDiff, Nat.reduceAdd, Nat.reduceMul, Nat.reduceLeDiff, Nat.reduceSub, Int.reduceLT, Int.reduceLE, Int.reduceAdd, Int.reduceSub, Int.reduceMul, Int.reduceToNat, Int.reduceNeg, Int.reduceEq, Int.reduceNe, if_true, if_false, ite_true, ite_false, ↓reduceIte, reduceCtorEq, forall_const, implies_true, eq_self, ne_eq, ren, renL, renM, renRes, putAll, mlSt, mlRe, hi2, kz_zero, g3, g4]
            have hT : tagS key ⟨#[97]⟩ b = tagS key ⟨#[97]⟩ b := rfl
            refine HO_pure ty_ok (mTag_ac key ⟨#[97]⟩ b (by omega) (by rw [hs1]; omega)) rfl rfl rfl (by kernel_rfl) (fun _ => rfl) (fun _ => rfl) rfl (by repeat' (first | exact trivial | exact WeakA.refl _ | exact WeakA.toD rfl | exact WeakA.nilD _ | refine ⟨?_, ?_⟩)) ?_
            simp (config := {contextual := true, maxSteps := 1000000, implicitDefEqProofs := false}) (disch := omega) only [↓SA, SB, ST, stops, dstOK, resA, resAll, resOne, resTup, initSt, mkL, gdB, Nat.reduceLT, Nat.reduceEqDiff, Nat.reduceAdd, Nat.reduceMul, Nat.reduceLeDiff, Nat.reduceSub, Int.reduceLT, Int.reduceLE, Int.reduceAdd, Int.reduceSub, Int.reduceMul, Int.reduceToNat, Int.reduceNeg, Int.reduceEq, Int.reduceNe, if_true, if_false, ite_true, ite_false, ↓reduceIte, reduceCtorEq, forall_const, implies_true, eq_self, ne_eq, ren, renL, renM, renRes, putAll]
            refine HO_pure ty_ok (mTag_ac key ⟨#[97]⟩ b (by omega) (by rw [hs1]; omega)) rfl rfl rfl (by kernel_rfl) (fun _ => rfl) (fun _ => rfl) rfl (by repeat' (first | exact trivial | exact WeakA.refl _ | exact WeakA.toD rfl | exact WeakA.nilD _ | refine ⟨?_, ?_⟩)) ?_
            rw [hT]
            have hTl := tagS_len key ⟨#[97]⟩ b
            generalize tagS key ⟨#[97]⟩ b = T at hTl ⊢
            simp (config := {contextual := true, maxSteps := 1000000, implicitDefEqProofs := false}) (disch := omega) only [↓SA, SB, ST, stops, dstOK, resA, resAll, resOne, resTup, initSt, mkL, gdB, Nat.reduceLT, Nat.reduceEqDiff, Nat.reduceAdd, Nat.reduceMul, Nat.reduceLeDiff, Nat.reduceSub, Int.reduceLT, Int.reduceLE, Int.reduceAdd, Int.reduceSub, Int.reduceMul, Int.reduceToNat, Int.reduceNeg, Int.reduceEq, Int.reduceNe, if_true, if_false, ite_true, ite_false, ↓reduceIte, reduceCtorEq, forall_const, implies_true, eq_self, ne_eq, ren, renL, renM, renRes, putAll, hTl]
            refine HO_pure ty_ok mlive_ac rfl rfl rfl (by kernel_rfl) (fun _ => rfl) (fun _ => rfl) rfl (by repeat' (first | exact trivial | exact WeakA.refl _ | exact WeakA.toD rfl | exact WeakA.nilD _ | refine ⟨?_, ?_⟩)) ?_
            simp (config := {contextual := true, maxSteps := 1000000, implicitDefEqProofs := false}) (disch := omega) only [↓SA, SB, ST, stops, dstOK, resA, resAll, resOne, resTup, initSt, mkL, gdB, Nat.reduceLT, Nat.reduceEqDiff, Nat.reduceAdd, Nat.reduceMul, Nat.reduceLeDiff, Nat.reduceSub, Int.reduceLT, Int.reduceLE, Int.reduceAdd, Int.reduceSub, Int.reduceMul, Int.reduceToNat, Int.reduceNeg, Int.reduceEq, Int.reduceNe, if_true, if_false, ite_true, ite_false, ↓reduceIte, reduceCtorEq, forall_const, implies_true, eq_self, ne_eq, ren, renL, renM, renRes, putAll]
          · simp (config := {contextual := true, maxSteps := 1000000, implicitDefEqProofs := false}) (disch := omega) only [↓SA, SB, ST, stops, dstOK, resA, resAll, resOne, resTup, initSt, mkL, gdB, Nat.reduceLT, Nat.reduceEqDiff, Nat.reduceAdd, Nat.reduceMul, Nat.reduceLeDiff, Nat.reduceSub, Int.reduceLT, Int.reduceLE, Int.reduceAdd, Int.reduceSub, Int.reduceMul, Int.reduceToNat, Int.reduceNeg, Int.reduceEq, Int.reduceNe, if_true, if_false, ite_true, ite_false, ↓reduceIte, reduceCtorEq, forall_const, implies_true, eq_self, ne_eq, ren, renL, renM, renRes, putAll, mlSt, mlRe, hi, g3, g4, g5]
            refine HO_pure ty_ok mlive_ac rfl rfl rfl (by kernel_rfl) (fun _ => rfl) (fun _ => rfl) rfl (by repeat' (first | exact trivial | exact WeakA.refl _ | exact WeakA.toD rfl | exact WeakA.nilD _ | refine ⟨?_, ?_⟩)) ?_
            simp (config := {contextual := true, maxSteps := 1000000, implicitDefEqProofs := false}) (disch := omega) only [↓SA, SB, ST, stops, dstOK, resA, resAll, resOne, resTup, initSt, mkL, gdB, Nat.reduceLT, Nat.reduceEqDiff, Nat.reduceAdd, Nat.reduceMul, Nat.reduceLeDiff, Nat.reduceSub, Int.reduceLT, Int.reduceLE, Int.reduceAdd, Int.reduceSub, Int.reduceMul, Int.reduceToNat, Int.reduceNeg, Int.reduceEq, Int.reduceNe, if_true, if_false, ite_true, ite_false, ↓reduceIte, reduceCtorEq, forall_const, implies_true, eq_self, ne_eq, ren, renL, renM, renRes, putAll]
end Go.Proofs.YtjpjnhljmloofaaDoor
