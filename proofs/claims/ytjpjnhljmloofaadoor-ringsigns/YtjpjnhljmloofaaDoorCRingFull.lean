import Derived.Test.YtjpjnhljmloofaaDoorCRingLive
set_option linter.unusedVariables false
set_option linter.unusedSimpArgs false
set_option maxRecDepth 100000
namespace Go.Proofs.YtjpjnhljmloofaaDoor
open Go Go.ChangeShapes Go.WideShapes
def b3 (i : Nat) : List UInt8 := [b8 (i : Int), b8 (ishr .i64 (i : Int) 8), b8 (ishr .i64 (i : Int) 16)]
theorem b8_inj {x y : Int} (h : b8 x = b8 y) : x % 256 = y % 256 := by
  have h2 : ((b8 x).toNat : Int) = ((b8 y).toNat : Int) := by rw [h]
  rw [← b8_wrap, ← b8_wrap, wrap_u8, wrap_u8] at h2
  exact h2
theorem b3_inj {i j : Nat} (hi : i < 65536) (hj : j < 65536) (h : b3 i = b3 j) : i = j := by
  simp only [b3, List.cons.injEq, and_true] at h
  have h1 := b8_inj h.1
  have h2 := b8_inj h.2.1
  have e1 : ishr .i64 (i : Int) 8 = (i : Int) / 256 := ishr_div .i64 i 8 (by omega) (by decide)
  have e2 : ishr .i64 (j : Int) 8 = (j : Int) / 256 := ishr_div .i64 j 8 (by omega) (by decide)
  rw [e1, e2] at h2
  omega
def bkF (i : Nat) : List Pr := (List.range (min i 4096)).map fun j => pr sa sx (b3 j)
theorem bkF_len (i : Nat) : (bkF i).length = min i 4096 := by rw [bkF, List.length_map, List.length_range]
theorem memP_iff (p : Pr) : ∀ l : List Pr, memP p l = true ↔ p ∈ l
  | [] => by simp [memP]
  | a :: l => by simp [memP, memP_iff p l]
theorem memP_not {p : Pr} {l : List Pr} (h : p ∉ l) : memP p l = false := by
  cases hm : memP p l with
  | false => rfl
  | true => exact absurd ((memP_iff p l).1 hm) h
theorem pr_inj {w d w' d' : ByteArray} {b b' : List UInt8} (h : pr w d b = pr w' d' b') : w = w' ∧ d = d' ∧ b = b' := by
  simp only [pr, Pr.mk.injEq] at h
  exact ⟨h.1, h.2.1, strB_inj h.2.2⟩
theorem new_F (i : Nat) (h : i < 4098) : memP (pr sa sx (b3 i)) (bkF i) = false := by
  refine memP_not fun hm => ?_
  simp only [bkF, List.mem_map, List.mem_range] at hm
  obtain ⟨j, hj, he⟩ := hm
  have := b3_inj (by omega) (by omega) (pr_inj he).2.2
  omega
theorem signE_F (i : Nat) (h : i < 4098) : signE [sa] (bkF i) sa sx (b3 i) = if i < 4096 then 0 else 150 := by
  have h1 : ¬ memB sa [sa] = false := by rw [me_a]; decide
  have h2 : ¬ 65536 < sx.size + (b3 i).length := by show ¬ 65536 < 1 + 3; decide
  rw [signE, if_neg h1, if_neg h2, bkF_len]
  by_cases hi : i < 4096
  · rw [if_pos hi, if_neg (fun h => by omega)]
  · rw [if_neg hi, if_pos ⟨new_F i h, by omega⟩]
theorem signB_F (i : Nat) (h : i < 4098) : signB [sa] (bkF i) sa sx (b3 i) = bkF (i + 1) := by
  rw [signB, signE_F i h]
  by_cases hi : i < 4096
  · rw [if_pos hi, if_pos ⟨rfl, new_F i h⟩, bkF, bkF, show min (i + 1) 4096 = min i 4096 + 1 by omega, List.range_succ, List.map_append, show min i 4096 = i by omega]; rfl
  · rw [if_neg hi, if_neg (fun h => absurd h.1 (by decide)), bkF, bkF, show min (i + 1) 4096 = min i 4096 by omega]
theorem b3_zero : b3 0 = [0, 0, 0] := by decide +kernel
theorem signE_0 : signE [sa] (bkF 4098) sa sx [0, 0, 0] = 0 ∧ signB [sa] (bkF 4098) sa sx [0, 0, 0] = bkF 4098 := by
  have h1 : ¬ memB sa [sa] = false := by rw [me_a]; decide
  have hm : memP (pr sa sx [0, 0, 0]) (bkF 4098) = true := by
    rw [memP_iff, ← b3_zero]
    simp only [bkF, List.mem_map, List.mem_range]
    exact ⟨0, by decide, rfl⟩
  have hm' : ¬ memP (pr sa sx [0, 0, 0]) (bkF 4098) = false := by rw [hm]; decide
  have e : signE [sa] (bkF 4098) sa sx [0, 0, 0] = 0 := by
    rw [signE, if_neg h1, if_neg (show ¬ 65536 < sx.size + ([0, 0, 0] : List UInt8).length by decide), if_neg (fun h => hm' h.1)]
  exact ⟨e, by rw [signB, if_neg (fun h => hm' h.2)]⟩
def sy : ByteArray := ⟨#[121]⟩
theorem signE_y : signE [sa] (bkF 4098) sa sy [] = 150 ∧ signB [sa] (bkF 4098) sa sy [] = bkF 4098 := by
  have h1 : ¬ memB sa [sa] = false := by rw [me_a]; decide
  have hm : memP (pr sa sy []) (bkF 4098) = false := memP_not fun hm => by
    simp only [bkF, List.mem_map, List.mem_range] at hm
    obtain ⟨j, hj, he⟩ := hm
    have := (pr_inj he).2.2
    simp [b3] at this
  have e : signE [sa] (bkF 4098) sa sy [] = 150 := by
    rw [signE, if_neg h1, if_neg (show ¬ 65536 < sy.size + ([] : List UInt8).length by decide), bkF_len, if_pos ⟨hm, by decide⟩]
  exact ⟨e, by rw [signB, e, if_neg (fun h => absurd h.1 (by decide))]⟩
def rfSt (i : Nat) : List (Nat × AV) := [(0, .d (.c (.bool false))), (1, .ptr 2 0), (3, .d (.c (.int .i64 i)))]
set_option maxHeartbeats 400000 in
theorem ringFull_ac : AC Tryd.prog noG 8 [] [] (fun v r' => v = .d (.c (.bool true)) ∧ r' = []) := by
  refine AC.pure ?_ (by rintro v rfl; rfl)
  refine AC_of_R (N := 73) (res := [.tmp 0]) ty_ok Tryd.call8 Tryd.func8 rfl rfl rfl (Nat.le_of_ble_eq_true rfl) ?_
  simp (config := {contextual := true, maxSteps := 1000000, implicitDefEqProofs := false}) (disch := omega) only [↓SA, SB, ST, stops, dstOK, resA, resAll, resOne, resTup, initSt, mkL, gdB, Nat.reduceLT, Nat.reduceEqDiff, Nat.reduceAdd, Nat.reduceMul, Nat.reduceLeDiff, Nat.reduceSub, Int.reduceLT, Int.reduceLE, Int.reduceAdd, Int.reduceSub, Int.reduceMul, Int.reduceToNat, Int.reduceNeg, Int.reduceEq, Int.reduceNe, if_true, if_false, ite_true, ite_false, ↓reduceIte, reduceCtorEq, forall_const, implies_true, eq_self, ne_eq, ren, renL, renM, renRes, putAll]
  refine HO_call ty_ok [] (new_ok 1 [sa] (by decide) (by decide) ne_a) rfl rfl rfl (by kernel_rfl) (by decide) ⟨(by simp), (by repeat' (first | exact trivial | exact WeakA.refl _ | exact WeakA.toD rfl | exact WeakA.nilD _ | refine ⟨?_, ?_⟩)), rfl, trivial, rfl⟩ (by first | exact .inl rfl | exact .inr rfl) ?_
  rintro v r' ⟨rfl, rfl⟩ _
  simp (config := {contextual := true, maxSteps := 1000000, implicitDefEqProofs := false}) (disch := omega) only [↓SA, SB, ST, stops, dstOK, resA, resAll, resOne, resTup, initSt, mkL, gdB, Nat.reduceLT, Nat.reduceEqDiff, Nat.reduceAdd, Nat.reduceMul, Nat.reduceLeDiff, Nat.reduceSub, Int.reduceLT, Int.reduceLE, Int.reduceAdd, Int.reduceSub, Int.reduceMul, Int.reduceToNat, Int.reduceNeg, Int.reduceEq, Int.reduceNe, if_true, if_false, ite_true, ite_false, ↓reduceIte, reduceCtorEq, forall_const, implies_true, eq_self, ne_eq, ren, renL, renM, renRes, putAll, rg, rgO]
  refine HC_loopR rfSt (fun i => rg 1 [sa] (bkF i)) (fun i => i ≤ 4098) (fun i => 4098 - i) 0 [0, 1, 2] [] (by omega) ?_ ?_
  · simp only [FitR, WkLR, get_mk, ↓lk_cons, ↓reduceIte, Nat.reduceEqDiff, List.cons_append, List.nil_append, List.append_nil, List.length_append, List.length_cons, List.length_nil, Nat.zero_add, rfSt, rg, rgO, bkF, bM]
    refine ⟨?_, (by first | (simp only [wfSt, wfRs, wfL, wfA, wfM, wfL_append, wfL_map_d, Bool.and_true, Bool.and_self, decide_true, Nat.reduceLT, Nat.reduceAdd, List.length_cons, List.length_nil, Nat.zero_add, rfSt, rg, rgO, bkF, bM]; done) | rfl), ?_, (by first | (simp only [wfSt, wfRs, wfL, wfA, wfM, wfL_append, wfL_map_d, Bool.and_true, Bool.and_self, decide_true, Nat.reduceLT, Nat.reduceAdd, List.length_cons, List.length_nil, Nat.zero_add, rfSt, rg, rgO, bkF, bM]; done) | rfl), rfl, rfl⟩ <;> (repeat' (first | exact WkFs.data _ | exact trivial | exact WkF.refl _ | exact WkFs.refl _ | exact rfl | exact WkF.top _ | exact WkF.nil rfl rfl | exact WkF.full rfl rfl | exact .inl (WeakA.toD rfl) | exact .inl (WeakA.nilD _) | exact .inl (WeakA.nilFull _) | exact WkFT.one (WkF.refl _) | exact WkFT.one (.inl (WeakA.toD rfl)) | exact WkFT.one (.inl (WeakA.nilD _)) | refine ⟨_, rfl, ?_⟩ | refine ⟨?_, ?_⟩ | refine WkFT.tup ?_))
  intro i hi4
  refine HC_of_R ty_ok ?_
  by_cases hlt : i < 4098
  · have hi : (i : Int) < 4098 := by omega
    have hb3 : [b8 (i : Int), b8 (ishr .i64 (i : Int) 8), b8 (ishr .i64 (i : Int) 16)] = b3 i := rfl
    simp (config := {contextual := true, maxSteps := 1000000, implicitDefEqProofs := false}) (disch := omega) only [↓SA, SB, ST, stops, dstOK, resA, resAll, resOne, resTup, initSt, mkL, gdB, Nat.reduceLT, Nat.reduceEqDiff, Nat.reduceAdd, Nat.reduceMul, Nat.reduceLeDiff, Nat.reduceSub, Int.reduceLT, Int.reduceLE, Int.reduceAdd, Int.reduceSub, Int.reduceMul, Int.reduceToNat, Int.reduceNeg, Int.reduceEq, Int.reduceNe, if_true, if_false, ite_true, ite_false, ↓reduceIte, reduceCtorEq, forall_const, implies_true, eq_self, ne_eq, ren, renL, renM, renRes, putAll, rfSt, rg, rgO, hi, b8_wrap, hb3]
    refine HO_call ty_ok [0, 1, 2] (sign_ac 1 [sa] (bkF i) sa sx (b3 i) (by decide) (by show 3 ≤ _; decide)) rfl rfl rfl (by kernel_rfl) (by decide) ⟨(by simp), (by repeat' (first | exact trivial | exact WeakA.refl _ | exact WeakA.toD rfl | exact WeakA.nilD _ | refine ⟨?_, ?_⟩)), rfl, rg_hand _ _ _ _ _ _ _ rfl rfl rfl, rg_wf _ _ _⟩ (by first | exact .inl rfl | exact .inr rfl) ?_
    rintro v r' ⟨rfl, rfl⟩ _
    rw [signE_F i hlt, signB_F i hlt]
    have hZl := signT_len 1 [sa] (bkF i) sa sx (b3 i)
    generalize signT 1 [sa] (bkF i) sa sx (b3 i) = Z at *
    obtain ⟨hl, hb, ht, hm, hsp⟩ := dig32 Z hZl
    by_cases h96 : i < 4096
    · have hj : (i : Int) < 4096 := by omega
      rw [if_pos h96]
      simp (config := {contextual := true, maxSteps := 1000000, implicitDefEqProofs := false}) (disch := omega) only [↓SA, SB, ST, stops, dstOK, resA, resAll, resOne, resTup, initSt, mkL, gdB, Nat.reduceLT, Nat.reduceEqDiff, Nat.reduceAdd, Nat.reduceMul, Nat.reduceLeDiff, Nat.reduceSub, Int.reduceLT, Int.reduceLE, Int.reduceAdd, Int.reduceSub, Int.reduceMul, Int.reduceToNat, Int.reduceNeg, Int.reduceEq, Int.reduceNe, if_true, if_false, ite_true, ite_false, ↓reduceIte, reduceCtorEq, forall_const, implies_true, eq_self, ne_eq, ren, renL, renM, renRes, putAll, rg, rgO, hl, hb, ht, hm, hsp, hj]
      clear hsp
      refine ⟨i + 1, by omega, by omega, [0, 1, 2], [], ?_⟩
      simp only [FitR, WkLR, get_mk, ↓lk_cons, ↓reduceIte, Nat.reduceEqDiff, List.cons_append, List.nil_append, List.append_nil, List.length_append, List.length_cons, List.length_nil, Nat.zero_add, rfSt, rg, rgO]
      refine ⟨?_, (by first | (simp only [wfSt, wfRs, wfL, wfA, wfM, wfL_append, wfL_map_d, Bool.and_true, Bool.and_self, decide_true, Nat.reduceLT, Nat.reduceAdd, List.length_cons, List.length_nil, Nat.zero_add, rfSt, rg, rgO]; done) | rfl), ?_, (by first | (simp only [wfSt, wfRs, wfL, wfA, wfM, wfL_append, wfL_map_d, Bool.and_true, Bool.and_self, decide_true, Nat.reduceLT, Nat.reduceAdd, List.length_cons, List.length_nil, Nat.zero_add, rfSt, rg, rgO]; done) | rfl), rfl, rfl⟩ <;> (repeat' (first | exact WkFs.data _ | exact trivial | exact WkF.refl _ | exact WkFs.refl _ | exact rfl | exact WkF.top _ | exact WkF.nil rfl rfl | exact WkF.full rfl rfl | exact .inl (WeakA.toD rfl) | exact .inl (WeakA.nilD _) | exact .inl (WeakA.nilFull _) | exact WkFT.one (WkF.refl _) | exact WkFT.one (.inl (WeakA.toD rfl)) | exact WkFT.one (.inl (WeakA.nilD _)) | refine ⟨_, rfl, ?_⟩ | refine ⟨?_, ?_⟩ | refine WkFT.tup ?_))
    · have hj : ¬ (i : Int) < 4096 := by omega
      rw [if_neg h96]
      simp (config := {contextual := true, maxSteps := 1000000, implicitDefEqProofs := false}) (disch := omega) only [↓SA, SB, ST, stops, dstOK, resA, resAll, resOne, resTup, initSt, mkL, gdB, Nat.reduceLT, Nat.reduceEqDiff, Nat.reduceAdd, Nat.reduceMul, Nat.reduceLeDiff, Nat.reduceSub, Int.reduceLT, Int.reduceLE, Int.reduceAdd, Int.reduceSub, Int.reduceMul, Int.reduceToNat, Int.reduceNeg, Int.reduceEq, Int.reduceNe, if_true, if_false, ite_true, ite_false, ↓reduceIte, reduceCtorEq, forall_const, implies_true, eq_self, ne_eq, ren, renL, renM, renRes, putAll, rg, rgO, hl, hb, ht, hm, hsp, hj]
      clear hsp
      refine ⟨i + 1, by omega, by omega, [0, 1, 2], [], ?_⟩
      simp only [FitR, WkLR, get_mk, ↓lk_cons, ↓reduceIte, Nat.reduceEqDiff, List.cons_append, List.nil_append, List.append_nil, List.length_append, List.length_cons, List.length_nil, Nat.zero_add, rfSt, rg, rgO]
      refine ⟨?_, (by first | (simp only [wfSt, wfRs, wfL, wfA, wfM, wfL_append, wfL_map_d, Bool.and_true, Bool.and_self, decide_true, Nat.reduceLT, Nat.reduceAdd, List.length_cons, List.length_nil, Nat.zero_add, rfSt, rg, rgO]; done) | rfl), ?_, (by first | (simp only [wfSt, wfRs, wfL, wfA, wfM, wfL_append, wfL_map_d, Bool.and_true, Bool.and_self, decide_true, Nat.reduceLT, Nat.reduceAdd, List.length_cons, List.length_nil, Nat.zero_add, rfSt, rg, rgO]; done) | rfl), rfl, rfl⟩ <;> (repeat' (first | exact WkFs.data _ | exact trivial | exact WkF.refl _ | exact WkFs.refl _ | exact rfl | exact WkF.top _ | exact WkF.nil rfl rfl | exact WkF.full rfl rfl | exact .inl (WeakA.toD rfl) | exact .inl (WeakA.nilD _) | exact .inl (WeakA.nilFull _) | exact WkFT.one (WkF.refl _) | exact WkFT.one (.inl (WeakA.toD rfl)) | exact WkFT.one (.inl (WeakA.nilD _)) | refine ⟨_, rfl, ?_⟩ | refine ⟨?_, ?_⟩ | refine WkFT.tup ?_))
  · have hi : ¬ (i : Int) < 4098 := by omega
    have hie : i = 4098 := by omega
    subst hie
    have hbl := bkF_len 4098
    have he0 := signE_0
    have hey := signE_y
    generalize bkF 4098 = B at *
    simp (config := {contextual := true, maxSteps := 1000000, implicitDefEqProofs := false}) (disch := omega) only [↓SA, SB, ST, stops, dstOK, resA, resAll, resOne, resTup, initSt, mkL, gdB, Nat.reduceLT, Nat.reduceEqDiff, Nat.reduceAdd, Nat.reduceMul, Nat.reduceLeDiff, Nat.reduceSub, Int.reduceLT, Int.reduceLE, Int.reduceAdd, Int.reduceSub, Int.reduceMul, Int.reduceToNat, Int.reduceNeg, Int.reduceEq, Int.reduceNe, if_true, if_false, ite_true, ite_false, ↓reduceIte, reduceCtorEq, forall_const, implies_true, eq_self, ne_eq, ren, renL, renM, renRes, putAll, rfSt, rg, rgO, hi]
    refine HO_call ty_ok [0, 1, 2] (sign_ac 1 [sa] B sa sx [0, 0, 0] (by decide) (by decide)) rfl rfl rfl (by kernel_rfl) (by decide) ⟨(by simp), (by repeat' (first | exact trivial | exact WeakA.refl _ | exact WeakA.toD rfl | exact WeakA.nilD _ | refine ⟨?_, ?_⟩)), rfl, rg_hand _ _ _ _ _ _ _ rfl rfl rfl, rg_wf _ _ _⟩ (by first | exact .inl rfl | exact .inr rfl) ?_
    rintro v r' ⟨rfl, rfl⟩ _
    rw [he0.1, he0.2]
    have hZl := signT_len 1 [sa] B sa sx [0, 0, 0]
    generalize signT 1 [sa] B sa sx [0, 0, 0] = Z at *
    obtain ⟨hl, hb, ht, hm, hsp⟩ := dig32 Z hZl
    simp (config := {contextual := true, maxSteps := 1000000, implicitDefEqProofs := false}) (disch := omega) only [↓SA, SB, ST, stops, dstOK, resA, resAll, resOne, resTup, initSt, mkL, gdB, Nat.reduceLT, Nat.reduceEqDiff, Nat.reduceAdd, Nat.reduceMul, Nat.reduceLeDiff, Nat.reduceSub, Int.reduceLT, Int.reduceLE, Int.reduceAdd, Int.reduceSub, Int.reduceMul, Int.reduceToNat, Int.reduceNeg, Int.reduceEq, Int.reduceNe, if_true, if_false, ite_true, ite_false, ↓reduceIte, reduceCtorEq, forall_const, implies_true, eq_self, ne_eq, ren, renL, renM, renRes, putAll, rg, rgO, hl, hb, ht, hm, hsp]
    refine HO_call ty_ok [0, 1, 2] (sign_ac 1 [sa] B sa sy [] (by decide) (by decide)) rfl rfl rfl (by kernel_rfl) (by decide) ⟨(by simp), (by repeat' (first | exact trivial | exact WeakA.refl _ | exact WeakA.toD rfl | exact WeakA.nilD _ | refine ⟨?_, ?_⟩)), rfl, rg_hand _ _ _ _ _ _ _ rfl rfl rfl, rg_wf _ _ _⟩ (by first | exact .inl rfl | exact .inr rfl) ?_
    rintro v r' ⟨rfl, rfl⟩ _
    rw [hey.1, hey.2]
    have hZl2 := signT_len 1 [sa] B sa sy []
    generalize signT 1 [sa] B sa sy [] = Z2 at *
    obtain ⟨hl2, hb2, ht2, hm2, hsp2⟩ := dig32 Z2 hZl2
    simp (config := {contextual := true, maxSteps := 1000000, implicitDefEqProofs := false}) (disch := omega) only [↓SA, SB, ST, stops, dstOK, resA, resAll, resOne, resTup, initSt, mkL, gdB, Nat.reduceLT, Nat.reduceEqDiff, Nat.reduceAdd, Nat.reduceMul, Nat.reduceLeDiff, Nat.reduceSub, Int.reduceLT, Int.reduceLE, Int.reduceAdd, Int.reduceSub, Int.reduceMul, Int.reduceToNat, Int.reduceNeg, Int.reduceEq, Int.reduceNe, if_true, if_false, ite_true, ite_false, ↓reduceIte, reduceCtorEq, forall_const, implies_true, eq_self, ne_eq, ren, renL, renM, renRes, putAll, rg, rgO, hl2, hb2, ht2, hm2, hsp2]
    refine HO_call ty_ok [0, 1, 2] (rlen_ac 1 [sa] B) rfl rfl rfl (by kernel_rfl) (by decide) ⟨(by simp), (by repeat' (first | exact trivial | exact WeakA.refl _ | exact WeakA.toD rfl | exact WeakA.nilD _ | refine ⟨?_, ?_⟩)), rfl, rg_hand _ _ _ _ _ _ _ rfl rfl rfl, rg_wf _ _ _⟩ (by first | exact .inl rfl | exact .inr rfl) ?_
    rintro v r' ⟨rfl, rfl⟩ _
    have hb96 : (B.length : Int) = 4096 := by rw [hbl]; decide
    simp (config := {contextual := true, maxSteps := 1000000, implicitDefEqProofs := false}) (disch := omega) only [↓SA, SB, ST, stops, dstOK, resA, resAll, resOne, resTup, initSt, mkL, gdB, Nat.reduceLT, Nat.reduceEqDiff, Nat.reduceAdd, Nat.reduceMul, Nat.reduceLeDiff, Nat.reduceSub, Int.reduceLT, Int.reduceLE, Int.reduceAdd, Int.reduceSub, Int.reduceMul, Int.reduceToNat, Int.reduceNeg, Int.reduceEq, Int.reduceNe, if_true, if_false, ite_true, ite_false, ↓reduceIte, reduceCtorEq, forall_const, implies_true, eq_self, ne_eq, ren, renL, renM, renRes, putAll, rg, rgO, hb96]
    refine HO_pure ty_ok rlive_ac rfl rfl rfl (by kernel_rfl) (fun _ => rfl) (fun _ => rfl) rfl (by repeat' (first | exact trivial | exact WeakA.refl _ | exact WeakA.toD rfl | exact WeakA.nilD _ | refine ⟨?_, ?_⟩)) ?_
    simp (config := {contextual := true, maxSteps := 1000000, implicitDefEqProofs := false}) (disch := omega) only [↓SA, SB, ST, stops, dstOK, resA, resAll, resOne, resTup, initSt, mkL, gdB, Nat.reduceLT, Nat.reduceEqDiff, Nat.reduceAdd, Nat.reduceMul, Nat.reduceLeDiff, Nat.reduceSub, Int.reduceLT, Int.reduceLE, Int.reduceAdd, Int.reduceSub, Int.reduceMul, Int.reduceToNat, Int.reduceNeg, Int.reduceEq, Int.reduceNe, if_true, if_false, ite_true, ite_false, ↓reduceIte, reduceCtorEq, forall_const, implies_true, eq_self, ne_eq, ren, renL, renM, renRes, putAll]
end Go.Proofs.YtjpjnhljmloofaaDoor
