import Derived.Test.YtjpjnhljmloofaaDoorCFew
import Derived.Test.YtjpjnhljmloofaaDoorCRingFull
set_option linter.unusedVariables false
set_option linter.unusedSimpArgs false
set_option maxRecDepth 100000
namespace Go.Proofs.YtjpjnhljmloofaaDoor
open Go Go.ChangeShapes Go.WideShapes
theorem few_small {a b : ActT} (h : fewG 0 [a, b] = true) : a.dom.size + a.b.length ≤ 10000 ∧ b.dom.size + b.b.length ≤ 10000 := by
  simp only [fewG] at h
  split at h
  · cases h
  · rename_i h1
    split at h
    · cases h
    · rename_i h2
      unfold aw at h1 h2
      omega
theorem signE_in {l : List ByteArray} {w d : ByteArray} {b : List UInt8} {bk : List Pr} (hw : memB w l = true) (hs : d.size + b.length ≤ 65536) (h : memP (pr w d b) bk = true ∨ bk.length < 4096) : signE l bk w d b = 0 := by
  rw [signE, if_neg (by rw [hw]; decide), if_neg (by omega), if_neg]
  rintro ⟨h1, h2⟩
  rcases h with h | h
  · rw [h] at h1; cases h1
  · omega
theorem signE_out {l : List ByteArray} {w d : ByteArray} {b : List UInt8} {bk : List Pr} (hw : memB w l = false) : signE l bk w d b = 60 ∧ signB l bk w d b = bk := by
  have e : signE l bk w d b = 60 := by rw [signE, if_pos hw]
  exact ⟨e, by rw [signB, e, if_neg (fun h => absurd h.1 (by decide))]⟩
theorem memP_self (p : Pr) : memP p [p] = true := by simp [memP]
set_option maxHeartbeats 400000 in
theorem ringSigns_ac (l : List ByteArray) (a b : ActT) (ha : actOk a) (hb : actOk b) (hl : l.length ≤ 140737488352000) : AC Tryd.prog noG 10 [.d (.sl 1 l.length (sD l)), .d (.agg (actE a)), .d (.agg (actE b))] [] (fun v r' => v = .d (.c (.bool true)) ∧ r' = []) := by
  refine AC.pure ?_ (by rintro v rfl; rfl)
  refine AC_of_R (N := 142) (res := [.tmp 6]) ty_ok Tryd.call10 Tryd.func10 rfl rfl rfl (Nat.le_of_ble_eq_true rfl) ?_
  obtain ⟨ak, aw_, ad, ab, at_⟩ := a
  obtain ⟨bk, bw, bd, bb, bt⟩ := b
  obtain ⟨_, a1, a2, a3, a4⟩ := ha
  obtain ⟨_, b1, b2, b3, b4⟩ := hb
  have hr : reachBytes = 140737488351232 := rfl
  simp only at a1 a2 a3 a4 b1 b2 b3 b4
  have kf := few_ac [⟨ak, aw_, ad, ab, at_⟩, ⟨bk, bw, bd, bb, bt⟩] (by simp; omega) (by simp)
  obtain ⟨q, hq⟩ : ∃ q, q = fewG 0 [⟨ak, aw_, ad, ab, at_⟩, ⟨bk, bw, bd, bb, bt⟩] := ⟨_, rfl⟩
  rw [← hq] at kf
  simp (config := {contextual := true, maxSteps := 1000000, implicitDefEqProofs := false}) (disch := omega) only [↓SA, SB, ST, stops, dstOK, resA, resAll, resOne, resTup, initSt, mkL, gdB, Nat.reduceLT, Nat.reduceEqDiff, Nat.reduceAdd, Nat.reduceMul, Nat.reduceLeDiff, Nat.reduceSub, Int.reduceLT, Int.reduceLE, Int.reduceAdd, Int.reduceSub, Int.reduceMul, Int.reduceToNat, Int.reduceNeg, Int.reduceEq, Int.reduceNe, if_true, if_false, ite_true, ite_false, ↓reduceIte, reduceCtorEq, forall_const, implies_true, eq_self, ne_eq, ren, renL, renM, renRes, putAll, actE]
  refine HO_pure ty_ok kf rfl rfl rfl (by kernel_rfl) (fun _ => rfl) (fun _ => rfl) rfl (by repeat' (first | exact trivial | exact WeakA.refl _ | exact WeakA.toD rfl | exact WeakA.nilD _ | refine ⟨?_, ?_⟩)) ?_
  cases q with
  | false =>
    simp (config := {contextual := true, maxSteps := 1000000, implicitDefEqProofs := false}) (disch := omega) only [↓SA, SB, ST, stops, dstOK, resA, resAll, resOne, resTup, initSt, mkL, gdB, Nat.reduceLT, Nat.reduceEqDiff, Nat.reduceAdd, Nat.reduceMul, Nat.reduceLeDiff, Nat.reduceSub, Int.reduceLT, Int.reduceLE, Int.reduceAdd, Int.reduceSub, Int.reduceMul, Int.reduceToNat, Int.reduceNeg, Int.reduceEq, Int.reduceNe, if_true, if_false, ite_true, ite_false, ↓reduceIte, reduceCtorEq, forall_const, implies_true, eq_self, ne_eq, ren, renL, renM, renRes, putAll]
    refine HO_pure ty_ok rlive_ac rfl rfl rfl (by kernel_rfl) (fun _ => rfl) (fun _ => rfl) rfl (by repeat' (first | exact trivial | exact WeakA.refl _ | exact WeakA.toD rfl | exact WeakA.nilD _ | refine ⟨?_, ?_⟩)) ?_
    simp (config := {contextual := true, maxSteps := 1000000, implicitDefEqProofs := false}) (disch := omega) only [↓SA, SB, ST, stops, dstOK, resA, resAll, resOne, resTup, initSt, mkL, gdB, Nat.reduceLT, Nat.reduceEqDiff, Nat.reduceAdd, Nat.reduceMul, Nat.reduceLeDiff, Nat.reduceSub, Int.reduceLT, Int.reduceLE, Int.reduceAdd, Int.reduceSub, Int.reduceMul, Int.reduceToNat, Int.reduceNeg, Int.reduceEq, Int.reduceNe, if_true, if_false, ite_true, ite_false, ↓reduceIte, reduceCtorEq, forall_const, implies_true, eq_self, ne_eq, ren, renL, renM, renRes, putAll]
  | true =>
    obtain ⟨s1, s2⟩ := few_small hq.symm
    simp only at s1 s2
    simp (config := {contextual := true, maxSteps := 1000000, implicitDefEqProofs := false}) (disch := omega) only [↓SA, SB, ST, stops, dstOK, resA, resAll, resOne, resTup, initSt, mkL, gdB, Nat.reduceLT, Nat.reduceEqDiff, Nat.reduceAdd, Nat.reduceMul, Nat.reduceLeDiff, Nat.reduceSub, Int.reduceLT, Int.reduceLE, Int.reduceAdd, Int.reduceSub, Int.reduceMul, Int.reduceToNat, Int.reduceNeg, Int.reduceEq, Int.reduceNe, if_true, if_false, ite_true, ite_false, ↓reduceIte, reduceCtorEq, forall_const, implies_true, eq_self, ne_eq, ren, renL, renM, renRes, putAll]
    by_cases hn : newE l = 0
    · refine HO_call ty_ok [] (new_ok 7 l (by decide) (by decide) hn) rfl rfl rfl (by kernel_rfl) (by decide) ⟨(by simp), (by repeat' (first | exact trivial | exact WeakA.refl _ | exact WeakA.toD rfl | exact WeakA.nilD _ | refine ⟨?_, ?_⟩)), rfl, trivial, rfl⟩ (by first | exact .inl rfl | exact .inr rfl) ?_
      rintro v r' ⟨rfl, rfl⟩ _
      simp (config := {contextual := true, maxSteps := 1000000, implicitDefEqProofs := false}) (disch := omega) only [↓SA, SB, ST, stops, dstOK, resA, resAll, resOne, resTup, initSt, mkL, gdB, Nat.reduceLT, Nat.reduceEqDiff, Nat.reduceAdd, Nat.reduceMul, Nat.reduceLeDiff, Nat.reduceSub, Int.reduceLT, Int.reduceLE, Int.reduceAdd, Int.reduceSub, Int.reduceMul, Int.reduceToNat, Int.reduceNeg, Int.reduceEq, Int.reduceNe, if_true, if_false, ite_true, ite_false, ↓reduceIte, reduceCtorEq, forall_const, implies_true, eq_self, ne_eq, ren, renL, renM, renRes, putAll, rg, rgO]
      refine HO_call ty_ok [2, 3, 4] (sign_ac 7 l [] aw_ ad ab (by omega) (by omega)) rfl rfl rfl (by kernel_rfl) (by decide) ⟨(by simp), (by repeat' (first | exact trivial | exact WeakA.refl _ | exact WeakA.toD rfl | exact WeakA.nilD _ | refine ⟨?_, ?_⟩)), rfl, rg_hand _ _ _ _ _ _ _ rfl rfl rfl, rg_wf _ _ _⟩ (by first | exact .inl rfl | exact .inr rfl) ?_
      rintro v r' ⟨rfl, rfl⟩ _
      cases hw : memB aw_ l with
      | false =>
        obtain ⟨e1, e2⟩ := signE_out (l := l) (d := ad) (b := ab) (bk := []) hw
        rw [e1, e2]
        have hZl := signT_len 7 l [] aw_ ad ab
        generalize signT 7 l [] aw_ ad ab = Z at *
        obtain ⟨hl1, hb1, ht1, hm1, hsp⟩ := dig32 Z hZl
        simp (config := {contextual := true, maxSteps := 1000000, implicitDefEqProofs := false}) (disch := omega) only [↓SA, SB, ST, stops, dstOK, resA, resAll, resOne, resTup, initSt, mkL, gdB, Nat.reduceLT, Nat.reduceEqDiff, Nat.reduceAdd, Nat.reduceMul, Nat.reduceLeDiff, Nat.reduceSub, Int.reduceLT, Int.reduceLE, Int.reduceAdd, Int.reduceSub, Int.reduceMul, Int.reduceToNat, Int.reduceNeg, Int.reduceEq, Int.reduceNe, if_true, if_false, ite_true, ite_false, ↓reduceIte, reduceCtorEq, forall_const, implies_true, eq_self, ne_eq, ren, renL, renM, renRes, putAll, rg, rgO, hl1, hb1, ht1, hm1, hsp]
        clear hsp
        refine HO_call ty_ok [2, 3, 4] (is_ac 7 l [] aw_) rfl rfl rfl (by kernel_rfl) (by decide) ⟨(by simp), (by repeat' (first | exact trivial | exact WeakA.refl _ | exact WeakA.toD rfl | exact WeakA.nilD _ | refine ⟨?_, ?_⟩)), rfl, rg_hand _ _ _ _ _ _ _ rfl rfl rfl, rg_wf _ _ _⟩ (by first | exact .inl rfl | exact .inr rfl) ?_
        rintro v r' ⟨rfl, rfl⟩ _
        simp (config := {contextual := true, maxSteps := 1000000, implicitDefEqProofs := false}) (disch := omega) only [↓SA, SB, ST, stops, dstOK, resA, resAll, resOne, resTup, initSt, mkL, gdB, Nat.reduceLT, Nat.reduceEqDiff, Nat.reduceAdd, Nat.reduceMul, Nat.reduceLeDiff, Nat.reduceSub, Int.reduceLT, Int.reduceLE, Int.reduceAdd, Int.reduceSub, Int.reduceMul, Int.reduceToNat, Int.reduceNeg, Int.reduceEq, Int.reduceNe, if_true, if_false, ite_true, ite_false, ↓reduceIte, reduceCtorEq, forall_const, implies_true, eq_self, ne_eq, ren, renL, renM, renRes, putAll, rg, rgO, hw]
        refine HO_call ty_ok [2, 3, 4] (rlen_ac 7 l []) rfl rfl rfl (by kernel_rfl) (by decide) ⟨(by simp), (by repeat' (first | exact trivial | exact WeakA.refl _ | exact WeakA.toD rfl | exact WeakA.nilD _ | refine ⟨?_, ?_⟩)), rfl, rg_hand _ _ _ _ _ _ _ rfl rfl rfl, rg_wf _ _ _⟩ (by first | exact .inl rfl | exact .inr rfl) ?_
        rintro v r' ⟨rfl, rfl⟩ _
        simp (config := {contextual := true, maxSteps := 1000000, implicitDefEqProofs := false}) (disch := omega) only [↓SA, SB, ST, stops, dstOK, resA, resAll, resOne, resTup, initSt, mkL, gdB, Nat.reduceLT, Nat.reduceEqDiff, Nat.reduceAdd, Nat.reduceMul, Nat.reduceLeDiff, Nat.reduceSub, Int.reduceLT, Int.reduceLE, Int.reduceAdd, Int.reduceSub, Int.reduceMul, Int.reduceToNat, Int.reduceNeg, Int.reduceEq, Int.reduceNe, if_true, if_false, ite_true, ite_false, ↓reduceIte, reduceCtorEq, forall_const, implies_true, eq_self, ne_eq, ren, renL, renM, renRes, putAll, rg, rgO]
        refine HO_pure ty_ok rlive_ac rfl rfl rfl (by kernel_rfl) (fun _ => rfl) (fun _ => rfl) rfl (by repeat' (first | exact trivial | exact WeakA.refl _ | exact WeakA.toD rfl | exact WeakA.nilD _ | refine ⟨?_, ?_⟩)) ?_
        simp (config := {contextual := true, maxSteps := 1000000, implicitDefEqProofs := false}) (disch := omega) only [↓SA, SB, ST, stops, dstOK, resA, resAll, resOne, resTup, initSt, mkL, gdB, Nat.reduceLT, Nat.reduceEqDiff, Nat.reduceAdd, Nat.reduceMul, Nat.reduceLeDiff, Nat.reduceSub, Int.reduceLT, Int.reduceLE, Int.reduceAdd, Int.reduceSub, Int.reduceMul, Int.reduceToNat, Int.reduceNeg, Int.reduceEq, Int.reduceNe, if_true, if_false, ite_true, ite_false, ↓reduceIte, reduceCtorEq, forall_const, implies_true, eq_self, ne_eq, ren, renL, renM, renRes, putAll]
      | true =>
        have e1 := signE_in (l := l) (w := aw_) (d := ad) (b := ab) (bk := []) hw (by omega) (.inr (by decide))
        have e2 : signB l [] aw_ ad ab = [pr aw_ ad ab] := by rw [signB, e1]; rfl
        have e3 : signT 7 l [] aw_ ad ab = rtag 7 aw_ ad ab := by rw [signT, if_pos e1]
        obtain ⟨p, hp⟩ : ∃ p, p = pr aw_ ad ab := ⟨_, rfl⟩
        have f1 := signE_in (l := l) (w := aw_) (d := ad) (b := ab) (bk := [p]) hw (by omega) (.inl (by rw [← hp]; exact memP_self p))
        have f2 : signB l [p] aw_ ad ab = [p] := by
          rw [signB, if_neg]
          rintro ⟨_, h⟩
          rw [← hp, memP_self] at h; cases h
        have f3 : signT 7 l [p] aw_ ad ab = rtag 7 aw_ ad ab := by rw [signT, if_pos f1]
        have kv := verifyO_ac 7 l [p] aw_ ad ab (rtag 7 aw_ ad ab) (by omega) (rtag_len _ _ _ _)
        rw [e1, e2, e3, ← hp]
        have hTl := rtag_len 7 aw_ ad ab
        generalize rtag 7 aw_ ad ab = T at *
        obtain ⟨hl1, hb1, ht1, hm1, hsp⟩ := dig32 T hTl
        simp (config := {contextual := true, maxSteps := 1000000, implicitDefEqProofs := false}) (disch := omega) only [↓SA, SB, ST, stops, dstOK, resA, resAll, resOne, resTup, initSt, mkL, gdB, Nat.reduceLT, Nat.reduceEqDiff, Nat.reduceAdd, Nat.reduceMul, Nat.reduceLeDiff, Nat.reduceSub, Int.reduceLT, Int.reduceLE, Int.reduceAdd, Int.reduceSub, Int.reduceMul, Int.reduceToNat, Int.reduceNeg, Int.reduceEq, Int.reduceNe, if_true, if_false, ite_true, ite_false, ↓reduceIte, reduceCtorEq, forall_const, implies_true, eq_self, ne_eq, ren, renL, renM, renRes, putAll, rg, rgO, hl1, hb1, ht1, hm1, hsp]
        refine HO_call ty_ok [2, 3, 4] (sign_ac 7 l [p] aw_ ad ab (by omega) (by omega)) rfl rfl rfl (by kernel_rfl) (by decide) ⟨(by simp), (by repeat' (first | exact trivial | exact WeakA.refl _ | exact WeakA.toD rfl | exact WeakA.nilD _ | refine ⟨?_, ?_⟩)), rfl, rg_hand _ _ _ _ _ _ _ rfl rfl rfl, rg_wf _ _ _⟩ (by first | exact .inl rfl | exact .inr rfl) ?_
        rintro v r' ⟨rfl, rfl⟩ _
        rw [f1, f2, f3]
        have m1 : memP (pr aw_ ad ab) [p] = true := by rw [← hp]; exact memP_self p
        obtain ⟨q2, hq2⟩ : ∃ q2, q2 = memP (pr bw bd bb) [p] := ⟨_, rfl⟩
        have hq3 : q2 = decide (pr bw bd bb = pr aw_ ad ab) := by rw [hq2, hp]; simp [memP]
        by_cases g1 : aw_ = bw
        · subst g1
          by_cases g2 : ad = bd
          · subst g2
            by_cases g3 : ab = bb
            · subst g3
              rw [decide_eq_true rfl] at hq3
              subst hq3
              simp (config := {contextual := true, maxSteps := 1000000, implicitDefEqProofs := false}) (disch := omega) only [↓SA, SB, ST, stops, dstOK, resA, resAll, resOne, resTup, initSt, mkL, gdB, Nat.reduceLT, Nat.reduceEqDiff, Nat.reduceAdd, Nat.reduceMul, Nat.reduceLeDiff, Nat.reduceSub, Int.reduceLT, Int.reduceLE, Int.reduceAdd, Int.reduceSub, Int.reduceMul, Int.reduceToNat, Int.reduceNeg, Int.reduceEq, Int.reduceNe, if_true, if_false, ite_true, ite_false, ↓reduceIte, reduceCtorEq, forall_const, implies_true, eq_self, ne_eq, ren, renL, renM, renRes, putAll, rg, rgO, hl1, hb1, ht1, hm1, hsp, hl1]
              clear hsp
              refine HC_order [] ty_ok mix (0 :: 1 :: 2 :: 3 :: 4 :: 5 :: 6 :: 7 :: 8 :: 9 :: 10 :: 11 :: 12 :: 13 :: 14 :: 15 :: 16 :: 17 :: 18 :: 19 :: 20 :: 21 :: 22 :: 23 :: 24 :: 25 :: 26 :: 27 :: 28 :: 29 :: 30 :: 31 :: 32 :: 33 :: 34 :: 35 :: 36 :: 37 :: 38 :: 39 :: 40 :: 42 :: 41 :: 43 :: 44 :: 45 :: 46 :: 47 :: 48 :: []) (by kernel_rfl) rfl _ rfl ?_
              simp only [opl_nil', opl_cons', oplC_some, List.getElem?_toArray, List.getElem?_cons_zero, List.getElem?_cons_succ]
              simp (config := {contextual := true, maxSteps := 1000000, implicitDefEqProofs := false}) (disch := omega) only [↓SA, SB, ST, stops, dstOK, resA, resAll, resOne, resTup, initSt, mkL, gdB, Nat.reduceLT, Nat.reduceEqDiff, Nat.reduceAdd, Nat.reduceMul, Nat.reduceLeDiff, Nat.reduceSub, Int.reduceLT, Int.reduceLE, Int.reduceAdd, Int.reduceSub, Int.reduceMul, Int.reduceToNat, Int.reduceNeg, Int.reduceEq, Int.reduceNe, if_true, if_false, ite_true, ite_false, ↓reduceIte, reduceCtorEq, forall_const, implies_true, eq_self, ne_eq, ren, renL, renM, renRes, putAll, hl1, hb1, ht1, bA_allD]
              refine HO_call ty_ok [2, 3, 4] (rlen_ac 7 l [p]) rfl rfl rfl (by kernel_rfl) (by decide) ⟨(by simp), (by repeat' (first | exact trivial | exact WeakA.refl _ | exact WeakA.toD rfl | exact WeakA.nilD _ | refine ⟨?_, ?_⟩)), rfl, rg_hand _ _ _ _ _ _ _ rfl rfl rfl, rg_wf _ _ _⟩ (by first | exact .inl rfl | exact .inr rfl) ?_
              rintro v r' ⟨rfl, rfl⟩ _
              simp (config := {contextual := true, maxSteps := 1000000, implicitDefEqProofs := false}) (disch := omega) only [↓SA, SB, ST, stops, dstOK, resA, resAll, resOne, resTup, initSt, mkL, gdB, Nat.reduceLT, Nat.reduceEqDiff, Nat.reduceAdd, Nat.reduceMul, Nat.reduceLeDiff, Nat.reduceSub, Int.reduceLT, Int.reduceLE, Int.reduceAdd, Int.reduceSub, Int.reduceMul, Int.reduceToNat, Int.reduceNeg, Int.reduceEq, Int.reduceNe, if_true, if_false, ite_true, ite_false, ↓reduceIte, reduceCtorEq, forall_const, implies_true, eq_self, ne_eq, ren, renL, renM, renRes, putAll, rg, rgO, hb1]
              refine ⟨⟨by decide, by decide⟩, HO_call ty_ok [2, 3, 4, 5] kv rfl rfl rfl (by kernel_rfl) (by decide) ⟨(by simp), (by repeat' (first | exact trivial | exact WeakA.refl _ | exact WeakA.toD rfl | exact WeakA.nilD _ | refine ⟨?_, ?_⟩)), rfl, rgT_hand _ _ _ _ _ _ _ _ _ rfl rfl rfl rfl, rgT_wf _ _ _ _⟩ (by first | exact .inl rfl | exact .inr rfl) ?_⟩
              rintro v r' ⟨rfl, rfl⟩ _
              simp (config := {contextual := true, maxSteps := 1000000, implicitDefEqProofs := false}) (disch := omega) only [↓SA, SB, ST, stops, dstOK, resA, resAll, resOne, resTup, initSt, mkL, gdB, Nat.reduceLT, Nat.reduceEqDiff, Nat.reduceAdd, Nat.reduceMul, Nat.reduceLeDiff, Nat.reduceSub, Int.reduceLT, Int.reduceLE, Int.reduceAdd, Int.reduceSub, Int.reduceMul, Int.reduceToNat, Int.reduceNeg, Int.reduceEq, Int.reduceNe, if_true, if_false, ite_true, ite_false, ↓reduceIte, reduceCtorEq, forall_const, implies_true, eq_self, ne_eq, ren, renL, renM, renRes, putAll, rgT, rgO, hw, ren_bA]
              refine HO_call ty_ok [2, 3, 4] (made_ac 7 l [p] aw_ ad ab) rfl rfl rfl (by kernel_rfl) (by decide) ⟨(by simp), (by repeat' (first | exact trivial | exact WeakA.refl _ | exact WeakA.toD rfl | exact WeakA.nilD _ | refine ⟨?_, ?_⟩)), rfl, rg_hand _ _ _ _ _ _ _ rfl rfl rfl, rg_wf _ _ _⟩ (by first | exact .inl rfl | exact .inr rfl) ?_
              rintro v r' ⟨rfl, rfl⟩ _
              rw [m1]
              simp (config := {contextual := true, maxSteps := 1000000, implicitDefEqProofs := false}) (disch := omega) only [↓SA, SB, ST, stops, dstOK, resA, resAll, resOne, resTup, initSt, mkL, gdB, Nat.reduceLT, Nat.reduceEqDiff, Nat.reduceAdd, Nat.reduceMul, Nat.reduceLeDiff, Nat.reduceSub, Int.reduceLT, Int.reduceLE, Int.reduceAdd, Int.reduceSub, Int.reduceMul, Int.reduceToNat, Int.reduceNeg, Int.reduceEq, Int.reduceNe, if_true, if_false, ite_true, ite_false, ↓reduceIte, reduceCtorEq, forall_const, implies_true, eq_self, ne_eq, ren, renL, renM, renRes, putAll, rg, rgO]
              refine HO_call ty_ok [2, 3, 4] (made_ac 7 l [p] aw_ ad ab) rfl rfl rfl (by kernel_rfl) (by decide) ⟨(by simp), (by repeat' (first | exact trivial | exact WeakA.refl _ | exact WeakA.toD rfl | exact WeakA.nilD _ | refine ⟨?_, ?_⟩)), rfl, rg_hand _ _ _ _ _ _ _ rfl rfl rfl, rg_wf _ _ _⟩ (by first | exact .inl rfl | exact .inr rfl) ?_
              rintro v r' ⟨rfl, rfl⟩ _
              rw [← hq2]
              simp (config := {contextual := true, maxSteps := 1000000, implicitDefEqProofs := false}) (disch := omega) only [↓SA, SB, ST, stops, dstOK, resA, resAll, resOne, resTup, initSt, mkL, gdB, Nat.reduceLT, Nat.reduceEqDiff, Nat.reduceAdd, Nat.reduceMul, Nat.reduceLeDiff, Nat.reduceSub, Int.reduceLT, Int.reduceLE, Int.reduceAdd, Int.reduceSub, Int.reduceMul, Int.reduceToNat, Int.reduceNeg, Int.reduceEq, Int.reduceNe, if_true, if_false, ite_true, ite_false, ↓reduceIte, reduceCtorEq, forall_const, implies_true, eq_self, ne_eq, ren, renL, renM, renRes, putAll, rg, rgO]
              refine HO_pure ty_ok rlive_ac rfl rfl rfl (by kernel_rfl) (fun _ => rfl) (fun _ => rfl) rfl (by repeat' (first | exact trivial | exact WeakA.refl _ | exact WeakA.toD rfl | exact WeakA.nilD _ | refine ⟨?_, ?_⟩)) ?_
              simp (config := {contextual := true, maxSteps := 1000000, implicitDefEqProofs := false}) (disch := omega) only [↓SA, SB, ST, stops, dstOK, resA, resAll, resOne, resTup, initSt, mkL, gdB, Nat.reduceLT, Nat.reduceEqDiff, Nat.reduceAdd, Nat.reduceMul, Nat.reduceLeDiff, Nat.reduceSub, Int.reduceLT, Int.reduceLE, Int.reduceAdd, Int.reduceSub, Int.reduceMul, Int.reduceToNat, Int.reduceNeg, Int.reduceEq, Int.reduceNe, if_true, if_false, ite_true, ite_false, ↓reduceIte, reduceCtorEq, forall_const, implies_true, eq_self, ne_eq, ren, renL, renM, renRes, putAll]
            · have hs : ¬ (({ data := ab.toArray } : ByteArray) = { data := bb.toArray }) := fun h => g3 (strB_inj h)
              rw [decide_eq_false (fun h => g3 (pr_inj h).2.2.symm)] at hq3
              subst hq3
              simp (config := {contextual := true, maxSteps := 1000000, implicitDefEqProofs := false}) (disch := omega) only [↓SA, SB, ST, stops, dstOK, resA, resAll, resOne, resTup, initSt, mkL, gdB, Nat.reduceLT, Nat.reduceEqDiff, Nat.reduceAdd, Nat.reduceMul, Nat.reduceLeDiff, Nat.reduceSub, Int.reduceLT, Int.reduceLE, Int.reduceAdd, Int.reduceSub, Int.reduceMul, Int.reduceToNat, Int.reduceNeg, Int.reduceEq, Int.reduceNe, if_true, if_false, ite_true, ite_false, ↓reduceIte, reduceCtorEq, forall_const, implies_true, eq_self, ne_eq, ren, renL, renM, renRes, putAll, rg, rgO, hl1, hb1, ht1, hm1, hsp, hs]
              clear hsp
              refine HC_order [] ty_ok mix (0 :: 1 :: 2 :: 3 :: 4 :: 5 :: 6 :: 7 :: 8 :: 9 :: 10 :: 11 :: 12 :: 13 :: 14 :: 15 :: 16 :: 17 :: 18 :: 19 :: 20 :: 21 :: 22 :: 23 :: 24 :: 25 :: 26 :: 27 :: 28 :: 29 :: 30 :: 31 :: 32 :: 33 :: 34 :: 35 :: 36 :: 37 :: 38 :: 39 :: 40 :: 42 :: 41 :: 43 :: 44 :: 45 :: 46 :: 47 :: 48 :: []) (by kernel_rfl) rfl _ rfl ?_
              simp only [opl_nil', opl_cons', oplC_some, List.getElem?_toArray, List.getElem?_cons_zero, List.getElem?_cons_succ]
              simp (config := {contextual := true, maxSteps := 1000000, implicitDefEqProofs := false}) (disch := omega) only [↓SA, SB, ST, stops, dstOK, resA, resAll, resOne, resTup, initSt, mkL, gdB, Nat.reduceLT, Nat.reduceEqDiff, Nat.reduceAdd, Nat.reduceMul, Nat.reduceLeDiff, Nat.reduceSub, Int.reduceLT, Int.reduceLE, Int.reduceAdd, Int.reduceSub, Int.reduceMul, Int.reduceToNat, Int.reduceNeg, Int.reduceEq, Int.reduceNe, if_true, if_false, ite_true, ite_false, ↓reduceIte, reduceCtorEq, forall_const, implies_true, eq_self, ne_eq, ren, renL, renM, renRes, putAll, hl1, hb1, ht1, bA_allD]
              refine HO_call ty_ok [2, 3, 4] (rlen_ac 7 l [p]) rfl rfl rfl (by kernel_rfl) (by decide) ⟨(by simp), (by repeat' (first | exact trivial | exact WeakA.refl _ | exact WeakA.toD rfl | exact WeakA.nilD _ | refine ⟨?_, ?_⟩)), rfl, rg_hand _ _ _ _ _ _ _ rfl rfl rfl, rg_wf _ _ _⟩ (by first | exact .inl rfl | exact .inr rfl) ?_
              rintro v r' ⟨rfl, rfl⟩ _
              simp (config := {contextual := true, maxSteps := 1000000, implicitDefEqProofs := false}) (disch := omega) only [↓SA, SB, ST, stops, dstOK, resA, resAll, resOne, resTup, initSt, mkL, gdB, Nat.reduceLT, Nat.reduceEqDiff, Nat.reduceAdd, Nat.reduceMul, Nat.reduceLeDiff, Nat.reduceSub, Int.reduceLT, Int.reduceLE, Int.reduceAdd, Int.reduceSub, Int.reduceMul, Int.reduceToNat, Int.reduceNeg, Int.reduceEq, Int.reduceNe, if_true, if_false, ite_true, ite_false, ↓reduceIte, reduceCtorEq, forall_const, implies_true, eq_self, ne_eq, ren, renL, renM, renRes, putAll, rg, rgO, hb1]
              refine ⟨⟨by decide, by decide⟩, HO_call ty_ok [2, 3, 4, 5] kv rfl rfl rfl (by kernel_rfl) (by decide) ⟨(by simp), (by repeat' (first | exact trivial | exact WeakA.refl _ | exact WeakA.toD rfl | exact WeakA.nilD _ | refine ⟨?_, ?_⟩)), rfl, rgT_hand _ _ _ _ _ _ _ _ _ rfl rfl rfl rfl, rgT_wf _ _ _ _⟩ (by first | exact .inl rfl | exact .inr rfl) ?_⟩
              rintro v r' ⟨rfl, rfl⟩ _
              simp (config := {contextual := true, maxSteps := 1000000, implicitDefEqProofs := false}) (disch := omega) only [↓SA, SB, ST, stops, dstOK, resA, resAll, resOne, resTup, initSt, mkL, gdB, Nat.reduceLT, Nat.reduceEqDiff, Nat.reduceAdd, Nat.reduceMul, Nat.reduceLeDiff, Nat.reduceSub, Int.reduceLT, Int.reduceLE, Int.reduceAdd, Int.reduceSub, Int.reduceMul, Int.reduceToNat, Int.reduceNeg, Int.reduceEq, Int.reduceNe, if_true, if_false, ite_true, ite_false, ↓reduceIte, reduceCtorEq, forall_const, implies_true, eq_self, ne_eq, ren, renL, renM, renRes, putAll, rgT, rgO, hw, ren_bA]
              refine HO_call ty_ok [2, 3, 4] (made_ac 7 l [p] aw_ ad ab) rfl rfl rfl (by kernel_rfl) (by decide) ⟨(by simp), (by repeat' (first | exact trivial | exact WeakA.refl _ | exact WeakA.toD rfl | exact WeakA.nilD _ | refine ⟨?_, ?_⟩)), rfl, rg_hand _ _ _ _ _ _ _ rfl rfl rfl, rg_wf _ _ _⟩ (by first | exact .inl rfl | exact .inr rfl) ?_
              rintro v r' ⟨rfl, rfl⟩ _
              rw [m1]
              simp (config := {contextual := true, maxSteps := 1000000, implicitDefEqProofs := false}) (disch := omega) only [↓SA, SB, ST, stops, dstOK, resA, resAll, resOne, resTup, initSt, mkL, gdB, Nat.reduceLT, Nat.reduceEqDiff, Nat.reduceAdd, Nat.reduceMul, Nat.reduceLeDiff, Nat.reduceSub, Int.reduceLT, Int.reduceLE, Int.reduceAdd, Int.reduceSub, Int.reduceMul, Int.reduceToNat, Int.reduceNeg, Int.reduceEq, Int.reduceNe, if_true, if_false, ite_true, ite_false, ↓reduceIte, reduceCtorEq, forall_const, implies_true, eq_self, ne_eq, ren, renL, renM, renRes, putAll, rg, rgO]
              refine HO_call ty_ok [2, 3, 4] (made_ac 7 l [p] aw_ ad bb) rfl rfl rfl (by kernel_rfl) (by decide) ⟨(by simp), (by repeat' (first | exact trivial | exact WeakA.refl _ | exact WeakA.toD rfl | exact WeakA.nilD _ | refine ⟨?_, ?_⟩)), rfl, rg_hand _ _ _ _ _ _ _ rfl rfl rfl, rg_wf _ _ _⟩ (by first | exact .inl rfl | exact .inr rfl) ?_
              rintro v r' ⟨rfl, rfl⟩ _
              rw [← hq2]
              simp (config := {contextual := true, maxSteps := 1000000, implicitDefEqProofs := false}) (disch := omega) only [↓SA, SB, ST, stops, dstOK, resA, resAll, resOne, resTup, initSt, mkL, gdB, Nat.reduceLT, Nat.reduceEqDiff, Nat.reduceAdd, Nat.reduceMul, Nat.reduceLeDiff, Nat.reduceSub, Int.reduceLT, Int.reduceLE, Int.reduceAdd, Int.reduceSub, Int.reduceMul, Int.reduceToNat, Int.reduceNeg, Int.reduceEq, Int.reduceNe, if_true, if_false, ite_true, ite_false, ↓reduceIte, reduceCtorEq, forall_const, implies_true, eq_self, ne_eq, ren, renL, renM, renRes, putAll, rg, rgO]
              refine HO_pure ty_ok rlive_ac rfl rfl rfl (by kernel_rfl) (fun _ => rfl) (fun _ => rfl) rfl (by repeat' (first | exact trivial | exact WeakA.refl _ | exact WeakA.toD rfl | exact WeakA.nilD _ | refine ⟨?_, ?_⟩)) ?_
              simp (config := {contextual := true, maxSteps := 1000000, implicitDefEqProofs := false}) (disch := omega) only [↓SA, SB, ST, stops, dstOK, resA, resAll, resOne, resTup, initSt, mkL, gdB, Nat.reduceLT, Nat.reduceEqDiff, Nat.reduceAdd, Nat.reduceMul, Nat.reduceLeDiff, Nat.reduceSub, Int.reduceLT, Int.reduceLE, Int.reduceAdd, Int.reduceSub, Int.reduceMul, Int.reduceToNat, Int.reduceNeg, Int.reduceEq, Int.reduceNe, if_true, if_false, ite_true, ite_false, ↓reduceIte, reduceCtorEq, forall_const, implies_true, eq_self, ne_eq, ren, renL, renM, renRes, putAll]
          · rw [decide_eq_false (fun h => g2 (pr_inj h).2.1.symm)] at hq3
            subst hq3
            simp (config := {contextual := true, maxSteps := 1000000, implicitDefEqProofs := false}) (disch := omega) only [↓SA, SB, ST, stops, dstOK, resA, resAll, resOne, resTup, initSt, mkL, gdB, Nat.reduceLT, Nat.reduceEqDiff, Nat.reduceAdd, Nat.reduceMul, Nat.reduceLeDiff, Nat.reduceSub, Int.reduceLT, Int.reduceLE, Int.reduceAdd, Int.reduceSub, Int.reduceMul, Int.reduceToNat, Int.reduceNeg, Int.reduceEq, Int.reduceNe, if_true, if_false, ite_true, ite_false, ↓reduceIte, reduceCtorEq, forall_const, implies_true, eq_self, ne_eq, ren, renL, renM, renRes, putAll, rg, rgO, hl1, hb1, ht1, hm1, hsp, g2]
            clear hsp
            refine HC_order [] ty_ok mix (0 :: 1 :: 2 :: 3 :: 4 :: 5 :: 6 :: 7 :: 8 :: 9 :: 10 :: 11 :: 12 :: 13 :: 14 :: 15 :: 16 :: 17 :: 18 :: 19 :: 20 :: 21 :: 22 :: 23 :: 24 :: 25 :: 26 :: 27 :: 28 :: 29 :: 30 :: 31 :: 32 :: 33 :: 34 :: 35 :: 36 :: 37 :: 38 :: 39 :: 40 :: 42 :: 41 :: 43 :: 44 :: 45 :: 46 :: 47 :: 48 :: []) (by kernel_rfl) rfl _ rfl ?_
            simp only [opl_nil', opl_cons', oplC_some, List.getElem?_toArray, List.getElem?_cons_zero, List.getElem?_cons_succ]
            simp (config := {contextual := true, maxSteps := 1000000, implicitDefEqProofs := false}) (disch := omega) only [↓SA, SB, ST, stops, dstOK, resA, resAll, resOne, resTup, initSt, mkL, gdB, Nat.reduceLT, Nat.reduceEqDiff, Nat.reduceAdd, Nat.reduceMul, Nat.reduceLeDiff, Nat.reduceSub, Int.reduceLT, Int.reduceLE, Int.reduceAdd, Int.reduceSub, Int.reduceMul, Int.reduceToNat, Int.reduceNeg, Int.reduceEq, Int.reduceNe, if_true, if_false, ite_true, ite_false, ↓reduceIte, reduceCtorEq, forall_const, implies_true, eq_self, ne_eq, ren, renL, renM, renRes, putAll, hl1, hb1, ht1, bA_allD]
            refine HO_call ty_ok [2, 3, 4] (rlen_ac 7 l [p]) rfl rfl rfl (by kernel_rfl) (by decide) ⟨(by simp), (by repeat' (first | exact trivial | exact WeakA.refl _ | exact WeakA.toD rfl | exact WeakA.nilD _ | refine ⟨?_, ?_⟩)), rfl, rg_hand _ _ _ _ _ _ _ rfl rfl rfl, rg_wf _ _ _⟩ (by first | exact .inl rfl | exact .inr rfl) ?_
            rintro v r' ⟨rfl, rfl⟩ _
            simp (config := {contextual := true, maxSteps := 1000000, implicitDefEqProofs := false}) (disch := omega) only [↓SA, SB, ST, stops, dstOK, resA, resAll, resOne, resTup, initSt, mkL, gdB, Nat.reduceLT, Nat.reduceEqDiff, Nat.reduceAdd, Nat.reduceMul, Nat.reduceLeDiff, Nat.reduceSub, Int.reduceLT, Int.reduceLE, Int.reduceAdd, Int.reduceSub, Int.reduceMul, Int.reduceToNat, Int.reduceNeg, Int.reduceEq, Int.reduceNe, if_true, if_false, ite_true, ite_false, ↓reduceIte, reduceCtorEq, forall_const, implies_true, eq_self, ne_eq, ren, renL, renM, renRes, putAll, rg, rgO, hb1]
            refine ⟨⟨by decide, by decide⟩, HO_call ty_ok [2, 3, 4, 5] kv rfl rfl rfl (by kernel_rfl) (by decide) ⟨(by simp), (by repeat' (first | exact trivial | exact WeakA.refl _ | exact WeakA.toD rfl | exact WeakA.nilD _ | refine ⟨?_, ?_⟩)), rfl, rgT_hand _ _ _ _ _ _ _ _ _ rfl rfl rfl rfl, rgT_wf _ _ _ _⟩ (by first | exact .inl rfl | exact .inr rfl) ?_⟩
            rintro v r' ⟨rfl, rfl⟩ _
            simp (config := {contextual := true, maxSteps := 1000000, implicitDefEqProofs := false}) (disch := omega) only [↓SA, SB, ST, stops, dstOK, resA, resAll, resOne, resTup, initSt, mkL, gdB, Nat.reduceLT, Nat.reduceEqDiff, Nat.reduceAdd, Nat.reduceMul, Nat.reduceLeDiff, Nat.reduceSub, Int.reduceLT, Int.reduceLE, Int.reduceAdd, Int.reduceSub, Int.reduceMul, Int.reduceToNat, Int.reduceNeg, Int.reduceEq, Int.reduceNe, if_true, if_false, ite_true, ite_false, ↓reduceIte, reduceCtorEq, forall_const, implies_true, eq_self, ne_eq, ren, renL, renM, renRes, putAll, rgT, rgO, hw, ren_bA]
            refine HO_call ty_ok [2, 3, 4] (made_ac 7 l [p] aw_ ad ab) rfl rfl rfl (by kernel_rfl) (by decide) ⟨(by simp), (by repeat' (first | exact trivial | exact WeakA.refl _ | exact WeakA.toD rfl | exact WeakA.nilD _ | refine ⟨?_, ?_⟩)), rfl, rg_hand _ _ _ _ _ _ _ rfl rfl rfl, rg_wf _ _ _⟩ (by first | exact .inl rfl | exact .inr rfl) ?_
            rintro v r' ⟨rfl, rfl⟩ _
            rw [m1]
            simp (config := {contextual := true, maxSteps := 1000000, implicitDefEqProofs := false}) (disch := omega) only [↓SA, SB, ST, stops, dstOK, resA, resAll, resOne, resTup, initSt, mkL, gdB, Nat.reduceLT, Nat.reduceEqDiff, Nat.reduceAdd, Nat.reduceMul, Nat.reduceLeDiff, Nat.reduceSub, Int.reduceLT, Int.reduceLE, Int.reduceAdd, Int.reduceSub, Int.reduceMul, Int.reduceToNat, Int.reduceNeg, Int.reduceEq, Int.reduceNe, if_true, if_false, ite_true, ite_false, ↓reduceIte, reduceCtorEq, forall_const, implies_true, eq_self, ne_eq, ren, renL, renM, renRes, putAll, rg, rgO]
            refine HO_call ty_ok [2, 3, 4] (made_ac 7 l [p] aw_ bd bb) rfl rfl rfl (by kernel_rfl) (by decide) ⟨(by simp), (by repeat' (first | exact trivial | exact WeakA.refl _ | exact WeakA.toD rfl | exact WeakA.nilD _ | refine ⟨?_, ?_⟩)), rfl, rg_hand _ _ _ _ _ _ _ rfl rfl rfl, rg_wf _ _ _⟩ (by first | exact .inl rfl | exact .inr rfl) ?_
            rintro v r' ⟨rfl, rfl⟩ _
            rw [← hq2]
            simp (config := {contextual := true, maxSteps := 1000000, implicitDefEqProofs := false}) (disch := omega) only [↓SA, SB, ST, stops, dstOK, resA, resAll, resOne, resTup, initSt, mkL, gdB, Nat.reduceLT, Nat.reduceEqDiff, Nat.reduceAdd, Nat.reduceMul, Nat.reduceLeDiff, Nat.reduceSub, Int.reduceLT, Int.reduceLE, Int.reduceAdd, Int.reduceSub, Int.reduceMul, Int.reduceToNat, Int.reduceNeg, Int.reduceEq, Int.reduceNe, if_true, if_false, ite_true, ite_false, ↓reduceIte, reduceCtorEq, forall_const, implies_true, eq_self, ne_eq, ren, renL, renM, renRes, putAll, rg, rgO]
            refine HO_pure ty_ok rlive_ac rfl rfl rfl (by kernel_rfl) (fun _ => rfl) (fun _ => rfl) rfl (by repeat' (first | exact trivial | exact WeakA.refl _ | exact WeakA.toD rfl | exact WeakA.nilD _ | refine ⟨?_, ?_⟩)) ?_
            simp (config := {contextual := true, maxSteps := 1000000, implicitDefEqProofs := false}) (disch := omega) only [↓SA, SB, ST, stops, dstOK, resA, resAll, resOne, resTup, initSt, mkL, gdB, Nat.reduceLT, Nat.reduceEqDiff, Nat.reduceAdd, Nat.reduceMul, Nat.reduceLeDiff, Nat.reduceSub, Int.reduceLT, Int.reduceLE, Int.reduceAdd, Int.reduceSub, Int.reduceMul, Int.reduceToNat, Int.reduceNeg, Int.reduceEq, Int.reduceNe, if_true, if_false, ite_true, ite_false, ↓reduceIte, reduceCtorEq, forall_const, implies_true, eq_self, ne_eq, ren, renL, renM, renRes, putAll]
        · rw [decide_eq_false (fun h => g1 (pr_inj h).1.symm)] at hq3
          subst hq3
          simp (config := {contextual := true, maxSteps := 1000000, implicitDefEqProofs := false}) (disch := omega) only [↓SA, SB, ST, stops, dstOK, resA, resAll, resOne, resTup, initSt, mkL, gdB, Nat.reduceLT, Nat.reduceEqDiff, Nat.reduceAdd, Nat.reduceMul, Nat.reduceLeDiff, Nat.reduceSub, Int.reduceLT, Int.reduceLE, Int.reduceAdd, Int.reduceSub, Int.reduceMul, Int.reduceToNat, Int.reduceNeg, Int.reduceEq, Int.reduceNe, if_true, if_false, ite_true, ite_false, ↓reduceIte, reduceCtorEq, forall_const, implies_true, eq_self, ne_eq, ren, renL, renM, renRes, putAll, rg, rgO, hl1, hb1, ht1, hm1, hsp, g1]
          clear hsp
          refine HC_order [] ty_ok mix (0 :: 1 :: 2 :: 3 :: 4 :: 5 :: 6 :: 7 :: 8 :: 9 :: 10 :: 11 :: 12 :: 13 :: 14 :: 15 :: 16 :: 17 :: 18 :: 19 :: 20 :: 21 :: 22 :: 23 :: 24 :: 25 :: 26 :: 27 :: 28 :: 29 :: 30 :: 31 :: 32 :: 33 :: 34 :: 35 :: 36 :: 37 :: 38 :: 39 :: 40 :: 42 :: 41 :: 43 :: 44 :: 45 :: 46 :: 47 :: 48 :: []) (by kernel_rfl) rfl _ rfl ?_
          simp only [opl_nil', opl_cons', oplC_some, List.getElem?_toArray, List.getElem?_cons_zero, List.getElem?_cons_succ]
          simp (config := {contextual := true, maxSteps := 1000000, implicitDefEqProofs := false}) (disch := omega) only [↓SA, SB, ST, stops, dstOK, resA, resAll, resOne, resTup, initSt, mkL, gdB, Nat.reduceLT, Nat.reduceEqDiff, Nat.reduceAdd, Nat.reduceMul, Nat.reduceLeDiff, Nat.reduceSub, Int.reduceLT, Int.reduceLE, Int.reduceAdd, Int.reduceSub, Int.reduceMul, Int.reduceToNat, Int.reduceNeg, Int.reduceEq, Int.reduceNe, if_true, if_false, ite_true, ite_false, ↓reduceIte, reduceCtorEq, forall_const, implies_true, eq_self, ne_eq, ren, renL, renM, renRes, putAll, hl1, hb1, ht1, bA_allD]
          refine HO_call ty_ok [2, 3, 4] (rlen_ac 7 l [p]) rfl rfl rfl (by kernel_rfl) (by decide) ⟨(by simp), (by repeat' (first | exact trivial | exact WeakA.refl _ | exact WeakA.toD rfl | exact WeakA.nilD _ | refine ⟨?_, ?_⟩)), rfl, rg_hand _ _ _ _ _ _ _ rfl rfl rfl, rg_wf _ _ _⟩ (by first | exact .inl rfl | exact .inr rfl) ?_
          rintro v r' ⟨rfl, rfl⟩ _
          simp (config := {contextual := true, maxSteps := 1000000, implicitDefEqProofs := false}) (disch := omega) only [↓SA, SB, ST, stops, dstOK, resA, resAll, resOne, resTup, initSt, mkL, gdB, Nat.reduceLT, Nat.reduceEqDiff, Nat.reduceAdd, Nat.reduceMul, Nat.reduceLeDiff, Nat.reduceSub, Int.reduceLT, Int.reduceLE, Int.reduceAdd, Int.reduceSub, Int.reduceMul, Int.reduceToNat, Int.reduceNeg, Int.reduceEq, Int.reduceNe, if_true, if_false, ite_true, ite_false, ↓reduceIte, reduceCtorEq, forall_const, implies_true, eq_self, ne_eq, ren, renL, renM, renRes, putAll, rg, rgO, hb1]
          refine ⟨⟨by decide, by decide⟩, HO_call ty_ok [2, 3, 4, 5] kv rfl rfl rfl (by kernel_rfl) (by decide) ⟨(by simp), (by repeat' (first | exact trivial | exact WeakA.refl _ | exact WeakA.toD rfl | exact WeakA.nilD _ | refine ⟨?_, ?_⟩)), rfl, rgT_hand _ _ _ _ _ _ _ _ _ rfl rfl rfl rfl, rgT_wf _ _ _ _⟩ (by first | exact .inl rfl | exact .inr rfl) ?_⟩
          rintro v r' ⟨rfl, rfl⟩ _
          simp (config := {contextual := true, maxSteps := 1000000, implicitDefEqProofs := false}) (disch := omega) only [↓SA, SB, ST, stops, dstOK, resA, resAll, resOne, resTup, initSt, mkL, gdB, Nat.reduceLT, Nat.reduceEqDiff, Nat.reduceAdd, Nat.reduceMul, Nat.reduceLeDiff, Nat.reduceSub, Int.reduceLT, Int.reduceLE, Int.reduceAdd, Int.reduceSub, Int.reduceMul, Int.reduceToNat, Int.reduceNeg, Int.reduceEq, Int.reduceNe, if_true, if_false, ite_true, ite_false, ↓reduceIte, reduceCtorEq, forall_const, implies_true, eq_self, ne_eq, ren, renL, renM, renRes, putAll, rgT, rgO, hw, ren_bA]
          refine HO_call ty_ok [2, 3, 4] (made_ac 7 l [p] aw_ ad ab) rfl rfl rfl (by kernel_rfl) (by decide) ⟨(by simp), (by repeat' (first | exact trivial | exact WeakA.refl _ | exact WeakA.toD rfl | exact WeakA.nilD _ | refine ⟨?_, ?_⟩)), rfl, rg_hand _ _ _ _ _ _ _ rfl rfl rfl, rg_wf _ _ _⟩ (by first | exact .inl rfl | exact .inr rfl) ?_
          rintro v r' ⟨rfl, rfl⟩ _
          rw [m1]
          simp (config := {contextual := true, maxSteps := 1000000, implicitDefEqProofs := false}) (disch := omega) only [↓SA, SB, ST, stops, dstOK, resA, resAll, resOne, resTup, initSt, mkL, gdB, Nat.reduceLT, Nat.reduceEqDiff, Nat.reduceAdd, Nat.reduceMul, Nat.reduceLeDiff, Nat.reduceSub, Int.reduceLT, Int.reduceLE, Int.reduceAdd, Int.reduceSub, Int.reduceMul, Int.reduceToNat, Int.reduceNeg, Int.reduceEq, Int.reduceNe, if_true, if_false, ite_true, ite_false, ↓reduceIte, reduceCtorEq, forall_const, implies_true, eq_self, ne_eq, ren, renL, renM, renRes, putAll, rg, rgO]
          refine HO_call ty_ok [2, 3, 4] (made_ac 7 l [p] bw bd bb) rfl rfl rfl (by kernel_rfl) (by decide) ⟨(by simp), (by repeat' (first | exact trivial | exact WeakA.refl _ | exact WeakA.toD rfl | exact WeakA.nilD _ | refine ⟨?_, ?_⟩)), rfl, rg_hand _ _ _ _ _ _ _ rfl rfl rfl, rg_wf _ _ _⟩ (by first | exact .inl rfl | exact .inr rfl) ?_
          rintro v r' ⟨rfl, rfl⟩ _
          rw [← hq2]
          simp (config := {contextual := true, maxSteps := 1000000, implicitDefEqProofs := false}) (disch := omega) only [↓SA, SB, ST, stops, dstOK, resA, resAll, resOne, resTup, initSt, mkL, gdB, Nat.reduceLT, Nat.reduceEqDiff, Nat.reduceAdd, Nat.reduceMul, Nat.reduceLeDiff, Nat.reduceSub, Int.reduceLT, Int.reduceLE, Int.reduceAdd, Int.reduceSub, Int.reduceMul, Int.reduceToNat, Int.reduceNeg, Int.reduceEq, Int.reduceNe, if_true, if_false, ite_true, ite_false, ↓reduceIte, reduceCtorEq, forall_const, implies_true, eq_self, ne_eq, ren, renL, renM, renRes, putAll, rg, rgO]
          refine HO_pure ty_ok rlive_ac rfl rfl rfl (by kernel_rfl) (fun _ => rfl) (fun _ => rfl) rfl (by repeat' (first | exact trivial | exact WeakA.refl _ | exact WeakA.toD rfl | exact WeakA.nilD _ | refine ⟨?_, ?_⟩)) ?_
          simp (config := {contextual := true, maxSteps := 1000000, implicitDefEqProofs := false}) (disch := omega) only [↓SA, SB, ST, stops, dstOK, resA, resAll, resOne, resTup, initSt, mkL, gdB, Nat.reduceLT, Nat.reduceEqDiff, Nat.reduceAdd, Nat.reduceMul, Nat.reduceLeDiff, Nat.reduceSub, Int.reduceLT, Int.reduceLE, Int.reduceAdd, Int.reduceSub, Int.reduceMul, Int.reduceToNat, Int.reduceNeg, Int.reduceEq, Int.reduceNe, if_true, if_false, ite_true, ite_false, ↓reduceIte, reduceCtorEq, forall_const, implies_true, eq_self, ne_eq, ren, renL, renM, renRes, putAll]
    · refine HO_call ty_ok [] (new_bad 7 l (by decide) (by decide) hn) rfl rfl rfl (by kernel_rfl) (by decide) ⟨(by simp), (by repeat' (first | exact trivial | exact WeakA.refl _ | exact WeakA.toD rfl | exact WeakA.nilD _ | refine ⟨?_, ?_⟩)), rfl, trivial, rfl⟩ (by first | exact .inl rfl | exact .inr rfl) ?_
      rintro v r' ⟨rfl, rfl⟩ _
      simp (config := {contextual := true, maxSteps := 1000000, implicitDefEqProofs := false}) (disch := omega) only [↓SA, SB, ST, stops, dstOK, resA, resAll, resOne, resTup, initSt, mkL, gdB, Nat.reduceLT, Nat.reduceEqDiff, Nat.reduceAdd, Nat.reduceMul, Nat.reduceLeDiff, Nat.reduceSub, Int.reduceLT, Int.reduceLE, Int.reduceAdd, Int.reduceSub, Int.reduceMul, Int.reduceToNat, Int.reduceNeg, Int.reduceEq, Int.reduceNe, if_true, if_false, ite_true, ite_false, ↓reduceIte, reduceCtorEq, forall_const, implies_true, eq_self, ne_eq, ren, renL, renM, renRes, putAll, hn]
      refine HO_pure ty_ok rlive_ac rfl rfl rfl (by kernel_rfl) (fun _ => rfl) (fun _ => rfl) rfl (by repeat' (first | exact trivial | exact WeakA.refl _ | exact WeakA.toD rfl | exact WeakA.nilD _ | refine ⟨?_, ?_⟩)) ?_
      simp (config := {contextual := true, maxSteps := 1000000, implicitDefEqProofs := false}) (disch := omega) only [↓SA, SB, ST, stops, dstOK, resA, resAll, resOne, resTup, initSt, mkL, gdB, Nat.reduceLT, Nat.reduceEqDiff, Nat.reduceAdd, Nat.reduceMul, Nat.reduceLeDiff, Nat.reduceSub, Int.reduceLT, Int.reduceLE, Int.reduceAdd, Int.reduceSub, Int.reduceMul, Int.reduceToNat, Int.reduceNeg, Int.reduceEq, Int.reduceNe, if_true, if_false, ite_true, ite_false, ↓reduceIte, reduceCtorEq, forall_const, implies_true, eq_self, ne_eq, ren, renL, renM, renRes, putAll]
end Go.Proofs.YtjpjnhljmloofaaDoor
