/- Parts of the proof: Check, Cmp, Int, RInt, Text. -/
import Derived.Test.YtdbicadncccpoaaDoorCJ5
import Derived.Test.YtdbicadncccpoaaDoorCJ2
set_option linter.unusedVariables false
set_option linter.unusedSimpArgs false
set_option maxRecDepth 100000
namespace Go.Proofs.YtdbicadncccpoaaDoor
open Go Go.ChangeShapes Go.WideShapes
set_option maxHeartbeats 400000 in
theorem ftext_ac (s : ByteArray) : AC Tryd.prog noG 80 [.d (.c (.string s))] [] (fun v r' => v = .d (.c (.bool (txtOK s))) ∧ r' = []) := by
  refine AC_of_R (N := 11) (res := [.tmp 2]) ty_ok Tryd.call80 Tryd.func80 rfl rfl rfl (Nat.le_of_ble_eq_true rfl) ?_
  by_cases h1 : 1 ≤ s.size
  · have g1 : 1 ≤ (s.size : Int) := by omega
    by_cases h2 : s.size ≤ 32
    · have g2 : (s.size : Int) ≤ 32 := by omega
      have e : txtOK s = true := by simp [txtOK, h1, h2]
      exact rz1 (jn @g1 (jn @g2 @e))
    · have g2 : ¬ (s.size : Int) ≤ 32 := by omega
      have e : txtOK s = false := by simp [txtOK, h1, h2]
      exact rz1 (jn @g1 (jn @g2 @e))
  · have g1 : ¬ 1 ≤ (s.size : Int) := by omega
    have e : txtOK s = false := by simp [txtOK, h1]
    exact rz1 (jn @g1 @e)
set_option maxHeartbeats 400000 in
theorem rftext_ac (s : ByteArray) : AC Tryd.prog noG 68 [.d (.c (.string s))] [] (fun v r' => v = .d (.c (.bool (txtOK s))) ∧ r' = []) := by
  refine AC_of_R (N := 11) (res := [.tmp 2]) ty_ok Tryd.call68 Tryd.func68 rfl rfl rfl (Nat.le_of_ble_eq_true rfl) ?_
  by_cases h1 : 1 ≤ s.size
  · have g1 : 1 ≤ (s.size : Int) := by omega
    by_cases h2 : s.size ≤ 32
    · have g2 : (s.size : Int) ≤ 32 := by omega
      have e : txtOK s = true := by simp [txtOK, h1, h2]
      exact rz1 (jn @g1 (jn @g2 @e))
    · have g2 : ¬ (s.size : Int) ≤ 32 := by omega
      have e : txtOK s = false := by simp [txtOK, h1, h2]
      exact rz1 (jn @g1 (jn @g2 @e))
  · have g1 : ¬ 1 ≤ (s.size : Int) := by omega
    have e : txtOK s = false := by simp [txtOK, h1]
    exact rz1 (jn @g1 @e)
set_option maxHeartbeats 400000 in
theorem fgood_ac (c : Cst) : AC Tryd.prog noG 81 [.d (.agg (cstE c))] [] (fun v r' => v = .d (.c (.bool (goodC c))) ∧ r' = []) := by
  refine AC.pure ?_ (by rintro v rfl; rfl)
  refine AC_of_R (N := 16) (res := [.tmp 2]) ty_ok Tryd.call81 Tryd.func81 rfl rfl rfl (Nat.le_of_ble_eq_true rfl) ?_
  obtain ⟨q, n, s⟩ := c
  cases q with
  | true =>
    refine rn1 @cstE.eq_1 ?_
    rfl
  | false =>
    by_cases h : n = 0
    · refine rn1 (jn @cstE.eq_1 @h) ?_
      refine HO_pureA ty_ok (ftext_ac s) ?_
      refine rn0 ?_
      rfl
    · refine rn1 (jn @cstE.eq_1 @h) ?_
      simp [goodC, h]
set_option maxHeartbeats 400000 in
theorem rfgood_ac (c : Cst) : AC Tryd.prog noG 90 [.d (.agg (cstE c))] [] (fun v r' => v = .d (.c (.bool (goodC c))) ∧ r' = []) := by
  refine AC.pure ?_ (by rintro v rfl; rfl)
  refine AC_of_R (N := 16) (res := [.tmp 2]) ty_ok Tryd.call90 Tryd.func90 rfl rfl rfl (Nat.le_of_ble_eq_true rfl) ?_
  obtain ⟨q, n, s⟩ := c
  cases q with
  | true =>
    refine rn1 @cstE.eq_1 ?_
    rfl
  | false =>
    by_cases h : n = 0
    · refine rn1 (jn @cstE.eq_1 @h) ?_
      refine HO_pureA ty_ok (rftext_ac s) ?_
      refine rn0 ?_
      rfl
    · refine rn1 (jn @cstE.eq_1 @h) ?_
      simp [goodC, h]
theorem all_drop {α : Type} (p : α → Bool) (l : List α) (i : Nat) (h : i < l.length) : (l.drop i).all p = (p l[i] && (l.drop (i + 1)).all p) := by rw [List.drop_eq_getElem_cons h, List.all_cons]
def ckSt (f : Fct) (i : Nat) : List (Nat × AV) := [(28, .d (.sl 3 f.l.length (flatE cstE f.l))), (29, .d (.c (.int .i64 f.l.length))), (30, .d (.c (.int .i64 i)))]
theorem chkE_no {f : Fct} (h : ¬ chkF f = true) : chkE f = 40 := if_neg h
theorem chkE_ok {f : Fct} (h : chkF f = true) : chkE f = 0 := if_pos h
set_option maxHeartbeats 400000 in
theorem fchk_ac (f : Fct) (hf : f.l.length ≤ 140737488352000) : AC Tryd.prog noG 60 [.d (.agg (fctE f))] [] (fun v r' => v = .d (.c (.int .i64 (chkE f))) ∧ r' = []) := by
  refine AC.pure ?_ (by rintro v rfl; rfl)
  refine AC_of_R (N := 38) (res := [.tmp 2]) ty_ok Tryd.call60 Tryd.func60 rfl rfl rfl (Nat.le_of_ble_eq_true rfl) ?_
  have ha := ftext_ac f.a
  have hb := ftext_ac f.b
  have hp := ftext_ac f.p
  cases h1 : txtOK f.a with
  | false =>
    have e := chkE_no (f := f) (by simp [chkF, h1])
    refine rn1 @fctE.eq_1 ?_
    refine HO_pureA ty_ok ha ?_
    exact rz1 (jn @h1 @e)
  | true =>
  cases h2 : txtOK f.b with
  | false =>
    have e := chkE_no (f := f) (by simp [chkF, h2])
    refine rn1 @fctE.eq_1 ?_
    refine HO_pureA ty_ok ha ?_
    refine rn1 @h1 ?_
    refine HO_pureA ty_ok hb ?_
    exact rz1 (jn @h2 @e)
  | true =>
  cases h3 : txtOK f.p with
  | false =>
    have e := chkE_no (f := f) (by simp [chkF, h3])
    refine rn1 @fctE.eq_1 ?_
    refine HO_pureA ty_ok ha ?_
    refine rn1 @h1 ?_
    refine HO_pureA ty_ok hb ?_
    refine rn1 @h2 ?_
    refine HO_pureA ty_ok hp ?_
    exact rz1 (jn @h3 @e)
  | true =>
  by_cases h4 : f.l.length ≤ 48
  · have g4 : ¬ (f.l.length : Int) > 48 := by omega
    have eF : chkE f = if f.l.all goodC then 0 else 40 := by simp [chkE, chkF, h1, h2, h3, h4]
    refine rn1 @fctE.eq_1 ?_
    refine HO_pureA ty_ok ha ?_
    refine rn1 @h1 ?_
    refine HO_pureA ty_ok hb ?_
    refine rn1 @h2 ?_
    refine HO_pureA ty_ok hp ?_
    refine rn1 (jn @h3 @g4) ?_
    refine HC_loopR (ckSt f) (fun _ => [none]) (fun i => i ≤ f.l.length ∧ (f.l.drop i).all goodC = f.l.all goodC) (fun i => f.l.length - i) 0 [] [] ⟨by omega, by simp⟩ ?_ ?_
    · exact ft1 @ckSt.eq_1
    intro i ⟨hi1, hi2⟩
    refine HC_of_R ty_ok ?_
    by_cases hlt : i < f.l.length
    · have hi : (i : Int) < f.l.length := by omega
      rw [all_drop goodC f.l i hlt] at hi2
      have hd := flatE_drop cstE_len f.l i hlt
      have hle := flatE_len cstE_len f.l
      have hg := fgood_ac f.l[i]
      generalize f.l[i] = c at *
      simp only [cstE, List.cons_append, List.nil_append] at hd
      refine rn1 (jn @ckSt.eq_1 (jn @hi (jn @hd (jn @hle @cstE.eq_1)))) ?_
      (repeat (refine And.intro (by omega) ?_))
      refine HO_pureA ty_ok hg ?_
      cases hc : goodC c with
      | true =>
        rw [hc, Bool.true_and] at hi2
        refine rn0 ?_
        (repeat (refine And.intro (by omega) ?_))
        refine ⟨i + 1, ⟨by omega, hi2⟩, by omega, [], [], ?_⟩
        exact ft1 @ckSt.eq_1
      | false =>
        rw [hc, Bool.false_and] at hi2
        refine rn1 @eF ?_
        rw [← hi2]; rfl
    · have hi : ¬ (i : Int) < f.l.length := by omega
      rw [List.drop_of_length_le (by omega)] at hi2
      refine rn1 (jn @ckSt.eq_1 (jn @hi @eF)) ?_
      rw [← hi2]; rfl
  · have g4 : (f.l.length : Int) > 48 := by omega
    have e := chkE_no (f := f) (by simp [chkF, h4])
    refine rn1 @fctE.eq_1 ?_
    refine HO_pureA ty_ok ha ?_
    refine rn1 @h1 ?_
    refine HO_pureA ty_ok hb ?_
    refine rn1 @h2 ?_
    refine HO_pureA ty_ok hp ?_
    exact rz1 (jn @h3 (jn @g4 @e))
def rckSt (f : Fct) (i : Nat) : List (Nat × AV) := [(1, .ptr 0 0), (3, .d (.c (.int .i64 i)))]
def rckRe (f : Fct) : Rs := [some (.obj ((fctE f).map .d))]
set_option maxHeartbeats 400000 in
theorem rfchk_ac (f : Fct) (hf : f.l.length ≤ 140737488352000) : AC Tryd.prog noG 70 [.d (.agg (fctE f))] [] (fun v r' => v = .d (.c (.int .i64 (chkE f))) ∧ r' = []) := by
  refine AC.pure ?_ (by rintro v rfl; rfl)
  refine AC_of_R (N := 40) (res := [.tmp 2]) ty_ok Tryd.call70 Tryd.func70 rfl rfl rfl (Nat.le_of_ble_eq_true rfl) ?_
  have ha := rftext_ac f.a
  have hb := rftext_ac f.b
  have hp := rftext_ac f.p
  cases h1 : txtOK f.a with
  | false =>
    have e := chkE_no (f := f) (by simp [chkF, h1])
    refine rn1 @fctE.eq_1 ?_
    refine HO_pureA ty_ok ha ?_
    exact rz1 (jn @h1 @e)
  | true =>
  cases h2 : txtOK f.b with
  | false =>
    have e := chkE_no (f := f) (by simp [chkF, h2])
    refine rn1 @fctE.eq_1 ?_
    refine HO_pureA ty_ok ha ?_
    refine rn1 @h1 ?_
    refine HO_pureA ty_ok hb ?_
    exact rz1 (jn @h2 @e)
  | true =>
  cases h3 : txtOK f.p with
  | false =>
    have e := chkE_no (f := f) (by simp [chkF, h3])
    refine rn1 @fctE.eq_1 ?_
    refine HO_pureA ty_ok ha ?_
    refine rn1 @h1 ?_
    refine HO_pureA ty_ok hb ?_
    refine rn1 @h2 ?_
    refine HO_pureA ty_ok hp ?_
    exact rz1 (jn @h3 @e)
  | true =>
  by_cases h4 : f.l.length ≤ 48
  · have g4 : ¬ (f.l.length : Int) > 48 := by omega
    have eF : chkE f = if f.l.all goodC then 0 else 40 := by simp [chkE, chkF, h1, h2, h3, h4]
    refine rn1 @fctE.eq_1 ?_
    refine HO_pureA ty_ok ha ?_
    refine rn1 @h1 ?_
    refine HO_pureA ty_ok hb ?_
    refine rn1 @h2 ?_
    refine HO_pureA ty_ok hp ?_
    refine rn1 (jn @h3 @g4) ?_
    refine HC_loopR (rckSt f) (fun _ => rckRe f) (fun i => i ≤ f.l.length ∧ (f.l.drop i).all goodC = f.l.all goodC) (fun i => f.l.length - i) 0 [0] [] ⟨by omega, by simp⟩ ?_ ?_
    · exact ft1 (jn @rckSt.eq_1 (jn @rckRe.eq_1 @fctE.eq_1))
    intro i ⟨hi1, hi2⟩
    refine HC_of_R ty_ok ?_
    by_cases hlt : i < f.l.length
    · have hi : (i : Int) < f.l.length := by omega
      rw [all_drop goodC f.l i hlt] at hi2
      have hd := flatE_drop cstE_len f.l i hlt
      have hle := flatE_len cstE_len f.l
      have hg := rfgood_ac f.l[i]
      generalize f.l[i] = c at *
      simp only [cstE, List.cons_append, List.nil_append] at hd
      refine rn1 (jn @rckSt.eq_1 (jn @rckRe.eq_1 (jn @fctE.eq_1 (jn @hi (jn @hd (jn @hle @cstE.eq_1)))))) ?_
      (repeat (refine And.intro (by omega) ?_))
      refine HO_pureA ty_ok hg ?_
      cases hc : goodC c with
      | true =>
        rw [hc, Bool.true_and] at hi2
        refine rn0 ?_
        (repeat (refine And.intro (by omega) ?_))
        refine ⟨i + 1, ⟨by omega, hi2⟩, by omega, [0], [], ?_⟩
        exact ft1 (jn @rckSt.eq_1 (jn @rckRe.eq_1 @fctE.eq_1))
      | false =>
        rw [hc, Bool.false_and] at hi2
        refine rn1 @eF ?_
        rw [← hi2]; rfl
    · have hi : ¬ (i : Int) < f.l.length := by omega
      rw [List.drop_of_length_le (by omega)] at hi2
      refine rn1 (jn @rckSt.eq_1 (jn @rckRe.eq_1 (jn @fctE.eq_1 (jn @hi @eF)))) ?_
      rw [← hi2]; rfl
  · have g4 : (f.l.length : Int) > 48 := by omega
    have e := chkE_no (f := f) (by simp [chkF, h4])
    refine rn1 @fctE.eq_1 ?_
    refine HO_pureA ty_ok ha ?_
    refine rn1 @h1 ?_
    refine HO_pureA ty_ok hb ?_
    refine rn1 @h2 ?_
    refine HO_pureA ty_ok hp ?_
    exact rz1 (jn @h3 (jn @g4 @e))
end Go.Proofs.YtdbicadncccpoaaDoor

set_option linter.unusedVariables false
set_option linter.unusedSimpArgs false
set_option maxRecDepth 100000
namespace Go.Proofs.YtdbicadncccpoaaDoor
open Go Go.ChangeShapes Go.WideShapes
def txC (a b : ByteArray) : Int := if Op.bytesLess a.toList b.toList = true then -1 else if a = b then 0 else 1
def cmpI (a b : Int) : Int := if a < b then -1 else if b < a then 1 else 0
def cstC (a b : Cst) : Int := if a.num = b.num then (if cmpI a.n b.n = 0 then txC a.s b.s else cmpI a.n b.n) else if a.num then -1 else 1
def argC : List Cst → List Cst → Int
  | [], [] => 0
  | [], _ :: _ => -1
  | _ :: _, [] => 1
  | a :: l, b :: m => if cstC a b = 0 then argC l m else cstC a b
def ordC (a b : Fct) : Int := if a.a = b.a then (if a.b = b.b then (if a.p = b.p then argC a.l b.l else txC a.p b.p) else txC a.b b.b) else txC a.a b.a
theorem less_irr : ∀ l : List UInt8, Op.bytesLess l l = false
  | [] => rfl
  | a :: l => by simp [Op.bytesLess, less_irr l]
theorem txC_zero {a b : ByteArray} : txC a b = 0 ↔ a = b := by
  unfold txC
  constructor
  · intro h
    split at h
    · cases h
    · split at h
      · assumption
      · cases h
  · rintro rfl
    rw [less_irr]; simp
theorem cmpI_zero {a b : Int} : cmpI a b = 0 ↔ a = b := by unfold cmpI; split <;> (try split) <;> omega
theorem cstC_zero {a b : Cst} : cstC a b = 0 ↔ a = b := by
  obtain ⟨q, n, s⟩ := a
  obtain ⟨q', n', s'⟩ := b
  simp only [cstC, Cst.mk.injEq]
  by_cases hq : q = q'
  · rw [if_pos hq]
    by_cases hn : n = n'
    · rw [if_pos (cmpI_zero.2 hn), txC_zero]; simp [hq, hn]
    · have := fun h => hn (cmpI_zero.1 h)
      rw [if_neg this]; simp only [hn, false_and, and_false, iff_false]; exact this
  · rw [if_neg hq]
    constructor
    · intro h; split at h <;> cases h
    · intro h; exact absurd h.1 hq
theorem argC_zero : ∀ {l m : List Cst}, argC l m = 0 ↔ l = m
  | [], [] => by simp [argC]
  | [], _ :: _ => by simp [argC]
  | _ :: _, [] => by simp [argC]
  | a :: l, b :: m => by
    rw [argC]
    by_cases h : cstC a b = 0
    · rw [if_pos h, argC_zero, cstC_zero.1 h]; simp
    · rw [if_neg h]
      simp only [List.cons.injEq]
      exact ⟨fun k => absurd k h, fun k => absurd (cstC_zero.2 k.1) h⟩
theorem ordC_zero {a b : Fct} : ordC a b = 0 ↔ a = b := by
  obtain ⟨x, y, z, l⟩ := a
  obtain ⟨x', y', z', l'⟩ := b
  simp only [ordC, Fct.mk.injEq]
  by_cases h1 : x = x'
  · by_cases h2 : y = y'
    · by_cases h3 : z = z'
      · rw [if_pos h1, if_pos h2, if_pos h3, argC_zero]; simp [h1, h2, h3]
      · rw [if_pos h1, if_pos h2, if_neg h3, txC_zero]; simp [h3]
    · rw [if_pos h1, if_neg h2, txC_zero]; simp [h2]
  · rw [if_neg h1, txC_zero]; simp [h1]
set_option maxHeartbeats 400000 in
theorem rtexts_ac (a b : ByteArray) : AC Tryd.prog noG 77 [.d (.c (.string a)), .d (.c (.string b))] [] (fun v r' => v = .d (.c (.int .i64 (txC a b))) ∧ r' = []) := by
  refine AC_of_R (N := 11) (res := [.tmp 4]) ty_ok Tryd.call77 Tryd.func77 rfl rfl rfl (Nat.le_of_ble_eq_true rfl) ?_
  cases h : Op.bytesLess a.toList b.toList with
  | true =>
    refine rn1 @h ?_
    simp [txC, h]
  | false =>
    by_cases h2 : a = b
    · refine rn1 (jn @h (jn @h2 @less_irr)) ?_
      rw [txC_zero.2 rfl]
      exact ⟨fun h => by simp at h, fun _ => rfl⟩
    · refine rn1 (jn @h @h2) ?_
      simp [txC, h, h2]
set_option maxHeartbeats 400000 in
theorem rfcmp_ac (a b : Cst) : AC Tryd.prog noG 78 [.d (.agg (cstE a)), .d (.agg (cstE b))] [] (fun v r' => v = .d (.c (.int .i64 (cstC a b))) ∧ r' = []) := by
  refine AC.pure ?_ (by rintro v rfl; rfl)
  refine AC_of_R (N := 34) (res := [.tmp 4]) ty_ok Tryd.call78 Tryd.func78 rfl rfl rfl (Nat.le_of_ble_eq_true rfl) ?_
  obtain ⟨q, n, s⟩ := a
  obtain ⟨q', n', s'⟩ := b
  have ht := rtexts_ac s s'
  by_cases h1 : n < n'
  · have e : cmpI n n' = -1 := by simp [cmpI, h1]
    cases q <;> cases q' <;> simp (config := {contextual := true, maxSteps := 1000000, implicitDefEqProofs := false}) (disch := omega) only [↓SA, SB, ST, stops, dstOK, resA, resAll, resOne, resTup, initSt, mkL, gdB, Nat.reduceLT, Nat.reduceEqDiff, Nat.reduceAdd, Nat.reduceMul, Nat.reduceLeDiff, Nat.reduceSub, Int.reduceLT, Int.reduceLE, Int.reduceAdd, Int.reduceSub, Int.reduceMul, Int.reduceToNat, Int.reduceNeg, Int.reduceEq, Int.reduceNe, if_true, if_false, ite_true, ite_false, ↓reduceIte, reduceCtorEq, forall_const, implies_true, eq_self, ne_eq, ren, renL, renM, renRes, putAll, cstE, h1] <;> simp [cstC, e]
  · by_cases h2 : n' < n
    · have e : cmpI n n' = 1 := by simp [cmpI, h1, h2]
      cases q <;> cases q' <;> simp (config := {contextual := true, maxSteps := 1000000, implicitDefEqProofs := false}) (disch := omega) only [↓SA, SB, ST, stops, dstOK, resA, resAll, resOne, resTup, initSt, mkL, gdB, Nat.reduceLT, Nat.reduceEqDiff, Nat.reduceAdd, Nat.reduceMul, Nat.reduceLeDiff, Nat.reduceSub, Int.reduceLT, Int.reduceLE, Int.reduceAdd, Int.reduceSub, Int.reduceMul, Int.reduceToNat, Int.reduceNeg, Int.reduceEq, Int.reduceNe, if_true, if_false, ite_true, ite_false, ↓reduceIte, reduceCtorEq, forall_const, implies_true, eq_self, ne_eq, ren, renL, renM, renRes, putAll, cstE, h1, h2] <;> simp [cstC, e]
    · have e : cmpI n n' = 0 := by simp [cmpI, h1, h2]
      cases q <;> cases q' <;> simp (config := {contextual := true, maxSteps := 1000000, implicitDefEqProofs := false}) (disch := omega) only [↓SA, SB, ST, stops, dstOK, resA, resAll, resOne, resTup, initSt, mkL, gdB, Nat.reduceLT, Nat.reduceEqDiff, Nat.reduceAdd, Nat.reduceMul, Nat.reduceLeDiff, Nat.reduceSub, Int.reduceLT, Int.reduceLE, Int.reduceAdd, Int.reduceSub, Int.reduceMul, Int.reduceToNat, Int.reduceNeg, Int.reduceEq, Int.reduceNe, if_true, if_false, ite_true, ite_false, ↓reduceIte, reduceCtorEq, forall_const, implies_true, eq_self, ne_eq, ren, renL, renM, renRes, putAll, cstE, h1, h2]
      · refine HO_pureA ty_ok ht ?_
        refine rn0 ?_
        simp [cstC, e]
      · simp [cstC, e]
      · simp [cstC, e]
      · refine HO_pureA ty_ok ht ?_
        refine rn0 ?_
        simp [cstC, e]
def orfSt (f g : Fct) (i : Nat) : List (Nat × AV) := [(2, .ptr 0 0), (3, .ptr 1 0), (5, .d (.c (.int .i64 i)))]
def orfRe (f g : Fct) : Rs := [some (.obj ((fctE f).map .d)), some (.obj ((fctE g).map .d))]
theorem argC_drop (l m : List Cst) (i : Nat) (h1 : i < l.length) (h2 : i < m.length) : argC (l.drop i) (m.drop i) = if cstC l[i] m[i] = 0 then argC (l.drop (i + 1)) (m.drop (i + 1)) else cstC l[i] m[i] := by
  rw [List.drop_eq_getElem_cons h1, List.drop_eq_getElem_cons h2, argC]
theorem argC_end (l m : List Cst) (i : Nat) (h : ¬ (i < l.length ∧ i < m.length)) (hi : i ≤ l.length) (hj : i ≤ m.length) : argC (l.drop i) (m.drop i) = if l.length < m.length then -1 else if m.length < l.length then 1 else 0 := by
  by_cases h1 : i < l.length
  · rw [List.drop_of_length_le (l := m) (by omega), List.drop_eq_getElem_cons h1, argC, if_neg (by omega), if_pos (by omega)]
  · rw [List.drop_of_length_le (l := l) (by omega)]
    by_cases h2 : i < m.length
    · rw [List.drop_eq_getElem_cons h2, argC, if_pos (by omega)]
    · rw [List.drop_of_length_le (l := m) (by omega), argC, if_neg (by omega), if_neg (by omega)]
set_option maxHeartbeats 400000 in
theorem rord_ac (f g : Fct) (hf : f.l.length ≤ 140737488352000) (hg : g.l.length ≤ 140737488352000) : AC Tryd.prog noG 56 [.d (.agg (fctE f)), .d (.agg (fctE g))] [] (fun v r' => v = .d (.c (.int .i64 (ordC f g))) ∧ r' = []) := by
  refine AC.pure ?_ (by rintro v rfl; rfl)
  refine AC_of_R (N := 79) (res := [.tmp 4]) ty_ok Tryd.call56 Tryd.func56 rfl rfl rfl (Nat.le_of_ble_eq_true rfl) ?_
  by_cases h1 : f.a = g.a
  · by_cases h2 : f.b = g.b
    · by_cases h3 : f.p = g.p
      · have e : ordC f g = argC f.l g.l := by simp [ordC, h1, h2, h3]
        refine rn1 (jn @fctE.eq_1 (jn @h1 (jn @h2 (jn @h3 @e)))) ?_
        refine HC_loopR (orfSt f g) (fun _ => orfRe f g) (fun i => i ≤ f.l.length ∧ i ≤ g.l.length ∧ argC (f.l.drop i) (g.l.drop i) = argC f.l g.l) (fun i => f.l.length - i) 0 [0, 1] [] ⟨by omega, by omega, by simp⟩ ?_ ?_
        · exact ft1 (jn @orfSt.eq_1 (jn @orfRe.eq_1 (jn @fctE.eq_1 (jn @h1 (jn @h2 @h3)))))
        intro i ⟨hi1, hi2, hi3⟩
        refine HC_of_R ty_ok ?_
        by_cases hl : i < f.l.length
        · have hl' : (i : Int) < f.l.length := by omega
          by_cases hm : i < g.l.length
          · have hm' : (i : Int) < g.l.length := by omega
            rw [argC_drop f.l g.l i hl hm] at hi3
            have hd := flatE_drop cstE_len f.l i hl
            have hle := flatE_len cstE_len f.l
            have hd2 := flatE_drop cstE_len g.l i hm
            have hle2 := flatE_len cstE_len g.l
            have hc := rfcmp_ac f.l[i] g.l[i]
            generalize f.l[i] = c at *
            generalize g.l[i] = d at *
            simp only [cstE, List.cons_append, List.nil_append] at hd hd2 hc
            refine rn1 (jn @orfSt.eq_1 (jn @orfRe.eq_1 (jn @fctE.eq_1 (jn @hl' @hm')))) ?_
            refine HC_plan [] ty_ok mix (by kernel_rfl) ?_
            refine rn1 (jn @hd (jn @hle (jn @hd2 @hle2))) ?_
            (repeat (refine And.intro (by omega) ?_))
            refine HO_pureA ty_ok hc ?_
            generalize cstC c d = z at *
            by_cases hz : z = 0
            · rw [if_pos hz] at hi3
              refine rn1 @hz ?_
              (repeat (refine And.intro (by omega) ?_))
              refine ⟨i + 1, ⟨by omega, by omega, hi3⟩, by omega, [0, 1], [], ?_⟩
              exact ft1 (jn @orfSt.eq_1 (jn @orfRe.eq_1 @fctE.eq_1))
            · rw [if_neg hz] at hi3
              exact rz1 (jn @hz @hi3)
          · have hm' : ¬ (i : Int) < g.l.length := by omega
            have ee := argC_end f.l g.l i (by omega) (by omega) (by omega)
            have k1 : ¬ (f.l.length : Int) < g.l.length := by omega
            have k2 : (g.l.length : Int) < f.l.length := by omega
            rw [hi3, if_neg (by omega), if_pos (by omega)] at ee
            exact rz1 (jn @orfSt.eq_1 (jn @orfRe.eq_1 (jn @fctE.eq_1 (jn @hl' (jn @hm' (jn @k1 (jn @k2 @ee)))))))
        · have hl' : ¬ (i : Int) < f.l.length := by omega
          have ee := argC_end f.l g.l i (by omega) (by omega) (by omega)
          by_cases k1 : f.l.length < g.l.length
          · have k1' : (f.l.length : Int) < g.l.length := by omega
            rw [hi3, if_pos k1] at ee
            exact rz1 (jn @orfSt.eq_1 (jn @orfRe.eq_1 (jn @fctE.eq_1 (jn @hl' (jn @k1' @ee)))))
          · have k1' : ¬ (f.l.length : Int) < g.l.length := by omega
            have k2' : ¬ (g.l.length : Int) < f.l.length := by omega
            rw [hi3, if_neg k1, if_neg (by omega)] at ee
            exact rz1 (jn @orfSt.eq_1 (jn @orfRe.eq_1 (jn @fctE.eq_1 (jn @hl' (jn @k1' (jn @k2' @ee))))))
      · have e : ordC f g = txC f.p g.p := by simp [ordC, h1, h2, h3]
        have ht := rtexts_ac f.p g.p
        refine rn1 (jn @fctE.eq_1 (jn @h1 (jn @h2 @h3))) ?_
        refine HO_pureA ty_ok ht ?_
        exact rz1 @e
    · have e : ordC f g = txC f.b g.b := by simp [ordC, h1, h2]
      have ht := rtexts_ac f.b g.b
      refine rn1 (jn @fctE.eq_1 (jn @h1 @h2)) ?_
      refine HO_pureA ty_ok ht ?_
      exact rz1 @e
  · have e : ordC f g = txC f.a g.a := by simp [ordC, h1]
    have ht := rtexts_ac f.a g.a
    refine rn1 (jn @fctE.eq_1 @h1) ?_
    refine HO_pureA ty_ok ht ?_
    exact rz1 @e
end Go.Proofs.YtdbicadncccpoaaDoor

set_option linter.unusedVariables false
set_option linter.unusedSimpArgs false
set_option maxRecDepth 100000
namespace Go.Proofs.YtdbicadncccpoaaDoor
open Go Go.ChangeShapes Go.WideShapes
/-- The number of 'u' (even: not below zero; odd: below). -/
def zag (u : Nat) : Int := if u % 2 = 1 then -1 - ((u / 2 : Nat) : Int) else ((u / 2 : Nat) : Int)
def rdAt (at_ : Nat) : Nat → Nat → List UInt8 → Int × Int × Int
  | _, _, [] => (0, 0, 10)
  | i, u, c :: l => if i = 9 ∧ 1 < c.toNat then (0, 0, 11)
    else if 127 < c.toNat then rdAt at_ (i + 1) (u + c.toNat % 128 * 2 ^ (7 * i)) l
    else if 0 < i ∧ c.toNat = 0 then (0, 0, 11)
    else (zag (u + c.toNat % 128 * 2 ^ (7 * i)), ((at_ + i + 1 : Nat) : Int), 0)
def rdInt (b : List UInt8) (k : Int) : Int × Int × Int := if k < 0 ∨ (b.length : Int) < k then (0, 0, 2) else rdAt k.toNat 0 0 (b.drop k.toNat)
def tri (t : Int × Int × Int) : AV := .tup [.d (.c (.int .i64 t.1)), .d (.c (.int .i64 t.2.1)), .d (.c (.int .i64 t.2.2))]
def intSt (b : List UInt8) (k : Int) (i : Nat × Nat) : List (Nat × AV) := [(0, .d (.sl 1 b.length (bD b))), (1, .d (.c (.int .i64 k))), (8, .d (.c (.int .i64 i.1))), (7, .d (.c (.int .u64 i.2)))]
theorem pow7 {i : Nat} (h : i ≤ 9) : 2 ^ (7 * i) ≤ 9223372036854775808 := by
  have : 2 ^ (7 * i) ≤ 2 ^ 63 := Nat.pow_le_pow_right (by decide) (by omega)
  simpa using this
theorem or_add {u x i : Nat} (h : u < 2 ^ i) : u ||| x * 2 ^ i = u + x * 2 ^ i := by
  have := Nat.shiftLeft_add_eq_or_of_lt h x
  rw [Nat.shiftLeft_eq] at this
  rw [Nat.or_comm, ← this, Nat.add_comm]
theorem tri_eq {t : Int × Int × Int} {a b c : Int} (h1 : a = t.1) (h2 : b = t.2.1) (h3 : c = t.2.2) : AV.tup [AV.d (D.c (.int .i64 a)), AV.d (D.c (.int .i64 b)), AV.d (D.c (.int .i64 c))] = tri t := by subst h1; subst h2; subst h3; rfl
theorem zag_odd {u : Nat} (h : (u : Int) % 2 = 1) : -1 - (u : Int) / 2 = zag u := by unfold zag; rw [if_pos (by omega)]; omega
theorem zag_even {u : Nat} (h : ¬ (u : Int) % 2 = 1) : (u : Int) / 2 = zag u := by unfold zag; rw [if_neg (by omega)]; omega
set_option maxHeartbeats 1000000 in
theorem int_ac (b : List UInt8) (k : Int) (h0 : -9223372036854775808 ≤ k) (h1 : k ≤ 9223372036854775807) (hb : b.length ≤ 140737488355000) :
    AC Tryd.prog noG 38 [.d (.sl 1 b.length (bD b)), .d (.c (.int .i64 k))] [] (fun v r' => v = tri (rdInt b k) ∧ r' = []) := by
  refine AC_of_R (N := 67) (res := [.tmp 4, .tmp 5, .tmp 6]) ty_ok Tryd.call38 Tryd.func38 rfl rfl rfl (Nat.le_of_ble_eq_true rfl) ?_
  refine rn0 ?_
  refine ⟨fun hk => ⟨fun hl => ?_, fun hl => ?_⟩, fun hk => ?_⟩
  · rw [rdInt, if_pos (.inr hl)]; rfl
  · obtain ⟨kn, rfl⟩ := Int.eq_ofNat_of_zero_le (Int.not_lt.1 hk)
    have hR : rdInt b (kn : Int) = rdAt kn 0 0 (b.drop kn) := by rw [rdInt, if_neg (by omega)]; rfl
    refine HC_loop (intSt b kn) (fun _ => []) (fun i => rdAt kn i.1 i.2 (b.drop (kn + i.1)) = rdInt b kn ∧ i.1 ≤ 9 ∧ i.2 < 2 ^ (7 * i.1)) (fun i => 10 - i.1) (0, 0) ⟨hR.symm, by decide, by decide⟩ (fun _ => rfl) ?_ ?_
    · simp only [Fit, WkL, wfSt, wfRs, wfA, wfM, wfL, wk_refl, wk_top, wk_sl, wk_nilFull, wk_nilD, wkr_refl, get_mk, ↓lk_cons, ↓reduceIte, Nat.reduceEqDiff, List.length_cons, List.length_nil, List.length_append, decide_true, Bool.and_true, and_true, true_and, Nat.reduceLT, Nat.zero_add, Nat.reduceAdd, intSt]
      exact ⟨wk_eq rfl, wk_eq rfl⟩
    · intro ⟨i, u⟩ ⟨hp, hi, hu⟩
      simp only at hp hi hu
      refine HC_of_R ty_ok ?_
      have e1 : ((kn : Int) + (i : Int)).toNat = kn + i := by omega
      by_cases hin : kn + i < b.length
      · have hd : b.drop (kn + i) = b.getD (kn + i) 0 :: b.drop (kn + (i + 1)) := by
          rw [List.drop_eq_getElem_cons hin, List.getD_eq_getElem?_getD, List.getElem?_eq_getElem hin]; rfl
        rw [hd] at hp
        generalize hc : b.getD (kn + i) 0 = c at hp
        have hc8 := c.toNat_lt
        have hc2 : (b.getD (kn + i) 0).toNat = c.toNat := by rw [hc]
        rw [rdAt] at hp
        by_cases h9 : i = 9 ∧ 1 < c.toNat
        · rw [if_pos h9] at hp
          refine rn1 (jn @intSt.eq_1 (jn @e1 @hc2)) ?_
          exact ⟨⟨by omega, by omega⟩, by rw [← hp]; rfl⟩
        · rw [if_neg h9] at hp
          have hpw := pow7 hi
          obtain ⟨y, hy⟩ : ∃ y, y = c.toNat % 128 * 2 ^ (7 * i) := ⟨_, rfl⟩
          rw [← hy] at hp
          have hy63 : y + u < 2 ^ (7 * (i + 1)) ∧ y + u < 18446744073709551616 := by
            have h1 : c.toNat % 128 * 2 ^ (7 * i) ≤ 127 * 2 ^ (7 * i) := Nat.mul_le_mul_right _ (by omega)
            have h2 : 2 ^ (7 * (i + 1)) = 128 * 2 ^ (7 * i) := by rw [Nat.mul_add, Nat.pow_add, Nat.mul_comm]
            refine ⟨by omega, ?_⟩
            by_cases hi9 : i = 9
            · subst hi9
              have : c.toNat ≤ 1 := by omega
              have : c.toNat % 128 * 2 ^ (7 * 9) ≤ 1 * 2 ^ (7 * 9) := Nat.mul_le_mul_right _ (by omega)
              omega
            · have : 2 ^ (7 * i) ≤ 2 ^ (7 * 8) := Nat.pow_le_pow_right (by decide) (by omega)
              omega
          have hsh : ishl .u64 ((c.toNat : Int) % 128) (7 * (i : Int)) = (y : Int) := by
            have e : (7 * (i : Int)).toNat = 7 * i := by omega
            have e2 : (c.toNat : Int) % 128 * 2 ^ (7 * i) = (y : Int) := by rw [hy]; push_cast; rfl
            rw [shl64 (by omega) (by omega) (by omega) (by rw [e, e2]; omega), e, e2]
          have hsh9 (h : (i : Int) = 9) : ishl .u64 ((c.toNat : Int) % 128) 63 = (y : Int) := by rw [← hsh, h]; rfl
          have hor : ibits .or .u64 (u : Int) (y : Int) = ((u + y : Nat) : Int) := by
            rw [or64 (by omega) (by omega) (by omega) (by omega)]
            simp only [Int.toNat_natCast]
            rw [hy, or_add hu]
          refine rn1 (jn @intSt.eq_1 (jn @e1 (jn @hc2 (jn @hsh (jn @hsh9 @hor))))) ?_
          refine ⟨⟨by omega, by omega⟩, fun h9' => ⟨fun hz => ?_, fun hz => ⟨fun ho => ?_, fun ho => ?_⟩⟩, fun h9' => ⟨fun hc => ⟨(i + 1, u + y), ⟨?_, by simp only; omega, by simp only; omega⟩, by simp only; omega, ?_⟩, fun hc => ⟨fun hi0 => ⟨fun hz => ?_, fun hz => ⟨fun ho => ?_, fun ho => ?_⟩⟩, fun hi0 => ⟨fun ho => ?_, fun ho => ?_⟩⟩⟩⟩
          · rw [if_neg (by omega), if_pos (by omega)] at hp; rw [← hp]; rfl
          · rw [if_neg (by omega), if_neg (by omega)] at hp; rw [← hp]; exact tri_eq (zag_odd ho) (by simp only; omega) rfl
          · rw [if_neg (by omega), if_neg (by omega)] at hp; rw [← hp]; exact tri_eq (zag_even ho) (by simp only; omega) rfl
          · rw [if_pos (by omega)] at hp; exact hp
          · simp only [Fit, WkL, wfSt, wfRs, wfA, wfM, wfL, wk_refl, wk_top, wk_sl, wk_nilFull, wk_nilD, wkr_refl, get_mk, ↓lk_cons, ↓reduceIte, Nat.reduceEqDiff, List.length_cons, List.length_nil, List.length_append, decide_true, Bool.and_true, and_true, true_and, Nat.reduceLT, Nat.zero_add, Nat.reduceAdd, intSt]
            exact wk_eq rfl
          · rw [if_neg (by omega), if_pos (by omega)] at hp; rw [← hp]; rfl
          · rw [if_neg (by omega), if_neg (by omega)] at hp; rw [← hp]; exact tri_eq (zag_odd ho) (by simp only; omega) rfl
          · rw [if_neg (by omega), if_neg (by omega)] at hp; rw [← hp]; exact tri_eq (zag_even ho) (by simp only; omega) rfl
          · rw [if_neg (by omega), if_neg (by omega)] at hp; rw [← hp]; exact tri_eq (zag_odd ho) (by simp only; omega) rfl
          · rw [if_neg (by omega), if_neg (by omega)] at hp; rw [← hp]; exact tri_eq (zag_even ho) (by simp only; omega) rfl
      · rw [List.drop_eq_nil_of_le (by omega), rdAt] at hp
        refine rn1 @intSt.eq_1 ?_
        rw [← hp]; rfl
  · rw [rdInt, if_pos (.inl hk)]; rfl
end Go.Proofs.YtdbicadncccpoaaDoor

set_option linter.unusedVariables false
set_option linter.unusedSimpArgs false
set_option maxRecDepth 100000
namespace Go.Proofs.YtdbicadncccpoaaDoor
open Go Go.ChangeShapes Go.WideShapes
def rintSt (b : List UInt8) (k : Int) (i : Nat × Nat) : List (Nat × AV) := [(0, .d (.sl 1 b.length (bD b))), (1, .d (.c (.int .i64 k))), (8, .d (.c (.int .i64 i.1))), (7, .d (.c (.int .u64 i.2)))]
set_option maxHeartbeats 1000000 in
theorem rint_ac (b : List UInt8) (k : Int) (h0 : -9223372036854775808 ≤ k) (h1 : k ≤ 9223372036854775807) (hb : b.length ≤ 140737488355000) :
    AC Tryd.prog noG 54 [.d (.sl 1 b.length (bD b)), .d (.c (.int .i64 k))] [] (fun v r' => v = tri (rdInt b k) ∧ r' = []) := by
  refine AC_of_R (N := 76) (res := [.tmp 4, .tmp 5, .tmp 6]) ty_ok Tryd.call54 Tryd.func54 rfl rfl rfl (Nat.le_of_ble_eq_true rfl) ?_
  refine rn0 ?_
  refine ⟨fun hk => ⟨fun hl => ?_, fun hl => ?_⟩, fun hk => ?_⟩
  · rw [rdInt, if_pos (.inr hl)]; rfl
  · obtain ⟨kn, rfl⟩ := Int.eq_ofNat_of_zero_le (Int.not_lt.1 hk)
    have hR : rdInt b (kn : Int) = rdAt kn 0 0 (b.drop kn) := by rw [rdInt, if_neg (by omega)]; rfl
    refine HC_loop (rintSt b kn) (fun _ => []) (fun i => rdAt kn i.1 i.2 (b.drop (kn + i.1)) = rdInt b kn ∧ i.1 ≤ 9 ∧ i.2 < 2 ^ (7 * i.1) ∧ kn + i.1 ≤ b.length) (fun i => 10 - i.1) (0, 0) ⟨hR.symm, by decide, by decide, by simp only; omega⟩ (fun _ => rfl) ?_ ?_
    · simp only [Fit, WkL, wfSt, wfRs, wfA, wfM, wfL, wk_refl, wk_top, wk_sl, wk_nilFull, wk_nilD, wkr_refl, get_mk, ↓lk_cons, ↓reduceIte, Nat.reduceEqDiff, List.length_cons, List.length_nil, List.length_append, decide_true, Bool.and_true, and_true, true_and, Nat.reduceLT, Nat.zero_add, Nat.reduceAdd, rintSt]
      exact ⟨wk_eq rfl, wk_eq rfl⟩
    · intro ⟨i, u⟩ ⟨hp, hi, hu, hle⟩
      simp only at hp hi hu hle
      refine HC_of_R ty_ok ?_
      have e1 : ((kn : Int) + (i : Int)).toNat = kn + i := by omega
      by_cases hin : kn + i < b.length
      · have hd : b.drop (kn + i) = b.getD (kn + i) 0 :: b.drop (kn + (i + 1)) := by
          rw [List.drop_eq_getElem_cons hin, List.getD_eq_getElem?_getD, List.getElem?_eq_getElem hin]; rfl
        rw [hd] at hp
        generalize hc : b.getD (kn + i) 0 = c at hp
        have hc8 := c.toNat_lt
        have hc2 : (b.getD (kn + i) 0).toNat = c.toNat := by rw [hc]
        rw [rdAt] at hp
        by_cases h9 : i = 9 ∧ 1 < c.toNat
        · rw [if_pos h9] at hp
          refine rn1 (jn @rintSt.eq_1 (jn @e1 @hc2)) ?_
          exact ⟨⟨by omega, by omega⟩, by rw [← hp]; rfl⟩
        · rw [if_neg h9] at hp
          have hpw := pow7 hi
          obtain ⟨y, hy⟩ : ∃ y, y = c.toNat % 128 * 2 ^ (7 * i) := ⟨_, rfl⟩
          rw [← hy] at hp
          have hy63 : y + u < 2 ^ (7 * (i + 1)) ∧ y + u < 18446744073709551616 := by
            have h1 : c.toNat % 128 * 2 ^ (7 * i) ≤ 127 * 2 ^ (7 * i) := Nat.mul_le_mul_right _ (by omega)
            have h2 : 2 ^ (7 * (i + 1)) = 128 * 2 ^ (7 * i) := by rw [Nat.mul_add, Nat.pow_add, Nat.mul_comm]
            refine ⟨by omega, ?_⟩
            by_cases hi9 : i = 9
            · subst hi9
              have : c.toNat ≤ 1 := by omega
              have : c.toNat % 128 * 2 ^ (7 * 9) ≤ 1 * 2 ^ (7 * 9) := Nat.mul_le_mul_right _ (by omega)
              omega
            · have : 2 ^ (7 * i) ≤ 2 ^ (7 * 8) := Nat.pow_le_pow_right (by decide) (by omega)
              omega
          have hsh : ishl .u64 ((c.toNat : Int) % 128) (7 * (i : Int)) = (y : Int) := by
            have e : (7 * (i : Int)).toNat = 7 * i := by omega
            have e2 : (c.toNat : Int) % 128 * 2 ^ (7 * i) = (y : Int) := by rw [hy]; push_cast; rfl
            rw [shl64 (by omega) (by omega) (by omega) (by rw [e, e2]; omega), e, e2]
          have hsh9 (h : (i : Int) = 9) : ishl .u64 ((c.toNat : Int) % 128) 63 = (y : Int) := by rw [← hsh, h]; rfl
          refine rn1 (jn @rintSt.eq_1 (jn @e1 (jn @hc2 (jn @hsh @hsh9)))) ?_
          have odd : ∀ q : Int, (u : Int) + y = (u + y : Nat) := fun q => by omega
          have fin : ∀ p : Int, p = ((kn + i + 1 : Nat) : Int) → ¬ 127 < c.toNat → ¬ (0 < i ∧ c.toNat = 0) → (((u : Int) + y) % 2 = 1 → AV.tup [.d (.c (.int .i64 (0 - ((u : Int) + y) / 2 - 1))), .d (.c (.int .i64 p)), .d (.c (.int .i64 0))] = tri (rdInt b kn)) ∧
              (¬ ((u : Int) + y) % 2 = 1 → AV.tup [.d (.c (.int .i64 (((u : Int) + y) / 2))), .d (.c (.int .i64 p)), .d (.c (.int .i64 0))] = tri (rdInt b kn)) := by
            rintro p rfl h1 h2
            rw [if_neg h1, if_neg h2] at hp
            refine ⟨fun ho => ?_, fun ho => ?_⟩ <;> rw [← hp]
            · exact tri_eq (by have := zag_odd (u := u + y) (by omega); simp only; omega) rfl rfl
            · exact tri_eq (by have := zag_even (u := u + y) (by omega); simp only; omega) rfl rfl
          have bad : ¬ 127 < c.toNat → (0 < i ∧ c.toNat = 0) → AV.tup [.d (.c (.int .i64 0)), .d (.c (.int .i64 0)), .d (.c (.int .i64 11))] = tri (rdInt b kn) := by
            intro h1 h2
            rw [if_neg h1, if_pos h2] at hp
            rw [← hp]; rfl
          refine ⟨⟨by omega, by omega⟩, fun h9' => ⟨fun hz => bad (by omega) (by omega), fun hz => fin _ (by omega) (by omega) (by omega)⟩, fun h9' => ⟨fun hc => ⟨(i + 1, u + y), ⟨?_, by simp only; omega, by simp only; omega, by simp only; omega⟩, by simp only; omega, ?_⟩, fun hc => ⟨fun hi0 => ⟨fun hz => bad (by omega) (by omega), fun hz => fin _ (by omega) (by omega) (by omega)⟩, fun hi0 => fin _ (by omega) (by omega) (by omega)⟩⟩⟩
          · rw [if_pos (by omega)] at hp; exact hp
          · simp only [Fit, WkL, wfSt, wfRs, wfA, wfM, wfL, wk_refl, wk_top, wk_sl, wk_nilFull, wk_nilD, wkr_refl, get_mk, ↓lk_cons, ↓reduceIte, Nat.reduceEqDiff, List.length_cons, List.length_nil, List.length_append, decide_true, Bool.and_true, and_true, true_and, Nat.reduceLT, Nat.zero_add, Nat.reduceAdd, rintSt]
            exact ⟨wk_eq (by congr 3), wk_eq (by congr 3)⟩
      · rw [List.drop_eq_nil_of_le (by omega), rdAt] at hp
        refine rn1 @rintSt.eq_1 ?_
        rw [← hp]; rfl
  · rw [rdInt, if_pos (.inl hk)]; rfl
end Go.Proofs.YtdbicadncccpoaaDoor

set_option linter.unusedVariables false
set_option linter.unusedSimpArgs false
set_option maxRecDepth 100000
namespace Go.Proofs.YtdbicadncccpoaaDoor
open Go Go.ChangeShapes Go.WideShapes
theorem rdAt_bd (at_ : Nat) : ∀ (l : List UInt8) (i u : Nat), i ≤ 9 → u < 2 ^ (7 * i) →
    (-9223372036854775808 ≤ (rdAt at_ i u l).1 ∧ (rdAt at_ i u l).1 ≤ 9223372036854775807) ∧ (0 ≤ (rdAt at_ i u l).2.1 ∧ (rdAt at_ i u l).2.1 ≤ (at_ + i + l.length : Nat)) ∧ (0 ≤ (rdAt at_ i u l).2.2 ∧ (rdAt at_ i u l).2.2 ≤ 11) ∧ ((rdAt at_ i u l).2.2 = 0 → (at_ : Int) + i < (rdAt at_ i u l).2.1)
  | [], i, u, _, _ => by simp only [rdAt]; omega
  | c :: l, i, u, hi, hu => by
    have hc8 := c.toNat_lt
    simp only [rdAt]
    by_cases h9 : i = 9 ∧ 1 < c.toNat
    · rw [if_pos h9]; simp only; omega
    · rw [if_neg h9]
      have hpw := pow7 hi
      obtain ⟨y, hy⟩ : ∃ y, y = c.toNat % 128 * 2 ^ (7 * i) := ⟨_, rfl⟩
      rw [← hy]
      have hy63 : y + u < 2 ^ (7 * (i + 1)) ∧ y + u < 18446744073709551616 := by
        have h1 : c.toNat % 128 * 2 ^ (7 * i) ≤ 127 * 2 ^ (7 * i) := Nat.mul_le_mul_right _ (by omega)
        have h2 : 2 ^ (7 * (i + 1)) = 128 * 2 ^ (7 * i) := by rw [Nat.mul_add, Nat.pow_add, Nat.mul_comm]
        refine ⟨by omega, ?_⟩
        by_cases hi9 : i = 9
        · subst hi9
          have : c.toNat ≤ 1 := by omega
          have : c.toNat % 128 * 2 ^ (7 * 9) ≤ 1 * 2 ^ (7 * 9) := Nat.mul_le_mul_right _ (by omega)
          omega
        · have : 2 ^ (7 * i) ≤ 2 ^ (7 * 8) := Nat.pow_le_pow_right (by decide) (by omega)
          omega
      split
      · have := rdAt_bd at_ l (i + 1) (u + y) (by omega) (by omega)
        simp only [List.length_cons]
        omega
      · split
        · simp only; omega
        · simp only [List.length_cons, zag]
          split <;> omega
theorem rdInt_bd (b : List UInt8) (k : Int) : (-9223372036854775808 ≤ (rdInt b k).1 ∧ (rdInt b k).1 ≤ 9223372036854775807) ∧ (0 ≤ (rdInt b k).2.1 ∧ (rdInt b k).2.1 ≤ b.length) ∧ (0 ≤ (rdInt b k).2.2 ∧ (rdInt b k).2.2 ≤ 11) ∧ ((rdInt b k).2.2 = 0 → 0 ≤ k ∧ k < (rdInt b k).2.1) := by
  unfold rdInt
  split
  · simp only; omega
  · have := rdAt_bd k.toNat (b.drop k.toNat) 0 0 (by omega) (by decide)
    rw [List.length_drop] at this
    omega
def cnt (b : List UInt8) (k most : Int) : Int × Int × Int := if (rdInt b k).2.2 ≠ 0 then (0, 0, (rdInt b k).2.2) else if (rdInt b k).1 < 0 ∨ most < (rdInt b k).1 then (0, 0, 11) else rdInt b k
theorem cnt_bd (b : List UInt8) (k most : Int) : (0 ≤ (cnt b k most).1 ∧ (cnt b k most).1 ≤ 9223372036854775807) ∧ (0 ≤ (cnt b k most).2.1 ∧ (cnt b k most).2.1 ≤ b.length) ∧ (0 ≤ (cnt b k most).2.2 ∧ (cnt b k most).2.2 ≤ 11) ∧ ((cnt b k most).2.2 = 0 → (cnt b k most).1 ≤ most ∧ 0 ≤ k ∧ k < (cnt b k most).2.1) := by
  have := rdInt_bd b k
  unfold cnt
  split
  · simp only; omega
  · split
    · simp only; omega
    · omega
set_option maxHeartbeats 1000000 in
theorem count_ac (b : List UInt8) (k most : Int) (h0 : -9223372036854775808 ≤ k) (h1 : k ≤ 9223372036854775807) (hb : b.length ≤ 140737488355000) :
    AC Tryd.prog noG 82 [.d (.sl 1 b.length (bD b)), .d (.c (.int .i64 k)), .d (.c (.int .i64 most))] [] (fun v r' => v = tri (cnt b k most) ∧ r' = []) := by
  refine AC_of_R (N := 28) (res := [.tmp 6, .tmp 7, .tmp 8]) ty_ok Tryd.call82 Tryd.func82 rfl rfl rfl (Nat.le_of_ble_eq_true rfl) ?_
  refine rn0 ?_
  refine HO_pureA ty_ok (int_ac b k h0 h1 hb) ?_
  have hbd := rdInt_bd b k
  unfold cnt
  generalize rdInt b k = t at *
  obtain ⟨n, nx, e⟩ := t
  simp only at hbd
  exact rz1 @tri.eq_1
def txt (b : List UInt8) (k : Int) : ByteArray × Int × Int := if (cnt b k 65536).2.2 ≠ 0 then (⟨#[]⟩, 0, (cnt b k 65536).2.2) else if (b.length : Int) - (cnt b k 65536).2.1 < (cnt b k 65536).1 then (⟨#[]⟩, 0, 10)
  else (⟨((b.drop (cnt b k 65536).2.1.toNat).take (cnt b k 65536).1.toNat).toArray⟩, (cnt b k 65536).2.1 + (cnt b k 65536).1, 0)
def triS (t : ByteArray × Int × Int) : AV := .tup [.d (.c (.string t.1)), .d (.c (.int .i64 t.2.1)), .d (.c (.int .i64 t.2.2))]
set_option maxHeartbeats 1000000 in
theorem text_ac (b : List UInt8) (k : Int) (h0 : -9223372036854775808 ≤ k) (h1 : k ≤ 9223372036854775807) (hb : b.length ≤ 140737488355000) :
    AC Tryd.prog noG 62 [.d (.sl 1 b.length (bD b)), .d (.c (.int .i64 k))] [] (fun v r' => v = triS (txt b k) ∧ r' = []) := by
  refine AC_of_R (N := 35) (res := [.tmp 4, .tmp 5, .tmp 6]) ty_ok Tryd.call62 Tryd.func62 rfl rfl rfl (Nat.le_of_ble_eq_true rfl) ?_
  refine rn0 ?_
  refine HO_pureA ty_ok (count_ac b k 65536 h0 h1 hb) ?_
  have hbd := cnt_bd b k 65536
  unfold txt
  generalize cnt b k 65536 = t at *
  obtain ⟨n, nx, e⟩ := t
  simp only at hbd
  have e1 : (nx + n).toNat - nx.toNat = n.toNat := by omega
  refine rn1 (jn @tri.eq_1 (jn @triS.eq_1 @e1)) ?_
  intros
  omega
set_option maxHeartbeats 1000000 in
theorem rtext_ac (b : List UInt8) (k : Int) (h0 : -9223372036854775808 ≤ k) (h1 : k ≤ 9223372036854775807) (hb : b.length ≤ 140737488355000) :
    AC Tryd.prog noG 53 [.d (.sl 1 b.length (bD b)), .d (.c (.int .i64 k))] [] (fun v r' => v = triS (txt b k) ∧ r' = []) := by
  refine AC_of_R (N := 42) (res := [.tmp 4, .tmp 5, .tmp 6]) ty_ok Tryd.call53 Tryd.func53 rfl rfl rfl (Nat.le_of_ble_eq_true rfl) ?_
  refine rn0 ?_
  refine HO_pureA ty_ok (rint_ac b k h0 h1 hb) ?_
  have hbd := rdInt_bd b k
  unfold txt cnt
  generalize rdInt b k = t at *
  obtain ⟨n, nx, e⟩ := t
  simp only at hbd
  have e1 : (nx + n).toNat - nx.toNat = n.toNat := by omega
  refine rn1 (jn @tri.eq_1 (jn @triS.eq_1 @e1)) ?_
  intros
  omega
end Go.Proofs.YtdbicadncccpoaaDoor
