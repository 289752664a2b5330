/- Parts of the proof: Check, Cmp, Int, RInt, Text. -/
import Derived.Test.YtdbicadncccpoaaDoorCJ5
import Derived.Test.YtdbicadncccpoaaDoorCJ2
set_option linter.unusedVariables false
set_option linter.unusedSimpArgs false
set_option maxRecDepth 100000
namespace Go.Proofs.YtdbicadncccpoaaDoor
open Go Go.ChangeShapes Go.WideShapes
set_option maxHeartbeats 400000 in
theorem ftext_ac (s : ByteArray) : AC Tryd.prog noG 80 [.d (.c (.string s))] [] (fun v r' => v = .d (.c (.bool (txtOK s))) ∧ r' = []) := by
  refine AC_of_R (N := 11) (res := [.tmp 2]) ty_ok Tryd.call80 Tryd.func80 rfl rfl rfl (Nat.le_of_ble_eq_true rfl) ?_
  by_cases h1 : 1 ≤ s.size
  · have g1 : 1 ≤ (s.size : Int) := by omega
    by_cases h2 : s.size ≤ 32
    · have g2 : (s.size : Int) ≤ 32 := by omega
      have e : txtOK s = true := by simp [txtOK, h1, h2]
      exact rz1 (jn @g1 (jn @g2 @e))
    · have g2 : ¬ (s.size : Int) ≤ 32 := by omega
      have e : txtOK s = false := by simp [txtOK, h1, h2]
      exact rz1 (jn @g1 (jn @g2 @e))
  · have g1 : ¬ 1 ≤ (s.size : Int) := by omega
    have e : txtOK s = false := by simp [txtOK, h1]
    exact rz1 (jn @g1 @e)
set_option maxHeartbeats 400000 in
theorem rftext_ac (s : ByteArray) : AC Tryd.prog noG 68 [.d (.c (.string s))] [] (fun v r' => v = .d (.c (.bool (txtOK s))) ∧ r' = []) := by
  refine AC_of_R (N := 11) (res := [.tmp 2]) ty_ok Tryd.call68 Tryd.func68 rfl rfl rfl (Nat.le_of_ble_eq_true rfl) ?_
  by_cases h1 : 1 ≤ s.size
  · have g1 : 1 ≤ (s.size : Int) := by omega
    by_cases h2 : s.size ≤ 32
    · have g2 : (s.size : Int) ≤ 32 := by omega
      have e : txtOK s = true := by simp [txtOK, h1, h2]
      exact rz1 (jn @g1 (jn @g2 @e))
    · have g2 : ¬ (s.size : Int) ≤ 32 := by omega
      have e : txtOK s = false := by simp [txtOK, h1, h2]
      exact rz1 (jn @g1 (jn @g2 @e))
  · have g1 : ¬ 1 ≤ (s.size : Int) := by omega
    have e : txtOK s = false := by simp [txtOK, h1]
    exact rz1 (jn @g1 @e)
set_option maxHeartbeats 400000 in
theorem fgood_ac (c : Cst) : AC Tryd.prog noG 81 [.d (.agg (cstE c))] [] (fun v r' => v = .d (.c (.bool (goodC c))) ∧ r' = []) := by
  refine AC.pure ?_ (by rintro v rfl; rfl)
  refine AC_of_R (N := 16) (res := [.tmp 2]) ty_ok Tryd.call81 Tryd.func81 rfl rfl rfl (Nat.le_of_ble_eq_true rfl) ?_
  obtain ⟨q, n, s⟩ := c
  cases q with
  | true =>
    refine rn1 @cstE.eq_1 ?_
    rfl
  | false =>
    by_cases h : n = 0
    · refine rn1 (jn @cstE.eq_1 @h) ?_
      refine HO_pureA ty_ok (ftext_ac s) ?_
      refine rn0 ?_
      rfl
    · refine rn1 (jn @cstE.eq_1 @h) ?_
      simp [goodC, h]
set_option maxHeartbeats 400000 in
theorem rfgood_ac (c : Cst) : AC Tryd.prog noG 90 [.d (.agg (cstE c))] [] (fun v r' => v = .d (.c (.bool (goodC c))) ∧ r' = []) := by
  refine AC.pure ?_ (by rintro v rfl; rfl)
  refine AC_of_R (N := 16) (res := [.tmp 2]) ty_ok Tryd.call90 Tryd.func90 rfl rfl rfl (Nat.le_of_ble_eq_true rfl) ?_
  obtain ⟨q, n, s⟩ := c
  cases q with
  | true =>
    refine rn1 @cstE.eq_1 ?_
    rfl
  | false =>
    by_cases h : n = 0
    · refine rn1 (jn @cstE.eq_1 @h) ?_
      refine HO_pureA ty_ok (rftext_ac s) ?_
      refine rn0 ?_
      rfl
    · refine rn1 (jn @cstE.eq_1 @h) ?_
      simp [goodC, h]
theorem all_drop {α : Type} (p : α → Bool) (l : List α) (i : Nat) (h : i < l.length) : (l.drop i).all p = (p l[i] && (l.drop (i + 1)).all p) := by rw [List.drop_eq_getElem_cons h, List.all_cons]
def ckSt (f : Fct) (i : Nat) : List (Nat × AV) := [(28, .d (.sl 3 f.l.length (flatE cstE f.l))), (29, .d (.c (.int .i64 f.l.length))), (30, .d (.c (.int .i64 i)))]
theorem chkE_no {f : Fct} (h : ¬ chkF f = true) : chkE f = 40 := if_neg h
theorem chkE_ok {f : Fct} (h : chkF f = true) : chkE f = 0 := if_pos h
set_option maxHeartbeats 400000 in
theorem fchk_ac (f : Fct) (hf : f.l.length ≤ 140737488352000) : AC Tryd.prog noG 60 [.d (.agg (fctE f))] [] (fun v r' => v = .d (.c (.int .i64 (chkE f))) ∧ r' = []) := by
  refine AC.pure ?_ (by rintro v rfl; rfl)
  refine AC_of_R (N := 38) (res := [.tmp 2]) ty_ok Tryd.call60 Tryd.func60 rfl rfl rfl (Nat.le_of_ble_eq_true rfl) ?_
  have ha := ftext_ac f.a
  have hb := ftext_ac f.b
  have hp := ftext_ac f.p
  cases h1 : txtOK f.a with
  | false =>
    have e := chkE_no (f := f) (by simp [chkF, h1])
    refine rn1 @fctE.eq_1 ?_
    refine HO_pureA ty_ok ha ?_
    exact rz1 (jn @h1 @e)
  | true =>
  cases h2 : txtOK f.b with
  | false =>
    have e := chkE_no (f := f) (by simp [chkF, h2])
    refine rn1 @fctE.eq_1 ?_
    refine HO_pureA ty_ok ha ?_
    refine rn1 @h1 ?_
    refine HO_pureA ty_ok hb ?_
    exact rz1 (jn @h2 @e)
  | true =>
  cases h3 : txtOK f.p with
  | false =>
    have e := chkE_no (f := f) (by simp [chkF, h3])
    refine rn1 @fctE.eq_1 ?_
    refine HO_pureA ty_ok ha ?_
    refine rn1 @h1 ?_
    refine HO_pureA ty_ok hb ?_
    refine rn1 @h2 ?_
    refine HO_pureA ty_ok hp ?_
    exact rz1 (jn @h3 @e)
  | true =>
  by_cases h4 : f.l.length ≤ 48
  · have g4 : ¬ (f.l.length : Int) > 48 := by omega
    have eF : chkE f = if f.l.all goodC then 0 else 40 := by simp [chkE, chkF, h1, h2, h3, h4]
    refine rn1 @fctE.eq_1 ?_
    refine HO_pureA ty_ok ha ?_
    refine rn1 @h1 ?_
    refine HO_pureA ty_ok hb ?_
    refine rn1 @h2 ?_
    refine HO_pureA ty_ok hp ?_
    refine rn1 (jn @h3 @g4) ?_
    refine HC_loopR (ckSt f) (fun _ => [none]) (fun i => i ≤ f.l.length ∧ (f.l.drop i).all goodC = f.l.all goodC) (fun i => f.l.length - i) 0 [] [] ⟨by omega, by simp⟩ ?_ ?_
    · exact ft1 @ckSt.eq_1
    intro i ⟨hi1, hi2⟩
    refine HC_of_R ty_ok ?_
    by_cases hlt : i < f.l.length
    · have hi : (i : Int) < f.l.length := by omega
      rw [all_drop goodC f.l i hlt] at hi2
      have hd := flatE_drop cstE_len f.l i hlt
      have hle := flatE_len cstE_len f.l
      have hg := fgood_ac f.l[i]
      generalize f.l[i] = c at *
      simp only [cstE, List.cons_append, List.nil_append] at hd
      refine rn1 (jn @ckSt.eq_1 (jn @hi (jn @hd (jn @hle @cstE.eq_1)))) ?_
      (repeat (refine And.intro (by omega) ?_))
      refine HO_pureA ty_ok hg ?_
      cases hc : goodC c with
      | true =>
        rw [hc, Bool.true_and] at hi2
        refine rn0 ?_
        (repeat (refine And.intro (by omega) ?_))
        refine ⟨i + 1, ⟨by omega, hi2⟩, by omega, [], [], ?_⟩
        exact ft1 @ckSt.eq_1
      | false =>
        rw [hc, Bool.false_and] at hi2
        refine rn1 @eF ?_
        rw [← hi2]; rfl
    · have hi : ¬ (i : Int) < f.l.length := by omega
      rw [List.drop_of_length_le (by omega)] at hi2
      refine rn1 (jn @ckSt.eq_1 (jn @hi @eF)) ?_
      rw [← hi2]; rfl
  · have g4 : (f.l.length : Int) > 48 := by omega
    have e := chkE_no (f := f) (by simp [chkF, h4])
    refine rn1 @fctE.eq_1 ?_
    refine HO_pureA ty_ok ha ?_
    refine rn1 @h1 ?_
    refine HO_pureA ty_ok hb ?_
    refine rn1 @h2 ?_
    refine HO_pureA ty_ok hp ?_
    exact rz1 (jn @h3 (jn @g4 @e))
def rckSt (f : Fct) (i : Nat) : List (Nat × AV) := [(1, .ptr 0 0), (3, .d (.c (.int .i64 i)))]
def rckRe (f : Fct) : Rs := [some (.obj ((fctE f).map .d))]
set_option maxHeartbeats 400000 in
theorem rfchk_ac (f : Fct) (hf : f.l.length ≤ 140737488352000) : AC Tryd.prog noG 70 [.d (.agg (fctE f))] [] (fun v r' => v = .d (.c (.int .i64 (chkE f))) ∧ r' = []) := by
  refine AC.pure ?_ (by rintro v rfl; rfl)
  refine AC_of_R (N := 40) (res := [.tmp 2]) ty_ok Tryd.call70 Tryd.func70 rfl rfl rfl (Nat.le_of_ble_eq_true rfl) ?_
  have ha := rftext_ac f.a
  have hb := rftext_ac f.b
  have hp := rftext_ac f.p
  cases h1 : txtOK f.a with
  | false =>
    have e := chkE_no (f := f) (by simp [chkF, h1])
    refine rn1 @fctE.eq_1 ?_
    refine HO_pureA ty_ok ha ?_
    exact rz1 (jn @h1 @e)
  | true =>
  cases h2 : txtOK f.b with
  | false =>
    have e := chkE_no (f := f) (by simp [chkF, h2])
    refine rn1 @fctE.eq_1 ?_
    refine HO_pureA ty_ok ha ?_
    refine rn1 @h1 ?_
    refine HO_pureA ty_ok hb ?_
    exact rz1 (jn @h2 @e)
  | true =>
  cases h3 : txtOK f.p with
  | false =>
    have e := chkE_no (f := f) (by simp [chkF, h3])
    refine rn1 @fctE.eq_1 ?_
    refine HO_pureA ty_ok ha ?_
    refine rn1 @h1 ?_
    refine HO_pureA ty_ok hb ?_
    refine rn1 @h2 ?_
    refine HO_pureA ty_ok hp ?_
    exact rz1 (jn @h3 @e)
  | true =>
  by_cases h4 : f.l.length ≤ 48
  · have g4 : ¬ (f.l.length : Int) > 48 := by omega
    have eF : chkE f = if f.l.all goodC then 0 else 40 := by simp [chkE, chkF, h1, h2, h3, h4]
    refine rn1 @fctE.eq_1 ?_
    refine HO_pureA ty_ok ha ?_
    refine rn1 @h1 ?_
    refine HO_pureA ty_ok hb ?_
    refine rn1 @h2 ?_
    refine HO_pureA ty_ok hp ?_
    refine rn1 (jn @h3 @g4) ?_
    refine HC_loopR (rckSt f) (fun _ => rckRe f) (fun i => i ≤ f.l.length ∧ (f.l.drop i).all goodC = f.l.all goodC) (fun i => f.l.length - i) 0 [0] [] ⟨by omega, by simp⟩ ?_ ?_
    · exact ft1 (jn @rckSt.eq_1 (jn @rckRe.eq_1 @fctE.eq_1))
    intro i ⟨hi1, hi2⟩
    refine HC_of_R ty_ok ?_
    by_cases hlt : i < f.l.length
    · have hi : (i : Int) < f.l.length := by omega
      rw [all_drop goodC f.l i hlt] at hi2
      have hd := flatE_drop cstE_len f.l i hlt
      have hle := flatE_len cstE_len f.l
      have hg := rfgood_ac f.l[i]
      generalize f.l[i] = c at *
      simp only [cstE, List.cons_append, List.nil_append] at hd
      refine rn1 (jn @rckSt.eq_1 (jn @rckRe.eq_1 (jn @fctE.eq_1 (jn @hi (jn @hd (jn @hle @cstE.eq_1)))))) ?_
      (repeat (refine And.intro (by omega) ?_))
      refine HO_pureA ty_ok hg ?_
      cases hc : goodC c with
      | true =>
        rw [hc, Bool.true_and] at hi2
        refine rn0 ?_
        (repeat (refine And.intro (by omega) ?_))
        refine ⟨i + 1, ⟨by omega, hi2⟩, by omega, [0], [], ?_⟩
        exact ft1 (jn @rckSt.eq_1 (jn @rckRe.eq_1 @fctE.eq_1))
      | false =>
        rw [hc, Bool.false_and] at hi2
        refine rn1 @eF ?_
        rw [← hi2]; rfl
    · have hi : ¬ (i : Int) < f.l.length := by omega
      rw [List.drop_of_length_le (by omega)] at hi2
      refine rn1 (jn @rckSt.eq_1 (jn @rckRe.eq_1 (jn @fctE.eq_1 (jn @hi @eF)))) ?_
      rw [← hi2]; rfl
  · have g4 : (f.l.length : Int) > 48 := by omega
    have e := chkE_no (f := f) (by simp [chkF, h4])
    refine rn1 @fctE.eq_1 ?_
    refine HO_pureA ty_ok ha ?_
    refine rn1 @h1 ?_
    refine HO_pureA ty_ok hb ?_
    refine rn1 @h2 ?_
    refine HO_pureA ty_ok hp ?_
    exact rz1 (jn @h3 (jn @g4 @e))
end Go.Proofs.YtdbicadncccpoaaDoor

set_option linter.unusedVariables false
set_option linter.unusedSimpArgs false
set_option maxRecDepth 100000
namespace Go.Proofs.YtdbicadncccpoaaDoor
open Go Go.ChangeShapes Go.WideShapes
end Go.Proofs.YtdbicadncccpoaaDoor

set_option linter.unusedVariables false
set_option linter.unusedSimpArgs false
set_option maxRecDepth 100000
namespace Go.Proofs.YtdbicadncccpoaaDoor
open Go Go.ChangeShapes Go.WideShapes
end Go.Proofs.YtdbicadncccpoaaDoor

set_option linter.unusedVariables false
set_option linter.unusedSimpArgs false
set_option maxRecDepth 100000
namespace Go.Proofs.YtdbicadncccpoaaDoor
open Go Go.ChangeShapes Go.WideShapes
end Go.Proofs.YtdbicadncccpoaaDoor

set_option linter.unusedVariables false
set_option linter.unusedSimpArgs false
set_option maxRecDepth 100000
namespace Go.Proofs.YtdbicadncccpoaaDoor
open Go Go.ChangeShapes Go.WideShapes
end Go.Proofs.YtdbicadncccpoaaDoor
