/- Parts of the proof: Base, Fct, Check, Cmp, Clone. -/
import Derived.Test.YthdjblfiiogmgaaCTs
set_option linter.unusedVariables false
set_option linter.unusedSimpArgs false
set_option maxRecDepth 100000
namespace Go.Proofs.Ythdjblfiiogmgaa
open Go Go.ChangeShapes Go.WideShapes
def noG : GR := { g := fun _ => [] }
theorem mix : Try.prog.follows .mixedOrders = true := by kernel_rfl
end Go.Proofs.Ythdjblfiiogmgaa

set_option linter.unusedVariables false
set_option linter.unusedSimpArgs false
set_option maxRecDepth 100000
namespace Go.Proofs.Ythdjblfiiogmgaa
open Go Go.ChangeShapes Go.WideShapes
/-- Rows of elements of one width. -/
def flatE {α : Type} (en : α → List D) (l : List α) : List D := l.flatMap en
theorem flatE_cons {α : Type} (en : α → List D) (a : α) (l : List α) : flatE en (a :: l) = en a ++ flatE en l := by rw [flatE, List.flatMap_cons]; rfl
theorem flatE_app {α : Type} (en : α → List D) (l m : List α) : flatE en (l ++ m) = flatE en l ++ flatE en m := by rw [flatE, List.flatMap_append]; rfl
theorem flatE_nil {α : Type} (en : α → List D) : flatE en [] = [] := rfl
theorem flatE_len {α : Type} {en : α → List D} {k : Nat} (h : ∀ a, (en a).length = k) : ∀ l : List α, (flatE en l).length = k * l.length
  | [] => rfl
  | a :: l => by rw [flatE_cons, List.length_append, h, flatE_len h l, List.length_cons, Nat.mul_succ]; omega
theorem flatE_drop {α : Type} {en : α → List D} {k : Nat} (h : ∀ a, (en a).length = k) : ∀ (l : List α) (i : Nat) (hi : i < l.length), (flatE en l).drop (i * k) = en l[i] ++ flatE en (l.drop (i + 1))
  | a :: l, 0, _ => by rw [flatE_cons]; simp
  | a :: l, i + 1, hi => by
    have := flatE_drop h l i (by simpa using hi)
    rw [flatE_cons, Nat.succ_mul, Nat.add_comm (i * k) k, ← List.drop_drop]
    simp only [List.getElem_cons_succ, List.drop_succ_cons]
    rw [← h a, List.drop_left, h a, this]
structure Cst where
  num : Bool
  n : Int
  s : ByteArray
deriving DecidableEq
structure Fct where
  a : ByteArray
  b : ByteArray
  p : ByteArray
  l : List Cst
deriving DecidableEq
def cstE (c : Cst) : List D := [.c (.bool c.num), .c (.int .i64 c.n), .c (.string c.s)]
theorem cstE_len (c : Cst) : (cstE c).length = 3 := rfl
def fctE (f : Fct) : List D := [.c (.string f.a), .c (.string f.b), .c (.string f.p), .sl 3 f.l.length (flatE cstE f.l)]
theorem fctE_len (f : Fct) : (fctE f).length = 4 := rfl
def txtOK (s : ByteArray) : Bool := decide (1 ≤ s.size) && decide (s.size ≤ 32)
def goodC (c : Cst) : Bool := if c.num then decide (c.s = ⟨#[]⟩) else decide (c.n = 0) && txtOK c.s
def chkF (f : Fct) : Bool := txtOK f.a && (txtOK f.b && (txtOK f.p && (decide (f.l.length ≤ 48) && f.l.all goodC)))
def chkE (f : Fct) : Int := if chkF f then 0 else 40
end Go.Proofs.Ythdjblfiiogmgaa

set_option linter.unusedVariables false
set_option linter.unusedSimpArgs false
set_option maxRecDepth 100000
namespace Go.Proofs.Ythdjblfiiogmgaa
open Go Go.ChangeShapes Go.WideShapes
set_option maxHeartbeats 400000 in
theorem ftext_ac (s : ByteArray) : AC Try.prog noG 79 [.d (.c (.string s))] [] (fun v r' => v = .d (.c (.bool (txtOK s))) ∧ r' = []) := by
  refine AC_of_R (N := 11) (res := [.tmp 2]) ty_ok Try.call79 Try.func79 rfl rfl rfl (Nat.le_of_ble_eq_true rfl) ?_
  by_cases h1 : 1 ≤ s.size
  · have g1 : 1 ≤ (s.size : Int) := by omega
    by_cases h2 : s.size ≤ 32
    · have g2 : (s.size : Int) ≤ 32 := by omega
      have e : txtOK s = true := by simp [txtOK, h1, h2]
      exact rz1 (jn @g1 (jn @g2 @e))
    · have g2 : ¬ (s.size : Int) ≤ 32 := by omega
      have e : txtOK s = false := by simp [txtOK, h1, h2]
      exact rz1 (jn @g1 (jn @g2 @e))
  · have g1 : ¬ 1 ≤ (s.size : Int) := by omega
    have e : txtOK s = false := by simp [txtOK, h1]
    exact rz1 (jn @g1 @e)
set_option maxHeartbeats 400000 in
theorem rftext_ac (s : ByteArray) : AC Try.prog noG 91 [.d (.c (.string s))] [] (fun v r' => v = .d (.c (.bool (txtOK s))) ∧ r' = []) := by
  refine AC_of_R (N := 11) (res := [.tmp 2]) ty_ok Try.call91 Try.func91 rfl rfl rfl (Nat.le_of_ble_eq_true rfl) ?_
  by_cases h1 : 1 ≤ s.size
  · have g1 : 1 ≤ (s.size : Int) := by omega
    by_cases h2 : s.size ≤ 32
    · have g2 : (s.size : Int) ≤ 32 := by omega
      have e : txtOK s = true := by simp [txtOK, h1, h2]
      exact rz1 (jn @g1 (jn @g2 @e))
    · have g2 : ¬ (s.size : Int) ≤ 32 := by omega
      have e : txtOK s = false := by simp [txtOK, h1, h2]
      exact rz1 (jn @g1 (jn @g2 @e))
  · have g1 : ¬ 1 ≤ (s.size : Int) := by omega
    have e : txtOK s = false := by simp [txtOK, h1]
    exact rz1 (jn @g1 @e)
set_option maxHeartbeats 400000 in
theorem fgood_ac (c : Cst) : AC Try.prog noG 80 [.d (.agg (cstE c))] [] (fun v r' => v = .d (.c (.bool (goodC c))) ∧ r' = []) := by
  refine AC.pure ?_ (by rintro v rfl; rfl)
  refine AC_of_R (N := 16) (res := [.tmp 2]) ty_ok Try.call80 Try.func80 rfl rfl rfl (Nat.le_of_ble_eq_true rfl) ?_
  obtain ⟨q, n, s⟩ := c
  cases q with
  | true =>
    refine rn1 @cstE.eq_1 ?_
    rfl
  | false =>
    by_cases h : n = 0
    · refine rn1 (jn @cstE.eq_1 @h) ?_
      refine HO_pureA ty_ok (ftext_ac s) ?_
      refine rn0 ?_
      rfl
    · refine rn1 (jn @cstE.eq_1 @h) ?_
      simp [goodC, h]
set_option maxHeartbeats 400000 in
theorem rfgood_ac (c : Cst) : AC Try.prog noG 92 [.d (.agg (cstE c))] [] (fun v r' => v = .d (.c (.bool (goodC c))) ∧ r' = []) := by
  refine AC.pure ?_ (by rintro v rfl; rfl)
  refine AC_of_R (N := 16) (res := [.tmp 2]) ty_ok Try.call92 Try.func92 rfl rfl rfl (Nat.le_of_ble_eq_true rfl) ?_
  obtain ⟨q, n, s⟩ := c
  cases q with
  | true =>
    refine rn1 @cstE.eq_1 ?_
    rfl
  | false =>
    by_cases h : n = 0
    · refine rn1 (jn @cstE.eq_1 @h) ?_
      refine HO_pureA ty_ok (rftext_ac s) ?_
      refine rn0 ?_
      rfl
    · refine rn1 (jn @cstE.eq_1 @h) ?_
      simp [goodC, h]
theorem all_drop {α : Type} (p : α → Bool) (l : List α) (i : Nat) (h : i < l.length) : (l.drop i).all p = (p l[i] && (l.drop (i + 1)).all p) := by rw [List.drop_eq_getElem_cons h, List.all_cons]
def ckSt (f : Fct) (i : Nat) : List (Nat × AV) := [(28, .d (.sl 3 f.l.length (flatE cstE f.l))), (29, .d (.c (.int .i64 f.l.length))), (30, .d (.c (.int .i64 i)))]
theorem chkE_no {f : Fct} (h : ¬ chkF f = true) : chkE f = 40 := if_neg h
theorem chkE_ok {f : Fct} (h : chkF f = true) : chkE f = 0 := if_pos h
set_option maxHeartbeats 400000 in
theorem fchk_ac (f : Fct) (hf : f.l.length ≤ 140737488352000) : AC Try.prog noG 53 [.d (.agg (fctE f))] [] (fun v r' => v = .d (.c (.int .i64 (chkE f))) ∧ r' = []) := by
  refine AC.pure ?_ (by rintro v rfl; rfl)
  refine AC_of_R (N := 38) (res := [.tmp 2]) ty_ok Try.call53 Try.func53 rfl rfl rfl (Nat.le_of_ble_eq_true rfl) ?_
  have ha := ftext_ac f.a
  have hb := ftext_ac f.b
  have hp := ftext_ac f.p
  cases h1 : txtOK f.a with
  | false =>
    have e := chkE_no (f := f) (by simp [chkF, h1])
    refine rn1 @fctE.eq_1 ?_
    refine HO_pureA ty_ok ha ?_
    exact rz1 (jn @h1 @e)
  | true =>
  cases h2 : txtOK f.b with
  | false =>
    have e := chkE_no (f := f) (by simp [chkF, h2])
    refine rn1 @fctE.eq_1 ?_
    refine HO_pureA ty_ok ha ?_
    refine rn1 @h1 ?_
    refine HO_pureA ty_ok hb ?_
    exact rz1 (jn @h2 @e)
  | true =>
  cases h3 : txtOK f.p with
  | false =>
    have e := chkE_no (f := f) (by simp [chkF, h3])
    refine rn1 @fctE.eq_1 ?_
    refine HO_pureA ty_ok ha ?_
    refine rn1 @h1 ?_
    refine HO_pureA ty_ok hb ?_
    refine rn1 @h2 ?_
    refine HO_pureA ty_ok hp ?_
    exact rz1 (jn @h3 @e)
  | true =>
  by_cases h4 : f.l.length ≤ 48
  · have g4 : ¬ (f.l.length : Int) > 48 := by omega
    have eF : chkE f = if f.l.all goodC then 0 else 40 := by simp [chkE, chkF, h1, h2, h3, h4]
    refine rn1 @fctE.eq_1 ?_
    refine HO_pureA ty_ok ha ?_
    refine rn1 @h1 ?_
    refine HO_pureA ty_ok hb ?_
    refine rn1 @h2 ?_
    refine HO_pureA ty_ok hp ?_
    refine rn1 (jn @h3 @g4) ?_
    refine HC_loopR (ckSt f) (fun _ => [none]) (fun i => i ≤ f.l.length ∧ (f.l.drop i).all goodC = f.l.all goodC) (fun i => f.l.length - i) 0 [] [] ⟨by omega, by simp⟩ ?_ ?_
    · exact ft1 @ckSt.eq_1
    intro i ⟨hi1, hi2⟩
    refine HC_of_R ty_ok ?_
    by_cases hlt : i < f.l.length
    · have hi : (i : Int) < f.l.length := by omega
      rw [all_drop goodC f.l i hlt] at hi2
      have hd := flatE_drop cstE_len f.l i hlt
      have hle := flatE_len cstE_len f.l
      have hg := fgood_ac f.l[i]
      generalize f.l[i] = c at *
      simp only [cstE, List.cons_append, List.nil_append] at hd
      refine rn1 (jn @ckSt.eq_1 (jn @hi (jn @hd (jn @hle @cstE.eq_1)))) ?_
      (repeat (refine And.intro (by omega) ?_))
      refine HO_pureA ty_ok hg ?_
      cases hc : goodC c with
      | true =>
        rw [hc, Bool.true_and] at hi2
        refine rn0 ?_
        (repeat (refine And.intro (by omega) ?_))
        refine ⟨i + 1, ⟨by omega, hi2⟩, by omega, [], [], ?_⟩
        exact ft1 @ckSt.eq_1
      | false =>
        rw [hc, Bool.false_and] at hi2
        refine rn1 @eF ?_
        rw [← hi2]; rfl
    · have hi : ¬ (i : Int) < f.l.length := by omega
      rw [List.drop_of_length_le (by omega)] at hi2
      refine rn1 (jn @ckSt.eq_1 (jn @hi @eF)) ?_
      rw [← hi2]; rfl
  · have g4 : (f.l.length : Int) > 48 := by omega
    have e := chkE_no (f := f) (by simp [chkF, h4])
    refine rn1 @fctE.eq_1 ?_
    refine HO_pureA ty_ok ha ?_
    refine rn1 @h1 ?_
    refine HO_pureA ty_ok hb ?_
    refine rn1 @h2 ?_
    refine HO_pureA ty_ok hp ?_
    exact rz1 (jn @h3 (jn @g4 @e))
def rckSt (f : Fct) (i : Nat) : List (Nat × AV) := [(1, .ptr 0 0), (3, .d (.c (.int .i64 i)))]
def rckRe (f : Fct) : Rs := [some (.obj ((fctE f).map .d))]
set_option maxHeartbeats 400000 in
theorem rfchk_ac (f : Fct) (hf : f.l.length ≤ 140737488352000) : AC Try.prog noG 72 [.d (.agg (fctE f))] [] (fun v r' => v = .d (.c (.int .i64 (chkE f))) ∧ r' = []) := by
  refine AC.pure ?_ (by rintro v rfl; rfl)
  refine AC_of_R (N := 40) (res := [.tmp 2]) ty_ok Try.call72 Try.func72 rfl rfl rfl (Nat.le_of_ble_eq_true rfl) ?_
  have ha := rftext_ac f.a
  have hb := rftext_ac f.b
  have hp := rftext_ac f.p
  cases h1 : txtOK f.a with
  | false =>
    have e := chkE_no (f := f) (by simp [chkF, h1])
    refine rn1 @fctE.eq_1 ?_
    refine HO_pureA ty_ok ha ?_
    exact rz1 (jn @h1 @e)
  | true =>
  cases h2 : txtOK f.b with
  | false =>
    have e := chkE_no (f := f) (by simp [chkF, h2])
    refine rn1 @fctE.eq_1 ?_
    refine HO_pureA ty_ok ha ?_
    refine rn1 @h1 ?_
    refine HO_pureA ty_ok hb ?_
    exact rz1 (jn @h2 @e)
  | true =>
  cases h3 : txtOK f.p with
  | false =>
    have e := chkE_no (f := f) (by simp [chkF, h3])
    refine rn1 @fctE.eq_1 ?_
    refine HO_pureA ty_ok ha ?_
    refine rn1 @h1 ?_
    refine HO_pureA ty_ok hb ?_
    refine rn1 @h2 ?_
    refine HO_pureA ty_ok hp ?_
    exact rz1 (jn @h3 @e)
  | true =>
  by_cases h4 : f.l.length ≤ 48
  · have g4 : ¬ (f.l.length : Int) > 48 := by omega
    have eF : chkE f = if f.l.all goodC then 0 else 40 := by simp [chkE, chkF, h1, h2, h3, h4]
    refine rn1 @fctE.eq_1 ?_
    refine HO_pureA ty_ok ha ?_
    refine rn1 @h1 ?_
    refine HO_pureA ty_ok hb ?_
    refine rn1 @h2 ?_
    refine HO_pureA ty_ok hp ?_
    refine rn1 (jn @h3 @g4) ?_
    refine HC_loopR (rckSt f) (fun _ => rckRe f) (fun i => i ≤ f.l.length ∧ (f.l.drop i).all goodC = f.l.all goodC) (fun i => f.l.length - i) 0 [0] [] ⟨by omega, by simp⟩ ?_ ?_
    · exact ft1 (jn @rckSt.eq_1 (jn @rckRe.eq_1 @fctE.eq_1))
    intro i ⟨hi1, hi2⟩
    refine HC_of_R ty_ok ?_
    by_cases hlt : i < f.l.length
    · have hi : (i : Int) < f.l.length := by omega
      rw [all_drop goodC f.l i hlt] at hi2
      have hd := flatE_drop cstE_len f.l i hlt
      have hle := flatE_len cstE_len f.l
      have hg := rfgood_ac f.l[i]
      generalize f.l[i] = c at *
      simp only [cstE, List.cons_append, List.nil_append] at hd
      refine rn1 (jn @rckSt.eq_1 (jn @rckRe.eq_1 (jn @fctE.eq_1 (jn @hi (jn @hd (jn @hle @cstE.eq_1)))))) ?_
      (repeat (refine And.intro (by omega) ?_))
      refine HO_pureA ty_ok hg ?_
      cases hc : goodC c with
      | true =>
        rw [hc, Bool.true_and] at hi2
        refine rn0 ?_
        (repeat (refine And.intro (by omega) ?_))
        refine ⟨i + 1, ⟨by omega, hi2⟩, by omega, [0], [], ?_⟩
        exact ft1 (jn @rckSt.eq_1 (jn @rckRe.eq_1 @fctE.eq_1))
      | false =>
        rw [hc, Bool.false_and] at hi2
        refine rn1 @eF ?_
        rw [← hi2]; rfl
    · have hi : ¬ (i : Int) < f.l.length := by omega
      rw [List.drop_of_length_le (by omega)] at hi2
      refine rn1 (jn @rckSt.eq_1 (jn @rckRe.eq_1 (jn @fctE.eq_1 (jn @hi @eF)))) ?_
      rw [← hi2]; rfl
  · have g4 : (f.l.length : Int) > 48 := by omega
    have e := chkE_no (f := f) (by simp [chkF, h4])
    refine rn1 @fctE.eq_1 ?_
    refine HO_pureA ty_ok ha ?_
    refine rn1 @h1 ?_
    refine HO_pureA ty_ok hb ?_
    refine rn1 @h2 ?_
    refine HO_pureA ty_ok hp ?_
    exact rz1 (jn @h3 (jn @g4 @e))
end Go.Proofs.Ythdjblfiiogmgaa

set_option linter.unusedVariables false
set_option linter.unusedSimpArgs false
set_option maxRecDepth 100000
namespace Go.Proofs.Ythdjblfiiogmgaa
open Go Go.ChangeShapes Go.WideShapes
def txC (a b : ByteArray) : Int := if Op.bytesLess a.toList b.toList = true then -1 else if a = b then 0 else 1
def cmpI (a b : Int) : Int := if a < b then -1 else if b < a then 1 else 0
def cstC (a b : Cst) : Int := if a.num = b.num then (if cmpI a.n b.n = 0 then txC a.s b.s else cmpI a.n b.n) else if a.num then -1 else 1
def argC : List Cst → List Cst → Int
  | [], [] => 0
  | [], _ :: _ => -1
  | _ :: _, [] => 1
  | a :: l, b :: m => if cstC a b = 0 then argC l m else cstC a b
def ordC (a b : Fct) : Int := if a.a = b.a then (if a.b = b.b then (if a.p = b.p then argC a.l b.l else txC a.p b.p) else txC a.b b.b) else txC a.a b.a
theorem btf : (true == false) = false := rfl
theorem bft : (false == true) = false := rfl
theorem less_irr : ∀ l : List UInt8, Op.bytesLess l l = false
  | [] => rfl
  | a :: l => by simp [Op.bytesLess, less_irr l]
theorem txC_zero {a b : ByteArray} : txC a b = 0 ↔ a = b := by
  unfold txC
  constructor
  · intro h
    split at h
    · cases h
    · split at h
      · assumption
      · cases h
  · rintro rfl
    rw [less_irr]; simp
theorem cmpI_zero {a b : Int} : cmpI a b = 0 ↔ a = b := by unfold cmpI; split <;> (try split) <;> omega
theorem cstC_zero {a b : Cst} : cstC a b = 0 ↔ a = b := by
  obtain ⟨q, n, s⟩ := a
  obtain ⟨q', n', s'⟩ := b
  simp only [cstC, Cst.mk.injEq]
  by_cases hq : q = q'
  · rw [if_pos hq]
    by_cases hn : n = n'
    · rw [if_pos (cmpI_zero.2 hn), txC_zero]; simp [hq, hn]
    · have := fun h => hn (cmpI_zero.1 h)
      rw [if_neg this]; simp only [hn, false_and, and_false, iff_false]; exact this
  · rw [if_neg hq]
    constructor
    · intro h; split at h <;> cases h
    · intro h; exact absurd h.1 hq
theorem argC_zero : ∀ {l m : List Cst}, argC l m = 0 ↔ l = m
  | [], [] => by simp [argC]
  | [], _ :: _ => by simp [argC]
  | _ :: _, [] => by simp [argC]
  | a :: l, b :: m => by
    rw [argC]
    by_cases h : cstC a b = 0
    · rw [if_pos h, argC_zero, cstC_zero.1 h]; simp
    · rw [if_neg h]
      simp only [List.cons.injEq]
      exact ⟨fun k => absurd k h, fun k => absurd (cstC_zero.2 k.1) h⟩
theorem ordC_zero {a b : Fct} : ordC a b = 0 ↔ a = b := by
  obtain ⟨x, y, z, l⟩ := a
  obtain ⟨x', y', z', l'⟩ := b
  simp only [ordC, Fct.mk.injEq]
  by_cases h1 : x = x'
  · by_cases h2 : y = y'
    · by_cases h3 : z = z'
      · rw [if_pos h1, if_pos h2, if_pos h3, argC_zero]; simp [h1, h2, h3]
      · rw [if_pos h1, if_pos h2, if_neg h3, txC_zero]; simp [h3]
    · rw [if_pos h1, if_neg h2, txC_zero]; simp [h2]
  · rw [if_neg h1, txC_zero]; simp [h1]
set_option maxHeartbeats 400000 in
theorem rtexts_ac (a b : ByteArray) : AC Try.prog noG 86 [.d (.c (.string a)), .d (.c (.string b))] [] (fun v r' => v = .d (.c (.int .i64 (txC a b))) ∧ r' = []) := by
  refine AC_of_R (N := 11) (res := [.tmp 4]) ty_ok Try.call86 Try.func86 rfl rfl rfl (Nat.le_of_ble_eq_true rfl) ?_
  cases h : Op.bytesLess a.toList b.toList with
  | true =>
    refine rn1 @h ?_
    simp [txC, h]
  | false =>
    by_cases h2 : a = b
    · refine rn1 (jn @h (jn @h2 @less_irr)) ?_
      rw [txC_zero.2 rfl]
      exact ⟨fun h => by simp at h, fun _ => rfl⟩
    · refine rn1 (jn @h @h2) ?_
      simp [txC, h, h2]
set_option maxHeartbeats 400000 in
theorem nanI_ac (a : Int) : AC Try.prog noG 100 [.d (.c (.int .i64 a))] [] (fun v r' => v = .d (.c (.bool false)) ∧ r' = []) := by
  refine AC_of_R (N := 6) (res := [.tmp 2]) ty_ok Try.call100 Try.func100 rfl rfl rfl (Nat.le_of_ble_eq_true rfl) ?_
  exact rz0
set_option maxHeartbeats 400000 in
theorem nanS_ac (a : ByteArray) : AC Try.prog noG 101 [.d (.c (.string a))] [] (fun v r' => v = .d (.c (.bool false)) ∧ r' = []) := by
  refine AC_of_R (N := 6) (res := [.tmp 2]) ty_ok Try.call101 Try.func101 rfl rfl rfl (Nat.le_of_ble_eq_true rfl) ?_
  exact rz0
set_option maxHeartbeats 400000 in
theorem cmpI_ac (a b : Int) : AC Try.prog noG 94 [.d (.c (.int .i64 a)), .d (.c (.int .i64 b))] [] (fun v r' => v = .d (.c (.int .i64 (cmpI a b))) ∧ r' = []) := by
  refine AC_of_R (N := 20) (res := [.tmp 4]) ty_ok Try.call94 Try.func94 rfl rfl rfl (Nat.le_of_ble_eq_true rfl) ?_
  refine rn0 ?_
  refine HO_pureA ty_ok (nanI_ac a) ?_
  refine rn0 ?_
  refine HO_pureA ty_ok (nanI_ac b) ?_
  by_cases h : a < b
  · refine rn1 @h ?_
    simp [cmpI, h]
  · by_cases h2 : b < a
    · refine rn1 (jn @h @h2) ?_
      simp [cmpI, h, h2]
    · refine rn1 (jn @h @h2) ?_
      simp [cmpI, h, h2]
set_option maxHeartbeats 400000 in
theorem cmpS_ac (a b : ByteArray) : AC Try.prog noG 95 [.d (.c (.string a)), .d (.c (.string b))] [] (fun v r' => v = .d (.c (.int .i64 (txC a b))) ∧ r' = []) := by
  refine AC_of_R (N := 20) (res := [.tmp 4]) ty_ok Try.call95 Try.func95 rfl rfl rfl (Nat.le_of_ble_eq_true rfl) ?_
  refine rn0 ?_
  refine HO_pureA ty_ok (nanS_ac a) ?_
  refine rn0 ?_
  refine HO_pureA ty_ok (nanS_ac b) ?_
  cases h : Op.bytesLess a.toList b.toList with
  | true =>
    refine rn1 @h ?_
    simp [txC, h]
  | false =>
    by_cases h2 : a = b
    · refine rn1 (jn @h (jn @h2 @less_irr)) ?_
      rw [txC_zero.2 rfl]
      exact ⟨fun h => by simp at h, fun _ => rfl⟩
    · refine rn1 (jn @h @h2) ?_
      simp [txC, h, h2]
def iD (l : List Int) : List D := l.map fun n => D.c (.int .i64 n)
theorem iD_len (l : List Int) : (iD l).length = l.length := List.length_map ..
theorem iD_get (l : List Int) (i : Nat) (h : i < l.length) : ((iD l).drop i)[0]? = some (.c (.int .i64 l[i])) := by rw [List.getElem?_drop, Nat.add_zero, iD, List.getElem?_map, List.getElem?_eq_getElem h]; rfl
def orV : List Int → Int
  | [] => 0
  | a :: l => if a = 0 then orV l else a
theorem orV_drop (l : List Int) (i : Nat) (h : i < l.length) : orV (l.drop i) = if l[i] = 0 then orV (l.drop (i + 1)) else l[i] := by rw [List.drop_eq_getElem_cons h, orV]
def orSt (l : List Int) (i : Nat) : List (Nat × AV) := [(3, .d (.c (.int .i64 0))), (6, .d (.sl 1 l.length (iD l))), (7, .d (.c (.int .i64 l.length))), (8, .d (.c (.int .i64 i)))]
set_option maxHeartbeats 400000 in
theorem or_ac (l : List Int) (hl : l.length ≤ 140737488352000) : AC Try.prog noG 93 [.d (.sl 1 l.length (iD l))] [] (fun v r' => v = .d (.c (.int .i64 (orV l))) ∧ r' = []) := by
  refine AC_of_R (N := 18) (res := [.tmp 2]) ty_ok Try.call93 Try.func93 rfl rfl rfl (Nat.le_of_ble_eq_true rfl) ?_
  refine rn0 ?_
  refine HC_loopR (orSt l) (fun _ => []) (fun i => i ≤ l.length ∧ orV (l.drop i) = orV l) (fun i => l.length - i) 0 [] [] ⟨by omega, by simp⟩ ?_ ?_
  · exact ft1 @orSt.eq_1
  intro i ⟨hi1, hi2⟩
  refine HC_of_R ty_ok ?_
  by_cases hlt : i < l.length
  · have hi : (i : Int) < l.length := by omega
    rw [orV_drop l i hlt] at hi2
    have hg := iD_get l i hlt
    have hle := iD_len l
    generalize l[i] = c at *
    by_cases hc : c = 0
    · rw [if_pos hc] at hi2
      refine rn1 (jn @orSt.eq_1 (jn @hi (jn @hg (jn @hle @hc)))) ?_
      (repeat (refine And.intro (by omega) ?_))
      refine ⟨i + 1, ⟨by omega, hi2⟩, by omega, [], [], ?_⟩
      exact ft1 @orSt.eq_1
    · rw [if_neg hc] at hi2
      refine rn1 (jn @orSt.eq_1 (jn @hi (jn @hg (jn @hle (jn @hc @hi2))))) ?_
      omega
  · have hi : ¬ (i : Int) < l.length := by omega
    rw [List.drop_of_length_le (by omega)] at hi2
    refine rn1 (jn @orSt.eq_1 @hi) ?_
    rw [← hi2]; rfl
set_option maxHeartbeats 400000 in
theorem fcmp_ac (a b : Cst) : AC Try.prog noG 77 [.d (.agg (cstE a)), .d (.agg (cstE b))] [] (fun v r' => v = .d (.c (.int .i64 (cstC a b))) ∧ r' = []) := by
  refine AC.pure ?_ (by rintro v rfl; rfl)
  refine AC_of_R (N := 24) (res := [.tmp 4]) ty_ok Try.call77 Try.func77 rfl rfl rfl (Nat.le_of_ble_eq_true rfl) ?_
  obtain ⟨q, n, s⟩ := a
  obtain ⟨q', n', s'⟩ := b
  by_cases hq : q = q'
  · subst hq
    refine rn1 @cstE.eq_1 ?_
    refine HC_order [4] ty_ok mix [0, 1, 2, 3, 5, 6, 7, 8, 4, 9, 10, 11, 12] (by kernel_rfl) rfl _ rfl ?_
    simp only [opl_nil', opl_cons', oplC_some, List.getElem?_toArray, List.getElem?_cons_zero, List.getElem?_cons_succ]
    refine rn0 ?_
    refine HO_pureA ty_ok (cmpI_ac n n') ?_
    refine rn0 ?_
    refine HO_pureA ty_ok (cmpS_ac s s') ?_
    refine rn0 ?_
    refine HO_pureA ty_ok (or_ac [cmpI n n', txC s s'] (by simp)) ?_
    refine rn0 ?_
    simp only [orV, cstC, if_true]
    split
    · split
      · simp_all
      · rfl
    · rfl
  · cases q <;> cases q' <;> first | exact absurd rfl hq | skip
    · refine rn1 (jn @cstE.eq_1 @bft) ?_
      rfl
    · refine rn1 (jn @cstE.eq_1 @btf) ?_
      rfl
set_option maxHeartbeats 400000 in
theorem rfcmp_ac (a b : Cst) : AC Try.prog noG 78 [.d (.agg (cstE a)), .d (.agg (cstE b))] [] (fun v r' => v = .d (.c (.int .i64 (cstC a b))) ∧ r' = []) := by
  refine AC.pure ?_ (by rintro v rfl; rfl)
  refine AC_of_R (N := 34) (res := [.tmp 4]) ty_ok Try.call78 Try.func78 rfl rfl rfl (Nat.le_of_ble_eq_true rfl) ?_
  obtain ⟨q, n, s⟩ := a
  obtain ⟨q', n', s'⟩ := b
  have ht := rtexts_ac s s'
  by_cases h1 : n < n'
  · have e : cmpI n n' = -1 := by simp [cmpI, h1]
    cases q <;> cases q' <;> simp (config := {contextual := true, maxSteps := 1000000, implicitDefEqProofs := false}) (disch := omega) only [↓SA, SB, ST, stops, dstOK, resA, resAll, resOne, resTup, initSt, mkL, gdB, Nat.reduceLT, Nat.reduceEqDiff, Nat.reduceAdd, Nat.reduceMul, Nat.reduceLeDiff, Nat.reduceSub, Int.reduceLT, Int.reduceLE, Int.reduceAdd, Int.reduceSub, Int.reduceMul, Int.reduceToNat, Int.reduceNeg, Int.reduceEq, Int.reduceNe, if_true, if_false, ite_true, ite_false, ↓reduceIte, reduceCtorEq, forall_const, implies_true, eq_self, ne_eq, ren, renL, renM, renRes, putAll, cstE, h1] <;> simp [cstC, e]
  · by_cases h2 : n' < n
    · have e : cmpI n n' = 1 := by simp [cmpI, h1, h2]
      cases q <;> cases q' <;> simp (config := {contextual := true, maxSteps := 1000000, implicitDefEqProofs := false}) (disch := omega) only [↓SA, SB, ST, stops, dstOK, resA, resAll, resOne, resTup, initSt, mkL, gdB, Nat.reduceLT, Nat.reduceEqDiff, Nat.reduceAdd, Nat.reduceMul, Nat.reduceLeDiff, Nat.reduceSub, Int.reduceLT, Int.reduceLE, Int.reduceAdd, Int.reduceSub, Int.reduceMul, Int.reduceToNat, Int.reduceNeg, Int.reduceEq, Int.reduceNe, if_true, if_false, ite_true, ite_false, ↓reduceIte, reduceCtorEq, forall_const, implies_true, eq_self, ne_eq, ren, renL, renM, renRes, putAll, cstE, h1, h2] <;> simp [cstC, e]
    · have e : cmpI n n' = 0 := by simp [cmpI, h1, h2]
      cases q <;> cases q' <;> simp (config := {contextual := true, maxSteps := 1000000, implicitDefEqProofs := false}) (disch := omega) only [↓SA, SB, ST, stops, dstOK, resA, resAll, resOne, resTup, initSt, mkL, gdB, Nat.reduceLT, Nat.reduceEqDiff, Nat.reduceAdd, Nat.reduceMul, Nat.reduceLeDiff, Nat.reduceSub, Int.reduceLT, Int.reduceLE, Int.reduceAdd, Int.reduceSub, Int.reduceMul, Int.reduceToNat, Int.reduceNeg, Int.reduceEq, Int.reduceNe, if_true, if_false, ite_true, ite_false, ↓reduceIte, reduceCtorEq, forall_const, implies_true, eq_self, ne_eq, ren, renL, renM, renRes, putAll, cstE, h1, h2]
      · refine HO_pureA ty_ok ht ?_
        refine rn0 ?_
        simp [cstC, e]
      · simp [cstC, e]
      · simp [cstC, e]
      · refine HO_pureA ty_ok ht ?_
        refine rn0 ?_
        simp [cstC, e]
def orfSt (f g : Fct) (i : Nat) : List (Nat × AV) := [(2, .ptr 0 0), (3, .ptr 1 0), (5, .d (.c (.int .i64 i)))]
def orfRe (f g : Fct) : Rs := [some (.obj ((fctE f).map .d)), some (.obj ((fctE g).map .d))]
theorem argC_drop (l m : List Cst) (i : Nat) (h1 : i < l.length) (h2 : i < m.length) : argC (l.drop i) (m.drop i) = if cstC l[i] m[i] = 0 then argC (l.drop (i + 1)) (m.drop (i + 1)) else cstC l[i] m[i] := by
  rw [List.drop_eq_getElem_cons h1, List.drop_eq_getElem_cons h2, argC]
theorem argC_end (l m : List Cst) (i : Nat) (h : ¬ (i < l.length ∧ i < m.length)) (hi : i ≤ l.length) (hj : i ≤ m.length) : argC (l.drop i) (m.drop i) = if l.length < m.length then -1 else if m.length < l.length then 1 else 0 := by
  by_cases h1 : i < l.length
  · rw [List.drop_of_length_le (l := m) (by omega), List.drop_eq_getElem_cons h1, argC, if_neg (by omega), if_pos (by omega)]
  · rw [List.drop_of_length_le (l := l) (by omega)]
    by_cases h2 : i < m.length
    · rw [List.drop_eq_getElem_cons h2, argC, if_pos (by omega)]
    · rw [List.drop_of_length_le (l := m) (by omega), argC, if_neg (by omega), if_neg (by omega)]
set_option maxHeartbeats 400000 in
theorem rord_ac (f g : Fct) (hf : f.l.length ≤ 140737488352000) (hg : g.l.length ≤ 140737488352000) : AC Try.prog noG 60 [.d (.agg (fctE f)), .d (.agg (fctE g))] [] (fun v r' => v = .d (.c (.int .i64 (ordC f g))) ∧ r' = []) := by
  refine AC.pure ?_ (by rintro v rfl; rfl)
  refine AC_of_R (N := 79) (res := [.tmp 4]) ty_ok Try.call60 Try.func60 rfl rfl rfl (Nat.le_of_ble_eq_true rfl) ?_
  by_cases h1 : f.a = g.a
  · by_cases h2 : f.b = g.b
    · by_cases h3 : f.p = g.p
      · have e : ordC f g = argC f.l g.l := by simp [ordC, h1, h2, h3]
        refine rn1 (jn @fctE.eq_1 (jn @h1 (jn @h2 (jn @h3 @e)))) ?_
        refine HC_loopR (orfSt f g) (fun _ => orfRe f g) (fun i => i ≤ f.l.length ∧ i ≤ g.l.length ∧ argC (f.l.drop i) (g.l.drop i) = argC f.l g.l) (fun i => f.l.length - i) 0 [0, 1] [] ⟨by omega, by omega, by simp⟩ ?_ ?_
        · exact ft1 (jn @orfSt.eq_1 (jn @orfRe.eq_1 (jn @fctE.eq_1 (jn @h1 (jn @h2 @h3)))))
        intro i ⟨hi1, hi2, hi3⟩
        refine HC_of_R ty_ok ?_
        by_cases hl : i < f.l.length
        · have hl' : (i : Int) < f.l.length := by omega
          by_cases hm : i < g.l.length
          · have hm' : (i : Int) < g.l.length := by omega
            rw [argC_drop f.l g.l i hl hm] at hi3
            have hd := flatE_drop cstE_len f.l i hl
            have hle := flatE_len cstE_len f.l
            have hd2 := flatE_drop cstE_len g.l i hm
            have hle2 := flatE_len cstE_len g.l
            have hc := rfcmp_ac f.l[i] g.l[i]
            generalize f.l[i] = c at *
            generalize g.l[i] = d at *
            simp only [cstE, List.cons_append, List.nil_append] at hd hd2 hc
            refine rn1 (jn @orfSt.eq_1 (jn @orfRe.eq_1 (jn @fctE.eq_1 (jn @hl' @hm')))) ?_
            refine HC_plan [] ty_ok mix (by kernel_rfl) ?_
            refine rn1 (jn @hd (jn @hle (jn @hd2 @hle2))) ?_
            (repeat (refine And.intro (by omega) ?_))
            refine HO_pureA ty_ok hc ?_
            generalize cstC c d = z at *
            by_cases hz : z = 0
            · rw [if_pos hz] at hi3
              refine rn1 @hz ?_
              (repeat (refine And.intro (by omega) ?_))
              refine ⟨i + 1, ⟨by omega, by omega, hi3⟩, by omega, [0, 1], [], ?_⟩
              exact ft1 (jn @orfSt.eq_1 (jn @orfRe.eq_1 @fctE.eq_1))
            · rw [if_neg hz] at hi3
              exact rz1 (jn @hz @hi3)
          · have hm' : ¬ (i : Int) < g.l.length := by omega
            have ee := argC_end f.l g.l i (by omega) (by omega) (by omega)
            have k1 : ¬ (f.l.length : Int) < g.l.length := by omega
            have k2 : (g.l.length : Int) < f.l.length := by omega
            rw [hi3, if_neg (by omega), if_pos (by omega)] at ee
            exact rz1 (jn @orfSt.eq_1 (jn @orfRe.eq_1 (jn @fctE.eq_1 (jn @hl' (jn @hm' (jn @k1 (jn @k2 @ee)))))))
        · have hl' : ¬ (i : Int) < f.l.length := by omega
          have ee := argC_end f.l g.l i (by omega) (by omega) (by omega)
          by_cases k1 : f.l.length < g.l.length
          · have k1' : (f.l.length : Int) < g.l.length := by omega
            rw [hi3, if_pos k1] at ee
            exact rz1 (jn @orfSt.eq_1 (jn @orfRe.eq_1 (jn @fctE.eq_1 (jn @hl' (jn @k1' @ee)))))
          · have k1' : ¬ (f.l.length : Int) < g.l.length := by omega
            have k2' : ¬ (g.l.length : Int) < f.l.length := by omega
            rw [hi3, if_neg k1, if_neg (by omega)] at ee
            exact rz1 (jn @orfSt.eq_1 (jn @orfRe.eq_1 (jn @fctE.eq_1 (jn @hl' (jn @k1' (jn @k2' @ee))))))
      · have e : ordC f g = txC f.p g.p := by simp [ordC, h1, h2, h3]
        have ht := rtexts_ac f.p g.p
        refine rn1 (jn @fctE.eq_1 (jn @h1 (jn @h2 @h3))) ?_
        refine HO_pureA ty_ok ht ?_
        exact rz1 @e
    · have e : ordC f g = txC f.b g.b := by simp [ordC, h1, h2]
      have ht := rtexts_ac f.b g.b
      refine rn1 (jn @fctE.eq_1 (jn @h1 @h2)) ?_
      refine HO_pureA ty_ok ht ?_
      exact rz1 @e
  · have e : ordC f g = txC f.a g.a := by simp [ordC, h1]
    have ht := rtexts_ac f.a g.a
    refine rn1 (jn @fctE.eq_1 @h1) ?_
    refine HO_pureA ty_ok ht ?_
    exact rz1 @e
end Go.Proofs.Ythdjblfiiogmgaa

set_option linter.unusedVariables false
set_option linter.unusedSimpArgs false
set_option maxRecDepth 100000
namespace Go.Proofs.Ythdjblfiiogmgaa
open Go Go.ChangeShapes Go.WideShapes
/-! slices.Clone over rows that may be written: what it makes is a row of the call's own, with its capacity. -/
def zCs : List D := [.c (.bool false), .c (.int .i64 0), .c (.string ⟨#[]⟩)]
def zFc : List D := [.c (.string ⟨#[]⟩), .c (.string ⟨#[]⟩), .c (.string ⟨#[]⟩), .c (.slice none 0 0)]
def repD (zd : List D) : Nat → List D
  | 0 => []
  | k + 1 => zd ++ repD zd k
theorem repD_len (zd : List D) : ∀ k, (repD zd k).length = k * zd.length
  | 0 => by simp [repD]
  | k + 1 => by rw [repD, List.length_append, repD_len zd k, Nat.succ_mul, Nat.add_comm]
theorem repA_map (zd : List D) : ∀ k, repA (zd.map .d) k = (repD zd k).map .d
  | 0 => rfl
  | k + 1 => by rw [repA, repD, repA_map zd k, List.map_append]
/-- A slice with its row. -/
def cslO (sz n : Nat) (xs : List D) (v : AV) (r' : Rs) : Prop := ∃ (k : Nat) (zs : List D), zs.length = k * sz ∧ v = .csl 0 0 sz n (n + k) ∧ r' = [some (.obj ((xs ++ zs).map .d))]
theorem cslO_lay {sz n : Nat} {xs : List D} (hx : xs.length = n * sz) (h0 : 0 < n) {f : FuncId} {P : Program} {G : GR} {args : List AV} {r : Rs} (h : AC P G f args r (cslO sz n xs)) : AC P G f args r (fun v r' => v = .d (.sl sz n xs) ∧ r' = [none]) :=
  h.lay fun v r' ⟨k, zs, hz, hv, hr⟩ => ⟨0, (xs ++ zs).map .d, xs ++ zs, by rw [hr]; rfl, allD_map _, by
    rw [hv, hr]
    refine ⟨?_, rfl⟩
    simp only [fzA]
    rw [if_pos ⟨trivial, by omega⟩, List.drop_zero, ← hx, List.take_left]⟩
set_option maxHeartbeats 400000 in
theorem cloneF_ac (n : Nat) (xs : List D) (hx : xs.length = n * 4) (h0 : 0 < n) (h : n ≤ 1000000) :
    AC Try.prog noG 57 [.d (.sl 4 n xs)] [] (cslO 4 n xs) := by
  skip
  refine AC_of_R (N := 8) (res := [.tmp 2]) tyL_ok Try.call57 Try.func57 rfl rfl rfl (Nat.le_of_ble_eq_true rfl) ?_
  have hp : 0 < xs.length := by omega
  refine rn1 @hp ?_
  refine HO_appE tyL_ok (e := 32) (sz := 4) (m := n) (ys := xs) (zl := zFc.map .d) rfl (by simp only [ST]) (by simp only [ST]; rfl) ⟨by simp only [ST], by simp only [ST]⟩ rfl rfl (by simp only [ST]; rfl) (by decide) h0 (by omega) (by simp only [ST]; omega) (by kernel_rfl) fun k => ?_
  refine rn0 ?_
  exact ⟨k, repD zFc k, repD_len _ _, rfl, by rw [repA_map, List.map_append]⟩
set_option maxHeartbeats 400000 in
theorem cloneC_ac (n : Nat) (xs : List D) (hx : xs.length = n * 3) (h0 : 0 < n) (h : n ≤ 1000000) :
    AC Try.prog noG 55 [.d (.sl 3 n xs)] [] (cslO 3 n xs) := by
  skip
  refine AC_of_R (N := 8) (res := [.tmp 2]) tyL_ok Try.call55 Try.func55 rfl rfl rfl (Nat.le_of_ble_eq_true rfl) ?_
  have hp : 0 < xs.length := by omega
  refine rn1 @hp ?_
  refine HO_appE tyL_ok (e := 85) (sz := 3) (m := n) (ys := xs) (zl := zCs.map .d) rfl (by simp only [ST]) (by simp only [ST]; rfl) ⟨by simp only [ST], by simp only [ST]⟩ rfl rfl (by simp only [ST]; rfl) (by decide) h0 (by omega) (by simp only [ST]; omega) (by kernel_rfl) fun k => ?_
  refine rn0 ?_
  exact ⟨k, repD zCs k, repD_len _ _, rfl, by rw [repA_map, List.map_append]⟩
end Go.Proofs.Ythdjblfiiogmgaa
