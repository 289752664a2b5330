import Derived.Test.YtfeoafddagdbfaaCCLive
import Derived.Test.YtfeoafddagdbfaaCSameR
set_option linter.unusedVariables false
set_option linter.unusedSimpArgs false
set_option maxRecDepth 100000
namespace Go.Proofs.Ytfeoafddagdbfaa
open Go Go.ChangeShapes Go.WideShapes
def rul2 (a b : Rul) : List D := rulE a ++ rulE b
set_option maxHeartbeats 1000000 in
theorem codeSames_ac (f g : Fct) (a b : Rul) (hf : f.l.length ≤ 140737488352000) (hg : g.l.length ≤ 140737488352000) (ha : szR a) (hb : szR b) :
    AC Try.prog noG 9 [.d (.agg (fctE f)), .d (.agg (fctE g)), .d (.agg (rul2 a b))] [] (fun v r' => v = .d (.c (.bool true)) ∧ r' = []) := by
  refine AC.pure ?_ (by rintro v rfl; rfl)
  refine AC_of_R (N := 38) (res := [.tmp 6]) ty_ok Try.call9 Try.func9 rfl rfl rfl (Nat.le_of_ble_eq_true rfl) ?_
  have h1 := sfact_ac f g hf hg
  have h2 := rord_ac f g hf hg
  have h3 := sRul_ac a b ha hb
  have h4 := rsRul_ac a b ha hb
  have h5 := sRul_ac a a ha ha
  rw [decide_eq_true rfl] at h5
  simp only [fctE] at h1 h2
  simp only [rulE] at h3 h4 h5
  have hz : decide (f = g) = decide (ordC f g = 0) := by
    by_cases h : f = g
    · rw [decide_eq_true h, decide_eq_true (ordC_zero.2 h)]
    · rw [decide_eq_false h, decide_eq_false (fun hh => h (ordC_zero.1 hh))]
  rw [hz] at h1
  generalize ordC f g = z at *
  refine rn1 (jn @fctE.eq_1 (jn @rul2.eq_1 @rulE.eq_1)) ?_
  refine HC_order [2, 13] ty_ok mix (0 :: 1 :: 3 :: 4 :: 2 :: 5 :: 6 :: 7 :: 8 :: 9 :: 10 :: 11 :: 12 :: 14 :: 15 :: 16 :: 17 :: 13 :: 18 :: 19 :: 20 :: 21 :: 22 :: 23 :: 24 :: 25 :: 26 :: 27 :: 28 :: 29 :: 30 :: 31 :: []) (by kernel_rfl) rfl _ rfl ?_
  simp only [opl_nil', opl_cons', oplC_some, List.getElem?_toArray, List.getElem?_cons_zero, List.getElem?_cons_succ]
  refine rn0 ?_
  refine HO_pureA ty_ok h1 ?_
  refine rn0 ?_
  refine HO_pureA ty_ok h2 ?_
  by_cases hzz : z = 0
  · refine rn1 @hzz ?_
    (repeat (refine And.intro (by omega) ?_))
    refine HO_pureA ty_ok h3 ?_
    refine rn0 ?_
    (repeat (refine And.intro (by omega) ?_))
    refine HO_pureA ty_ok h4 ?_
    by_cases hab : a = b
    · have hd := decide_eq_true hab
      refine rn1 @hd ?_
      (repeat (refine And.intro (by omega) ?_))
      refine HO_pureA ty_ok h5 ?_
      refine rn0 ?_
      refine HO_pureA ty_ok clive_ac ?_
      exact rz0
    · have hd := decide_eq_false hab
      refine rn1 @hd ?_
      (repeat (refine And.intro (by omega) ?_))
      refine HO_pureA ty_ok h5 ?_
      refine rn0 ?_
      refine HO_pureA ty_ok clive_ac ?_
      exact rz0
  · refine rn1 @hzz ?_
    (repeat (refine And.intro (by omega) ?_))
    refine HO_pureA ty_ok h3 ?_
    refine rn0 ?_
    (repeat (refine And.intro (by omega) ?_))
    refine HO_pureA ty_ok h4 ?_
    by_cases hab : a = b
    · have hd := decide_eq_true hab
      refine rn1 @hd ?_
      (repeat (refine And.intro (by omega) ?_))
      refine HO_pureA ty_ok h5 ?_
      refine rn0 ?_
      refine HO_pureA ty_ok clive_ac ?_
      exact rz0
    · have hd := decide_eq_false hab
      refine rn1 @hd ?_
      (repeat (refine And.intro (by omega) ?_))
      refine HO_pureA ty_ok h5 ?_
      refine rn0 ?_
      refine HO_pureA ty_ok clive_ac ?_
      exact rz0
end Go.Proofs.Ytfeoafddagdbfaa
