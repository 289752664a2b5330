import Derived.Test.YtfeoafddagdbfaaCCLive
import Derived.Test.YtfeoafddagdbfaaCWtF
import Derived.Test.YtfeoafddagdbfaaCTrip
set_option linter.unusedVariables false
set_option linter.unusedSimpArgs false
set_option maxRecDepth 100000
namespace Go.Proofs.Ytfeoafddagdbfaa
open Go Go.ChangeShapes Go.WideShapes
theorem WF_pos (f : Fct) : 0 < (WF f).length := by
  unfold WF
  rw [List.length_append, putTx_len]
  have : 0 < (leb (zig (f.a.size : Int))).length := by
    rw [leb]; split <;> simp
  omega
theorem WF_pre {f g : Fct} (hf : chkF f = true) (hg : chkF g = true) (of : okF f) (og : okF g) (h : (WF g).take (WF f).length = WF f) : f = g := by
  have h1 : At (WF g) 0 (WF g) ((WF g).length : Nat) := ⟨0, rfl, by omega, by omega, by simp⟩
  have hl : (WF f).length ≤ (WF g).length := by
    have := congrArg List.length h
    rw [List.length_take] at this
    omega
  have h2 : At (WF g) 0 (WF f) ((WF f).length : Nat) := ⟨0, rfl, by omega, by omega, by simpa using h⟩
  have e1 := rdF_at hg og h1
  have e2 := rdF_at hf of h2
  rw [e1] at e2
  injection e2 with e2
  exact e2.symm
theorem WF_apart {f g : Fct} (hf : chkF f = true) (hg : chkF g = true) (of : okF f) (og : okF g) {k : Nat} (hk : k = min (WF f).length (WF g).length) : decide ((WF f).take k = (WF g).take k) = decide (f = g) := by
  by_cases h : f = g
  · subst h; simp
  · rw [decide_eq_false h, decide_eq_false]
    intro hh
    by_cases hle : (WF f).length ≤ (WF g).length
    · have e : k = (WF f).length := by omega
      rw [e, List.take_of_length_le (Nat.le_refl _)] at hh
      exact h (WF_pre hf hg of og hh.symm)
    · have e : k = (WF g).length := by omega
      rw [e, List.take_of_length_le (l := WF g) (Nat.le_refl _)] at hh
      exact h (WF_pre hg hf og of hh).symm
set_option maxHeartbeats 1000000 in
theorem codeApart_ac (f g : Fct) (of : okF f) (og : okF g) (sf : szF f) (sg : szF g) :
    AC Try.prog noG 5 [.d (.agg (fctE f)), .d (.agg (fctE g))] [] (fun v r' => v = .d (.c (.bool true)) ∧ r' = []) := by
  refine AC.pure ?_ (by rintro v rfl; rfl)
  refine AC_of_R (N := 62) (res := [.tmp 4]) ty_ok Try.call5 Try.func5 rfl rfl rfl (Nat.le_of_ble_eq_true rfl) ?_
  have hf := sf.2.2.2.1
  have hg := sg.2.2.2.1
  have hw := wF_ac [f, g] 300 (by simp) (by intro x hx; simp only [List.mem_cons, List.not_mem_nil, or_false] at hx; rcases hx with rfl | rfl <;> assumption) (by decide) (by decide)
  have p1 := putF_dat [] f of hf (by simp)
  have p2 := putF_dat [] g og hg (by simp)
  have h4 := sfact_ac f g hf hg
  simp only [fctE] at p1 p2 h4
  refine rn1 @fctE.eq_1 ?_
  refine HO_callX ty_ok [] hw (trivial) rfl ?_
  rintro v r' ⟨⟨n, rfl, _⟩, rfl⟩ _
  by_cases hn : n > 300
  · refine rn1 @hn ?_
    refine HO_pureA ty_ok clive_ac ?_
    exact rz0
  refine rn1 @hn ?_
  refine HO_pureA ty_ok p1 ?_
  refine rn0 ?_
  refine HO_pureA ty_ok p2 ?_
  by_cases cf : chkF f = true
  · have e1 : putFR [] f = WF f := by rw [putFR, if_pos cf, putF_app, List.nil_append]
    rw [chkE_ok cf, e1]
    by_cases cg : chkF g = true
    · have e2 : putFR [] g = WF g := by rw [putFR, if_pos cg, putF_app, List.nil_append]
      rw [chkE_ok cg, e2]
      have hap := WF_apart cf cg of og (k := min (WF f).length (WF g).length) rfl
      have l1 := WF_pos f
      have l2 := WF_pos g
      have b1 := putFR_len (b := []) of
      have b2 := putFR_len (b := []) og
      rw [e1] at b1
      rw [e2] at b2
      simp only [List.length_nil] at b1 b2
      generalize WF f = x at *
      generalize WF g = y at *
      obtain ⟨k, hk⟩ : ∃ k, k = min x.length y.length := ⟨_, rfl⟩
      rw [← hk] at hap
      have hk1 : k ≤ x.length := by omega
      have hk2 : k ≤ y.length := by omega
      have hk0 : 0 < k := by omega
      have hmin : (if (y.length : Int) < (x.length : Int) then (y.length : Int) else (x.length : Int)) = (k : Int) := by split <;> omega
      have sm := same_ac (x.take k) (y.take k) (by rw [List.length_take]; omega) (by rw [List.length_take]; omega)
      rw [hap, List.length_take, List.length_take, Nat.min_eq_left hk1, Nat.min_eq_left hk2] at sm
      have hk0' : 0 < (k : Int) := by omega
      refine rn1 @hmin ?_
      refine HC_order [9] ty_ok mix [0, 1, 2, 3, 4, 5, 6, 7, 8, 10, 11, 9, 12, 13, 14, 15, 16, 17, 18] (by kernel_rfl) rfl _ rfl ?_
      simp only [opl_nil', opl_cons', oplC_some, List.getElem?_toArray, List.getElem?_cons_zero, List.getElem?_cons_succ]
      refine rn1 @hk0' ?_
      (repeat (refine And.intro (by omega) ?_))
      refine HO_pureA ty_ok sm ?_
      refine rn0 ?_
      refine HO_pureA ty_ok h4 ?_
      by_cases hfg : f = g
      · refine rn1 @hfg ?_
        refine HO_pureA ty_ok clive_ac ?_
        exact rz0
      · refine rn1 @hfg ?_
        refine HO_pureA ty_ok clive_ac ?_
        exact rz0
    · rw [chkE_no cg]
      have l1 := WF_pos f
      have l1' : ¬ ((WF f).length : Int) = 0 := by omega
      exact rz1 @l1'
  · have e1 : putFR [] f = [] := by rw [putFR, if_neg cf]
    rw [chkE_no cf, e1]
    exact rz0
end Go.Proofs.Ytfeoafddagdbfaa
