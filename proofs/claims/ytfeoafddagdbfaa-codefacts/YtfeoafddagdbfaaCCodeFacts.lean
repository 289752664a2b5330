import Derived.Test.YtfeoafddagdbfaaCCLive
import Derived.Test.YtfeoafddagdbfaaCWtF
import Derived.Test.YtfeoafddagdbfaaCLent
import Derived.Test.YtfeoafddagdbfaaCRRdF
set_option linter.unusedVariables false
set_option linter.unusedSimpArgs false
set_option maxRecDepth 100000
namespace Go.Proofs.Ytfeoafddagdbfaa
open Go Go.ChangeShapes Go.WideShapes
theorem szF_len {f : Fct} (h : szF f) : f.l.length ≤ 140737488352000 := h.2.2.2.1
set_option maxHeartbeats 1000000 in
theorem codeFacts_ac (f : Fct) (b : List UInt8) (k : Int) (ho : okF f) (hs : szF f) (hb : b.length ≤ 140737488355000) (h0 : -9223372036854775808 ≤ k) (h1 : k ≤ 9223372036854775807) :
    AC Try.prog noG 6 [.d (.agg (fctE f)), .d (.sl 1 b.length (bD b)), .d (.c (.int .i64 k))] [] (fun v r' => v = .d (.c (.bool true)) ∧ r' = []) := by
  refine AC.pure ?_ (by rintro v rfl; rfl)
  refine AC_of_R (N := 88) (res := [.tmp 6]) ty_ok Try.call6 Try.func6 rfl rfl rfl (Nat.le_of_ble_eq_true rfl) ?_
  have hf := szF_len hs
  have hw := wF_ac [f] 200 (by simp) (by intro x hx; simp only [List.mem_cons, List.not_mem_nil, or_false] at hx; rw [hx]; exact hs) (by decide) (by decide)
  refine rn1 @fctE.eq_1 ?_
  refine HO_callX ty_ok [] hw (trivial) rfl ?_
  rintro v r' ⟨⟨n, rfl, _⟩, rfl⟩ _
  by_cases hn : n > 200
  · refine rn1 @hn ?_
    refine HO_pureA ty_ok clive_ac ?_
    exact rz0
  by_cases hb3 : b.length ≤ 3000
  · have g3 : ¬ (b.length : Int) > 3000 := by omega
    have p1 := putF_dat b f ho hf (by omega)
    have p2 := rputF_dat b f ho hf (by omega)
    have q1 := fact_ac b k (by omega) h0 h1
    have q2 := rrfact_ac b k (by omega) h0 h1
    have hl := rdF_len (b := b) (k := k)
    have ps := putFR_len (b := b) ho
    have sm := same_ac (putFR b f) (putFR b f) (by omega) (by omega)
    have od := rord_ac (rdF b k).1 (rdF b k).1 (by omega) (by omega)
    rw [ordC_zero.2 rfl] at od
    rw [decide_eq_true rfl] at sm
    generalize putFR b f = pb at *
    generalize rdF b k = t at *
    obtain ⟨g, nx, er⟩ := t
    simp only [fcV, fctE] at q1 q2 od p1 p2
    refine rn1 (jn @hn @g3) ?_
    refine HO_pureA ty_ok (lent_ac b (by omega)) ?_
    refine rn0 ?_
    refine HO_pureA ty_ok p1 ?_
    refine rn0 ?_
    refine HO_pureA ty_ok p2 ?_
    refine rn0 ?_
    refine HO_pureA ty_ok q1 ?_
    refine rn0 ?_
    refine HO_pureA ty_ok q2 ?_
    refine rn0 ?_
    refine HO_pureA ty_ok sm ?_
    refine rn0 ?_
    refine HO_pureA ty_ok od ?_
    refine rn0 ?_
    refine HO_pureA ty_ok (kept_ac b (by omega)) ?_
    refine rn0 ?_
    refine HO_pureA ty_ok clive_ac ?_
    exact rz0
  · have g3 : (b.length : Int) > 3000 := by omega
    refine rn1 (jn @hn @g3) ?_
    refine HO_pureA ty_ok clive_ac ?_
    exact rz0
end Go.Proofs.Ytfeoafddagdbfaa
