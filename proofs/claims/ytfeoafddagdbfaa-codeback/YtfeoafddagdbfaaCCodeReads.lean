import Derived.Test.YtfeoafddagdbfaaCCLive
import Derived.Test.YtfeoafddagdbfaaCSameR
import Derived.Test.YtfeoafddagdbfaaCLent
set_option linter.unusedVariables false
set_option linter.unusedSimpArgs false
set_option maxRecDepth 100000
namespace Go.Proofs.Ytfeoafddagdbfaa
open Go Go.ChangeShapes Go.WideShapes
theorem dec_sz {b : List UInt8} : (decE b (dec0 (dcC b) b)).1.length ≤ 768 ∧ ∀ r ∈ (decE b (dec0 (dcC b) b)).1, szR r := by
  have h1 : (dec0 (dcC b) b).1.length ≤ 768 := by
    refine Nat.le_trans (rdG_len _ _ _ _) ?_
    exact Int.toNat_le.2 (rdC_most (by decide))
  have h2 : ∀ r ∈ (dec0 (dcC b) b).1, szR r := rdG_all (one := dcC b) (p := szR) (fun k e o => (rdRul_sz : szR (rdRul (badC b) b k e false).1)) _ _ _ _
  unfold decE
  split
  · split
    · exact ⟨Nat.zero_le _, fun r h => by simp at h⟩
    · exact ⟨h1, h2⟩
  · exact ⟨Nat.zero_le _, fun r h => by simp at h⟩
set_option maxHeartbeats 1000000 in
theorem codeReads_ac (b : List UInt8) (hb : b.length ≤ 140737488355000) : AC Try.prog noG 4 [.d (.sl 1 b.length (bD b))] [] (fun v r' => v = .d (.c (.bool true)) ∧ r' = []) := by
  refine AC.pure ?_ (by rintro v rfl; rfl)
  refine AC_of_R (N := 40) (res := [.tmp 2]) ty_ok Try.call4 Try.func4 rfl rfl rfl (Nat.le_of_ble_eq_true rfl) ?_
  by_cases hb3 : b.length ≤ 3000
  · have g3 : ¬ (b.length : Int) > 3000 := by omega
    have h1 := dec_ac b (by omega)
    have h2 := rdec_ac b (by omega)
    rw [← dec_same (by omega)] at h2
    have hs := dec_sz (b := b)
    generalize decE b (dec0 (dcC b) b) = t at *
    obtain ⟨l, e⟩ := t
    simp only [deV] at h1 h2 hs
    have h3 := like_ac l l (by omega) (by omega) hs.2 hs.2
    rw [decide_eq_true rfl] at h3
    refine rn1 @g3 ?_
    refine HO_pureA ty_ok (lent_ac b (by omega)) ?_
    refine rn0 ?_
    refine HO_pureA ty_ok h1 ?_
    refine rn0 ?_
    refine HO_pureA ty_ok h2 ?_
    refine rn0 ?_
    refine HO_pureA ty_ok h3 ?_
    refine rn0 ?_
    refine HO_pureA ty_ok (kept_ac b (by omega)) ?_
    refine rn0 ?_
    refine HO_pureA ty_ok clive_ac ?_
    exact rz0
  · have g3 : (b.length : Int) > 3000 := by omega
    refine rn1 @g3 ?_
    refine HO_pureA ty_ok clive_ac ?_
    exact rz0
end Go.Proofs.Ytfeoafddagdbfaa
