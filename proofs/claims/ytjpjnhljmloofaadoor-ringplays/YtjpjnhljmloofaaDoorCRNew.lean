import Derived.Test.YtjpjnhljmloofaaDoorCRRing
import Derived.Test.YtjpjnhljmloofaaDoorCRingNew
set_option linter.unusedVariables false
set_option linter.unusedSimpArgs false
set_option maxRecDepth 100000
namespace Go.Proofs.YtjpjnhljmloofaaDoor
open Go Go.ChangeShapes Go.WideShapes
theorem memB_app (s : ByteArray) (x : ByteArray) : ∀ l : List ByteArray, memB s (l ++ [x]) = (memB s l || decide (s = x))
  | [] => by simp [memB]
  | a :: l => by simp [memB, memB_app s x l, Bool.or_assoc]
theorem memB_take (s : ByteArray) (l : List ByteArray) (k : Nat) (h : k < l.length) : memB s (l.take (k + 1)) = (memB s (l.take k) || decide (s = l[k])) := by
  rw [List.take_succ_eq_append_getElem h, memB_app]
theorem memB_iff (s : ByteArray) : ∀ l : List ByteArray, memB s l = true ↔ s ∈ l
  | [] => by simp [memB]
  | a :: l => by simp [memB, memB_iff s l]
theorem memB_ne {s : ByteArray} {l : List ByteArray} {i k : Nat} (h : memB s (l.take i) = false) (hk : k < i) (hl : k < l.length) : ¬ l[k] = s := fun e => by
  have : memB s (l.take i) = true := by
    rw [memB_iff, List.mem_take_iff_getElem]
    exact ⟨k, by omega, e⟩
  rw [h] at this; cases this
def rwSt (n : Int) (l : List ByteArray) (i : Nat) : List (Nat × AV) := [(0, .d (.c (.int .i64 n))), (1, .d (.sl 1 l.length (sD l))), (4, .d (.c (.pointer none))), (5, .d (.c (.int .i64 0))), (6, .d (.c (.int .i64 i)))]
def rwSt2 (n : Int) (l : List ByteArray) (i k : Nat) : List (Nat × AV) := rwSt n l i ++ [(7, .d (.c (.int .i64 k)))]
set_option maxHeartbeats 400000 in
theorem rnew_ok (n : Int) (l : List ByteArray) (h0 : -9223372036854775808 ≤ n) (h1 : n ≤ 9223372036854775807) (h : newE l = 0) :
    AC Tryd.prog noG 29 [.d (.c (.int .i64 n)), .d (.sl 1 l.length (sD l))] [] (fun v r' => v = .tup [.ptr 0 0, .d (.c (.int .i64 0))] ∧ r' = rq n l []) := by
  have hl6 : ¬ 6 < l.length := fun hc => by rw [newE, if_pos hc] at h; exact absurd h (by decide)
  have hl0 : ¬ l.length = 0 := fun hc => by rw [newE, if_neg hl6, if_pos hc] at h; exact absurd h (by decide)
  have hok : okN [] l = true := by
    cases hk : okN [] l with
    | true => rfl
    | false => rw [newE, if_neg hl6, if_neg hl0, hk] at h; exact absurd h (by decide)
  refine AC.fit ?_
  refine AC_of_R (N := 54) (res := [.tmp 4, .tmp 5]) ty_ok Tryd.call29 Tryd.func29 rfl rfl rfl (Nat.le_of_ble_eq_true rfl) ?_
  have g1 : ¬ (l.length : Int) > 6 := by omega
  have g2 : ¬ (l.length : Int) = 0 := by omega
  refine rn1 (jn @g1 @g2) ?_
  refine HC_loopR (rwSt n l) (fun _ => []) (fun i => i ≤ l.length ∧ okN (l.take i) (l.drop i) = true) (fun i => l.length - i) 0 [] [] ⟨by omega, by simpa using hok⟩ ?_ ?_
  · exact ft1 @rwSt.eq_1
  intro i ⟨hi1, hi2⟩
  refine HC_of_R ty_ok ?_
  by_cases hlt : i < l.length
  · have hi : (i : Int) < l.length := by omega
    rw [okN_step l i hlt] at hi2
    simp only [Bool.and_eq_true, Bool.not_eq_true', decide_eq_true_eq] at hi2
    obtain ⟨k1, k2, k3, k4⟩ := hi2
    have kg := drop_sD l i hlt
    generalize l[i] = s at *
    have g3 : ¬ (s.size : Int) < 1 := by omega
    have g4 : ¬ (s.size : Int) > 32 := by omega
    refine rn1 (jn @rwSt.eq_1 (jn @hi (jn @kg (jn @g3 @g4)))) ?_
    refine ⟨by omega, by omega, HC_loopR (rwSt2 n l i) (fun _ => []) (fun k => k ≤ i) (fun k => i - k) 0 [] [] (by omega) ?_ ?_⟩
    · exact ft1 (jn @rwSt2.eq_1 @rwSt.eq_1)
    intro k hk
    refine HC_of_R ty_ok ?_
    by_cases hki : k < i
    · have hi' : (k : Int) < i := by omega
      have kg2 := drop_sD l k (by omega)
      have hne := memB_ne k1 hki (by omega)
      generalize l[k] = s2 at *
      refine rn1 (jn @rwSt2.eq_1 (jn @rwSt.eq_1 @hi')) ?_
      refine HC_plan [] ty_ok mix (by kernel_rfl) ?_
      refine rn1 (jn @kg (jn @kg2 @hne)) ?_
      refine ⟨by omega, by omega, k + 1, by omega, by omega, [], [], ?_⟩
      exact ft1 (jn @rwSt2.eq_1 @rwSt.eq_1)
    · have hi' : ¬ (k : Int) < i := by omega
      refine rn1 (jn @rwSt2.eq_1 (jn @rwSt.eq_1 @hi')) ?_
      refine ⟨i + 1, ⟨by omega, k4⟩, by omega, [], [], ?_⟩
      exact ft1 (jn @rwSt2.eq_1 @rwSt.eq_1)
  · have hi : ¬ (i : Int) < l.length := by omega
    refine rn1 (jn @rwSt.eq_1 @hi) ?_
    refine ⟨⟨by omega, by omega⟩, ?_⟩
    exact fv1 [1,2] [0] (jn @rq.eq_1 @rqO.eq_1)
set_option maxHeartbeats 400000 in
theorem rnew_bad (n : Int) (l : List ByteArray) (h : newE l ≠ 0) :
    AC Tryd.prog noG 29 [.d (.c (.int .i64 n)), .d (.sl 1 l.length (sD l))] [] (fun v r' => v = .tup [.d (.c (.pointer none)), .d (.c (.int .i64 (newE l)))] ∧ r' = []) := by
  refine AC.fit ?_
  refine AC_of_R (N := 54) (res := [.tmp 4, .tmp 5]) ty_ok Tryd.call29 Tryd.func29 rfl rfl rfl (Nat.le_of_ble_eq_true rfl) ?_
  by_cases hl6 : 6 < l.length
  · have g1 : (l.length : Int) > 6 := by omega
    refine rn1 @g1 ?_
    have e2 : newE l = 3 := by rw [newE, if_pos hl6]
    rw [e2]
    exact fv0 [] []
  by_cases hl0 : l.length = 0
  · have g1 : ¬ (l.length : Int) > 6 := by omega
    have g2 : (l.length : Int) = 0 := by omega
    refine rn1 (jn @g1 @g2) ?_
    have e2 : newE l = 2 := by rw [newE, if_neg hl6, if_pos hl0]
    rw [e2]
    exact fv0 [] []
  have hok : okN [] l = false := by
    cases hk : okN [] l with
    | false => rfl
    | true => rw [newE, if_neg hl6, if_neg hl0, if_pos hk] at h; exact absurd rfl h
  have g1 : ¬ (l.length : Int) > 6 := by omega
  have g2 : ¬ (l.length : Int) = 0 := by omega
  refine rn1 (jn @g1 @g2) ?_
  refine HC_loopR (rwSt n l) (fun _ => []) (fun i => i ≤ l.length ∧ okN (l.take i) (l.drop i) = false) (fun i => l.length - i) 0 [] [] ⟨by omega, by simpa using hok⟩ ?_ ?_
  · exact ft1 @rwSt.eq_1
  intro i ⟨hi1, hi2⟩
  refine HC_of_R ty_ok ?_
  by_cases hlt : i < l.length
  · have hi : (i : Int) < l.length := by omega
    rw [okN_step l i hlt] at hi2
    have kg := drop_sD l i hlt
    generalize l[i] = s at *
    by_cases g3 : (s.size : Int) < 1
    · refine rn1 (jn @rwSt.eq_1 (jn @hi (jn @kg @g3))) ?_
      refine ⟨by omega, ?_⟩
      have e2 : newE l = 2 := by rw [newE, if_neg hl6, if_neg hl0, if_neg (by rw [hok]; decide)]
      rw [e2]
      exact fv0 [] []
    by_cases g4 : (s.size : Int) > 32
    · refine rn1 (jn @rwSt.eq_1 (jn @hi (jn @kg (jn @g3 @g4)))) ?_
      refine ⟨by omega, by omega, ?_⟩
      have e2 : newE l = 2 := by rw [newE, if_neg hl6, if_neg hl0, if_neg (by rw [hok]; decide)]
      rw [e2]
      exact fv0 [] []
    rw [decide_eq_true (show 0 < s.size by omega), decide_eq_true (show s.size ≤ 32 by omega)] at hi2
    refine rn1 (jn @rwSt.eq_1 (jn @hi (jn @kg (jn @g3 @g4)))) ?_
    refine ⟨by omega, by omega, HC_loopR (rwSt2 n l i) (fun _ => []) (fun k => k ≤ i ∧ memB s (l.take k) = false) (fun k => i - k) 0 [] [] ⟨by omega, rfl⟩ ?_ ?_⟩
    · exact ft1 (jn @rwSt2.eq_1 @rwSt.eq_1)
    intro k ⟨hk, hkm⟩
    refine HC_of_R ty_ok ?_
    by_cases hki : k < i
    · have hi' : (k : Int) < i := by omega
      have kg2 := drop_sD l k (by omega)
      have hst := memB_take s l k (by omega)
      rw [hkm, Bool.false_or] at hst
      generalize l[k] = s2 at *
      refine rn1 (jn @rwSt2.eq_1 (jn @rwSt.eq_1 @hi')) ?_
      refine HC_plan [] ty_ok mix (by kernel_rfl) ?_
      refine rn1 (jn @kg @kg2) ?_
      refine ⟨⟨by omega, by omega⟩, ⟨by omega, by omega⟩, fun he => ?_, fun he => ?_⟩
      · skip
        have e2 : newE l = 2 := by rw [newE, if_neg hl6, if_neg hl0, if_neg (by rw [hok]; decide)]
        rw [e2]
        exact fv0 [] []
      · rw [decide_eq_false (fun e => he e.symm)] at hst
        refine ⟨k + 1, ⟨by omega, hst⟩, by omega, [], [], ?_⟩
        exact ft1 (jn @rwSt2.eq_1 @rwSt.eq_1)
    · have hi' : ¬ (k : Int) < i := by omega
      have hke : k = i := by omega
      subst hke
      rw [hkm] at hi2
      refine rn1 (jn @rwSt2.eq_1 (jn @rwSt.eq_1 @hi')) ?_
      refine ⟨k + 1, ⟨by omega, by simpa using hi2⟩, by omega, [], [], ?_⟩
      exact ft1 (jn @rwSt2.eq_1 @rwSt.eq_1)
  · rw [List.drop_of_length_le (by omega)] at hi2
    cases hi2
end Go.Proofs.YtjpjnhljmloofaaDoor
