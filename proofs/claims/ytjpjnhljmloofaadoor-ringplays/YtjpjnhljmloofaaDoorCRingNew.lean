import Derived.Test.YtjpjnhljmloofaaDoorCRing2
set_option linter.unusedVariables false
set_option linter.unusedSimpArgs false
set_option maxRecDepth 100000
namespace Go.Proofs.YtjpjnhljmloofaaDoor
open Go Go.ChangeShapes Go.WideShapes
def okN : List ByteArray → List ByteArray → Bool
  | _, [] => true
  | seen, s :: r => !memB s seen && (decide (0 < s.size) && (decide (s.size ≤ 32) && okN (seen ++ [s]) r))
def newE (l : List ByteArray) : Int := if 6 < l.length then 3 else if l.length = 0 then 2 else if okN [] l = true then 0 else 2
theorem okN_step (l : List ByteArray) (i : Nat) (h : i < l.length) : okN (l.take i) (l.drop i) = (!memB l[i] (l.take i) && (decide (0 < l[i].size) && (decide (l[i].size ≤ 32) && okN (l.take (i + 1)) (l.drop (i + 1))))) := by
  rw [List.drop_eq_getElem_cons h, okN, ← List.take_succ_eq_append_getElem h]
def rgL (n : Int) (l : List ByteArray) (i : Nat) : Rs := [some (.map (kM n (l.take i))), some (.map []), some (.obj (rgO l 0 1))]
def nwSt (n : Int) (l : List ByteArray) (i : Nat) : List (Nat × AV) := [(0, .d (.c (.int .i64 n))), (1, .d (.sl 1 l.length (sD l))), (4, .d (.c (.pointer none))), (5, .d (.c (.int .i64 0))), (6, .ptr 2 0), (23, .d (.sl 1 l.length (sD l))), (24, .d (.c (.int .i64 l.length))), (25, .d (.c (.int .i64 i)))]
theorem size_zero (s : ByteArray) : (s = ⟨#[]⟩) = (s.size = 0) := propext ⟨fun h => by rw [h]; rfl, fun h => by
  obtain ⟨d⟩ := s
  have : d = #[] := Array.eq_empty_of_size_eq_zero h
  rw [this]⟩
theorem kM_put (n : Int) (l : List ByteArray) (i : Nat) (h : i < l.length) : putM (.c (.string l[i])) (.agg (bD (keyS n l[i]))) (kM n (l.take i)) none = kM n (l.take (i + 1)) := by
  rw [putM, List.take_succ_eq_append_getElem h, kM, kM, List.map_append]; rfl
theorem drop_sD (l : List ByteArray) (i : Nat) (h : i < l.length) : ((sD l).drop i)[0]? = some (.c (.string l[i])) := by
  rw [List.getElem?_drop, Nat.add_zero, sD_get l i h]
set_option maxHeartbeats 400000 in
theorem new_ok (n : Int) (l : List ByteArray) (h0 : -9223372036854775808 ≤ n) (h1 : n ≤ 9223372036854775807) (h : newE l = 0) :
    AC Tryd.prog noG 24 [.d (.c (.int .i64 n)), .d (.sl 1 l.length (sD l))] [] (fun v r' => v = .tup [.ptr 2 0, .d (.c (.int .i64 0))] ∧ r' = rg n l []) := by
  have hl6 : ¬ 6 < l.length := fun hc => by rw [newE, if_pos hc] at h; exact absurd h (by decide)
  have hl0 : ¬ l.length = 0 := fun hc => by rw [newE, if_neg hl6, if_pos hc] at h; exact absurd h (by decide)
  have hok : okN [] l = true := by
    cases hk : okN [] l with
    | true => rfl
    | false => rw [newE, if_neg hl6, if_neg hl0, hk] at h; exact absurd h (by decide)
  refine AC.fit ?_
  refine AC_of_R (N := 58) (res := [.tmp 4, .tmp 5]) ty_ok Tryd.call24 Tryd.func24 rfl rfl rfl (Nat.le_of_ble_eq_true rfl) ?_
  have g1 : ¬ (l.length : Int) > 6 := by omega
  have g2 : ¬ (l.length : Int) = 0 := by omega
  refine rn1 (jn @g1 @g2) ?_
  refine HO_pureA ty_ok (clone_ac l (by omega) (by omega)) ?_
  refine rn0 ?_
  refine HO_makeMap ty_ok rfl rfl ?_
  refine rn0 ?_
  refine HO_makeMap ty_ok rfl rfl ?_
  refine rn0 ?_
  refine HC_loopR (nwSt n l) (rgL n l) (fun i => i ≤ l.length ∧ okN (l.take i) (l.drop i) = true) (fun i => l.length - i) 0 [0, 1, 2] [] ⟨by omega, by simpa using hok⟩ ?_ ?_
  · exact ft1 (jn @nwSt.eq_1 (jn @rgL.eq_1 (jn @rgO.eq_1 (jn @List.take_zero.{0} @kM.eq_1))))
  intro i ⟨hi1, hi2⟩
  refine HC_of_R ty_ok ?_
  by_cases hlt : i < l.length
  · have hi : (i : Int) < l.length := by omega
    have hg := sD_get l i hlt
    rw [okN_step l i hlt] at hi2
    simp only [Bool.and_eq_true, Bool.not_eq_true', decide_eq_true_eq] at hi2
    obtain ⟨k1, k2, k3, k4⟩ := hi2
    have kg := drop_sD l i hlt
    have kp := kM_put n l i hlt
    generalize l[i] = s at *
    have hse : ¬ s = ⟨#[]⟩ := by rw [size_zero]; omega
    have g3 : ¬ (s.size : Int) > 32 := by omega
    refine rn1 (jn @nwSt.eq_1 (jn @rgL.eq_1 (jn @rgO.eq_1 (jn @hi (jn @hg @kg))))) ?_
    rcases find_k n s (l.take i) 0 with ⟨f1, f2⟩ | ⟨f1, j, f2⟩
    · refine ⟨by omega, HO_lookup ty_ok rfl rfl rfl rfl tm_k tf_k tg_k (keq_s s s) f2 tz_k rfl ?_⟩
      obtain ⟨zl, zb, zt, zm, zsp⟩ := dig32 z32 rfl
      refine rn1 (jn @lkRes.eq_1 (jn @lkRes.eq_2 (jn @lkRes.eq_3 (jn @lkRes.eq_4 (jn @zl (jn @zb (jn @zt (jn @zm (jn @zsp (jn @hse @g3)))))))))) ?_
      clear zsp
      refine HC_plan [7] ty_ok mix (by kernel_rfl) ?_
      refine rn0 ?_
      refine HO_pureA ty_ok (mKey_ac n s h0 h1 (by omega)) ?_
      refine rn0 ?_
      refine HO_mapUpdate ty_ok rfl rfl rfl rfl rfl tm_k tf_k tg_k (keq_s s s) f2 rfl rfl ?_
      refine rn1 @kp ?_
      refine ⟨i + 1, ⟨by omega, k4⟩, by omega, [0, 1, 2], [], ?_⟩
      exact ft1 (jn @nwSt.eq_1 (jn @rgL.eq_1 @rgO.eq_1))
    · rw [k1] at f1; cases f1
  · have hi : ¬ (i : Int) < l.length := by omega
    have hti : l.take i = l := List.take_of_length_le (by omega)
    refine rn1 (jn @nwSt.eq_1 (jn @rgL.eq_1 (jn @rgO.eq_1 (jn @hi @hti)))) ?_
    exact fv1 [0,1,2] [] @rgO.eq_1
set_option maxHeartbeats 400000 in
theorem new_bad (n : Int) (l : List ByteArray) (h0 : -9223372036854775808 ≤ n) (h1 : n ≤ 9223372036854775807) (h : newE l ≠ 0) :
    AC Tryd.prog noG 24 [.d (.c (.int .i64 n)), .d (.sl 1 l.length (sD l))] [] (fun v r' => v = .tup [.d (.c (.pointer none)), .d (.c (.int .i64 (newE l)))] ∧ r' = []) := by
  refine AC.fit ?_
  refine AC_of_R (N := 58) (res := [.tmp 4, .tmp 5]) ty_ok Tryd.call24 Tryd.func24 rfl rfl rfl (Nat.le_of_ble_eq_true rfl) ?_
  by_cases hl6 : 6 < l.length
  · have g1 : (l.length : Int) > 6 := by omega
    refine rn1 @g1 ?_
    have e2 : newE l = 3 := by rw [newE, if_pos hl6]
    rw [e2]
    exact fv0 [] []
  by_cases hl0 : l.length = 0
  · have g1 : ¬ (l.length : Int) > 6 := by omega
    have g2 : (l.length : Int) = 0 := by omega
    refine rn1 (jn @g1 @g2) ?_
    have e2 : newE l = 2 := by rw [newE, if_neg hl6, if_pos hl0]
    rw [e2]
    exact fv0 [] []
  have hok : okN [] l = false := by
    cases hk : okN [] l with
    | false => rfl
    | true => rw [newE, if_neg hl6, if_neg hl0, if_pos hk] at h; exact absurd rfl h
  have g1 : ¬ (l.length : Int) > 6 := by omega
  have g2 : ¬ (l.length : Int) = 0 := by omega
  refine rn1 (jn @g1 @g2) ?_
  refine HO_pureA ty_ok (clone_ac l (by omega) (by omega)) ?_
  refine rn0 ?_
  refine HO_makeMap ty_ok rfl rfl ?_
  refine rn0 ?_
  refine HO_makeMap ty_ok rfl rfl ?_
  refine rn0 ?_
  refine HC_loopR (nwSt n l) (rgL n l) (fun i => i ≤ l.length ∧ okN (l.take i) (l.drop i) = false) (fun i => l.length - i) 0 [0, 1, 2] [] ⟨by omega, by simpa using hok⟩ ?_ ?_
  · exact ft1 (jn @nwSt.eq_1 (jn @rgL.eq_1 (jn @rgO.eq_1 (jn @List.take_zero.{0} @kM.eq_1))))
  intro i ⟨hi1, hi2⟩
  refine HC_of_R ty_ok ?_
  by_cases hlt : i < l.length
  · have hi : (i : Int) < l.length := by omega
    have hg := sD_get l i hlt
    rw [okN_step l i hlt] at hi2
    have kg := drop_sD l i hlt
    have kp := kM_put n l i hlt
    generalize l[i] = s at *
    refine rn1 (jn @nwSt.eq_1 (jn @rgL.eq_1 (jn @rgO.eq_1 (jn @hi (jn @hg @kg))))) ?_
    rcases find_k n s (l.take i) 0 with ⟨f1, f2⟩ | ⟨f1, j, f2⟩
    · refine ⟨by omega, HO_lookup ty_ok rfl rfl rfl rfl tm_k tf_k tg_k (keq_s s s) f2 tz_k rfl ?_⟩
      obtain ⟨zl, zb, zt, zm, zsp⟩ := dig32 z32 rfl
      by_cases hse : s = ⟨#[]⟩
      · refine rn1 (jn @lkRes.eq_1 (jn @lkRes.eq_2 (jn @lkRes.eq_3 (jn @lkRes.eq_4 (jn @zl (jn @zb (jn @zt (jn @zm (jn @zsp @hse))))))))) ?_
        clear zsp
        have e2 : newE l = 2 := by rw [newE, if_neg hl6, if_neg hl0, if_neg (by rw [hok]; decide)]
        rw [e2]
        exact fv0 [] []
      by_cases g3 : (s.size : Int) > 32
      · refine rn1 (jn @lkRes.eq_1 (jn @lkRes.eq_2 (jn @lkRes.eq_3 (jn @lkRes.eq_4 (jn @zl (jn @zb (jn @zt (jn @zm (jn @zsp (jn @hse @g3)))))))))) ?_
        clear zsp
        have e2 : newE l = 2 := by rw [newE, if_neg hl6, if_neg hl0, if_neg (by rw [hok]; decide)]
        rw [e2]
        exact fv0 [] []
      have k4 : okN (l.take (i + 1)) (l.drop (i + 1)) = false := by
        rw [size_zero] at hse
        rw [f1, decide_eq_true (show 0 < s.size by omega), decide_eq_true (show s.size ≤ 32 by omega)] at hi2
        simpa using hi2
      refine rn1 (jn @lkRes.eq_1 (jn @lkRes.eq_2 (jn @lkRes.eq_3 (jn @lkRes.eq_4 (jn @zl (jn @zb (jn @zt (jn @zm (jn @zsp (jn @hse @g3)))))))))) ?_
      clear zsp
      refine HC_plan [7] ty_ok mix (by kernel_rfl) ?_
      refine rn0 ?_
      refine HO_pureA ty_ok (mKey_ac n s h0 h1 (by omega)) ?_
      refine rn0 ?_
      refine HO_mapUpdate ty_ok rfl rfl rfl rfl rfl tm_k tf_k tg_k (keq_s s s) f2 rfl rfl ?_
      refine rn1 @kp ?_
      refine ⟨i + 1, ⟨by omega, k4⟩, by omega, [0, 1, 2], [], ?_⟩
      exact ft1 (jn @nwSt.eq_1 (jn @rgL.eq_1 @rgO.eq_1))
    · refine ⟨by omega, HO_lookup ty_ok rfl rfl rfl rfl tm_k tf_k tg_k (keq_s s s) f2 tz_k rfl ?_⟩
      obtain ⟨hl, hb, ht, hm, hsp⟩ := dig32 (keyS n s) (keyS_len n s)
      refine rn1 (jn @lkRes.eq_1 (jn @lkRes.eq_2 (jn @lkRes.eq_3 (jn @lkRes.eq_4 (jn @hl (jn @hb (jn @ht (jn @hm @hsp)))))))) ?_
      clear hsp
      have e2 : newE l = 2 := by rw [newE, if_neg hl6, if_neg hl0, if_neg (by rw [hok]; decide)]
      rw [e2]
      exact fv0 [] []
  · rw [List.drop_of_length_le (by omega)] at hi2
    cases hi2
end Go.Proofs.YtjpjnhljmloofaaDoor
