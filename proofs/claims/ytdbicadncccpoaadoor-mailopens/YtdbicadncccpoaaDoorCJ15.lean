/- Parts of the proof: OpenS, OpenA, OpenM, MSeal, MOpen. -/
import Derived.Test.YtdbicadncccpoaaDoorCJ0
import Derived.Test.YtdbicadncccpoaaDoorCJ14
import Derived.Test.YtdbicadncccpoaaDoorCJ5
import Derived.Test.YtdbicadncccpoaaDoorCJ4
set_option linter.unusedVariables false
set_option linter.unusedSimpArgs false
set_option maxRecDepth 100000
namespace Go.Proofs.YtdbicadncccpoaaDoor
open Go Go.ChangeShapes Go.WideShapes
end Go.Proofs.YtdbicadncccpoaaDoor

set_option linter.unusedVariables false
set_option linter.unusedSimpArgs false
set_option maxRecDepth 100000
namespace Go.Proofs.YtdbicadncccpoaaDoor
open Go Go.ChangeShapes Go.WideShapes
end Go.Proofs.YtdbicadncccpoaaDoor

set_option linter.unusedVariables false
set_option linter.unusedSimpArgs false
set_option maxRecDepth 100000
namespace Go.Proofs.YtdbicadncccpoaaDoor
open Go Go.ChangeShapes Go.WideShapes
end Go.Proofs.YtdbicadncccpoaaDoor

set_option linter.unusedVariables false
set_option linter.unusedSimpArgs false
set_option maxRecDepth 100000
namespace Go.Proofs.YtdbicadncccpoaaDoor
open Go Go.ChangeShapes Go.WideShapes
def mailS : ByteArray := ⟨#[109, 97, 105, 108]⟩
theorem mailS_size : mailS.size = 4 := rfl
theorem names_ac (n : Int) (l : List ByteArray) (bk : List Pr) (h0 : 0 < l.length) (h : l.length ≤ 140737488352) :
    AC Tryd.prog noG 42 [.ptr 2 0] (rg n l bk) (fun v r' => v = .d (.sl 1 l.length (sD l)) ∧ r' = rg n l bk) := by
  refine AC_of_R (N := 10) (res := [.tmp 2]) ty_ok Tryd.call42 Tryd.func42 rfl rfl rfl (Nat.le_of_ble_eq_true rfl) ?_
  refine rn1 (jn @rg.eq_1 @rgO.eq_1) ?_
  refine HO_callX ty_ok [0, 1, 2] (none_ac n l bk) (rg_hand _ _ _ _ _ _ _ rfl rfl rfl) (rg_wf _ _ _) ?_
  rintro v r' ⟨rfl, rfl⟩ _
  refine rn1 (jn @rg.eq_1 @rgO.eq_1) ?_
  refine HO_pureA ty_ok (clone_ac l h0 h) ?_
  exact rz0
theorem nobody_ac (n : Int) (l : List ByteArray) (bk : List Pr) (h0 : 0 < l.length) (h : l.length ≤ 140737488352) :
    AC Tryd.prog noG 24 [.ptr 2 0] (rg n l bk) (fun v r' => v = .d (.c (.bool false)) ∧ r' = rg n l bk) := by
  refine AC_of_R (N := 7) (res := [.tmp 2]) ty_ok Tryd.call24 Tryd.func24 rfl rfl rfl (Nat.le_of_ble_eq_true rfl) ?_
  have h1 : ¬ (l.length : Int) = 0 := by omega
  refine rn1 (jn @rg.eq_1 @rgO.eq_1) ?_
  refine HO_callX ty_ok [0, 1, 2] (names_ac n l bk h0 h) (rg_hand _ _ _ _ _ _ _ rfl rfl rfl) (rg_wf _ _ _) ?_
  rintro v r' ⟨rfl, rfl⟩ _
  exact rz1 (jn @rg.eq_1 (jn @rgO.eq_1 @h1))
theorem nobody_n : AC Tryd.prog noG 24 [np] [] (fun v r' => v = .d (.c (.bool true)) ∧ r' = []) := by
  refine AC.pure ?_ (by rintro v rfl; rfl)
  refine AC_of_R (N := 7) (res := [.tmp 2]) ty_ok Tryd.call24 Tryd.func24 rfl rfl rfl (Nat.le_of_ble_eq_true rfl) ?_
  refine rn1 @np.eq_1 ?_
  refine HO_pureA ty_ok names_n ?_
  exact rz0
def opnP (n : Int) (l : List ByteArray) (b : List UInt8) : Pkt × Int :=
  if b.length < 32 then (zP, 11)
  else if (getP (b.take (b.length - 32))).2 ≠ 0 then (zP, (getP (b.take (b.length - 32))).2)
  else if (memB (getP (b.take (b.length - 32))).1.fr l && decide (rtag n (getP (b.take (b.length - 32))).1.fr mailS (b.take (b.length - 32)) = b.drop (b.length - 32))) = true then ((getP (b.take (b.length - 32))).1, 0) else (zP, 202)
def mpRg (n : Int) (l : List ByteArray) : Rs := [some (.map (kM n l)), some (.map (bM [])), some (.obj (rgO l 0 1)), some (.obj (rqO n l [] 4)), some (.tok 0)]
theorem rings_ok (l : List ByteArray) (h : newE l = 0) :
    AC Tryd.prog noG 9 [.d (.sl 1 l.length (sD l))] [] (fun v r' => v = .tup [.ptr 2 0, .ptr 3 0] ∧ r' = mpRg 5 l) := by
  refine AC.fit ?_
  refine AC_of_R (N := 20) (res := [.tmp 2, .tmp 3]) ty_ok Tryd.call9 Tryd.func9 rfl rfl rfl (Nat.le_of_ble_eq_true rfl) ?_
  refine rn0 ?_
  refine HO_callX ty_ok [] (new_ok 5 l (by decide) (by decide) h) (trivial) rfl ?_
  rintro v r' ⟨rfl, rfl⟩ _
  refine rn1 (jn @rg.eq_1 @rgO.eq_1) ?_
  refine HO_callX ty_ok [] (rnew_ok 5 l (by decide) (by decide) h) (trivial) rfl ?_
  rintro v r' ⟨rfl, rfl⟩ _
  refine rn1 (jn @rg.eq_1 (jn @rgO.eq_1 (jn @rq.eq_1 @rqO.eq_1))) ?_
  exact fv1 [0,1,2,3,4] [] (jn @mpRg.eq_1 (jn @rgO.eq_1 (jn @rqO.eq_1 (jn @rg.eq_1 @rq.eq_1))))
theorem rings_bad (l : List ByteArray) (h : newE l ≠ 0) :
    AC Tryd.prog noG 9 [.d (.sl 1 l.length (sD l))] [] (fun v r' => v = .tup [np, np] ∧ r' = []) := by
  refine AC.fit ?_
  refine AC_of_R (N := 20) (res := [.tmp 2, .tmp 3]) ty_ok Tryd.call9 Tryd.func9 rfl rfl rfl (Nat.le_of_ble_eq_true rfl) ?_
  refine rn0 ?_
  refine HO_callX ty_ok [] (new_bad 5 l (by decide) (by decide) h) (trivial) rfl ?_
  rintro v r' ⟨rfl, rfl⟩ _
  refine rn1 @h ?_
  refine HO_callX ty_ok [] (rnew_bad 5 l h) (trivial) rfl ?_
  rintro v r' ⟨rfl, rfl⟩ _
  refine rn1 @h ?_
  exact fv1 [] [] @np.eq_1
end Go.Proofs.YtdbicadncccpoaaDoor

set_option linter.unusedVariables false
set_option linter.unusedSimpArgs false
set_option maxRecDepth 100000
namespace Go.Proofs.YtdbicadncccpoaaDoor
open Go Go.ChangeShapes Go.WideShapes
set_option maxHeartbeats 400000 in
theorem open_n (b : List UInt8) : AC Tryd.prog noG 14 [np, .d (.sl 1 b.length (bD b))] [] (fun v r' => v = gpV (zP, 1) ∧ r' = []) := by
  refine AC.fit ?_
  refine AC_of_R (N := 43) (res := [.cell 4 33, .tmp 5]) ty_ok Tryd.call14 Tryd.func14 rfl rfl rfl (Nat.le_of_ble_eq_true rfl) ?_
  have hz : ([UInt8.ofNat 0, UInt8.ofNat 0, UInt8.ofNat 0, UInt8.ofNat 0, UInt8.ofNat 0, UInt8.ofNat 0, UInt8.ofNat 0, UInt8.ofNat 0, UInt8.ofNat 0, UInt8.ofNat 0, UInt8.ofNat 0, UInt8.ofNat 0, UInt8.ofNat 0, UInt8.ofNat 0, UInt8.ofNat 0, UInt8.ofNat 0, UInt8.ofNat 0, UInt8.ofNat 0, UInt8.ofNat 0, UInt8.ofNat 0, UInt8.ofNat 0, UInt8.ofNat 0, UInt8.ofNat 0, UInt8.ofNat 0, UInt8.ofNat 0, UInt8.ofNat 0, UInt8.ofNat 0, UInt8.ofNat 0, UInt8.ofNat 0, UInt8.ofNat 0, UInt8.ofNat 0, UInt8.ofNat 0] : List UInt8) = tg0 := rfl
  obtain ⟨z1, z2, z3, z4, z5, z6⟩ := tg32 tg0 rfl
  refine rn1 (jn @np.eq_1 (jn @hz (jn @z1 (jn @z2 (jn @z3 (jn @z4 (jn @z5 (jn @z6 @tA_allD)))))))) ?_
  refine HO_pureA ty_ok nobody_n ?_
  refine rn1 (jn @hz (jn @z1 (jn @z2 (jn @z3 (jn @z4 (jn @z5 (jn @z6 @tA_allD))))))) ?_
  simp only [gpV, zP, pktE, itE, zF, flatE_nil, List.cons_append, List.nil_append, List.length_nil]
  exact fv0 [] []
theorem split32 (b : List UInt8) (h : ¬ b.length < 32) : ∃ P S : List UInt8, b = P ++ S ∧ S.length = 32 := ⟨b.take (b.length - 32), b.drop (b.length - 32), (List.take_append_drop _ _).symm, by rw [List.length_drop]; omega⟩
def opnQ (n : Int) (l : List ByteArray) (P S : List UInt8) : Pkt × Int :=
  if (getP P).2 ≠ 0 then (zP, (getP P).2) else if (memB (getP P).1.fr l && decide (rtag n (getP P).1.fr mailS P = S)) = true then ((getP P).1, 0) else (zP, 202)
theorem opnP_Q (n : Int) (l : List ByteArray) (P S : List UInt8) (h : S.length = 32) : opnP n l (P ++ S) = opnQ n l P S := by
  have e : (P ++ S).length - 32 = P.length := by rw [List.length_append]; omega
  unfold opnP opnQ
  rw [if_neg (by rw [List.length_append]; omega), e, List.take_left, List.drop_left]
set_option maxHeartbeats 400000 in
theorem open_ac (n : Int) (l : List ByteArray) (bk : List Pr) (b : List UInt8) (h0 : 0 < l.length) (h : l.length ≤ 140737488352) (hb : b.length ≤ 140737488350000) :
    AC Tryd.prog noG 14 [.ptr 2 0, .d (.sl 1 b.length (bD b))] (rg n l bk) (fun v r' => v = gpV (opnP n l b) ∧ r' = rg n l bk) := by
  refine AC.fit ?_
  refine AC_of_R (N := 43) (res := [.cell 4 33, .tmp 5]) ty_ok Tryd.call14 Tryd.func14 rfl rfl rfl (Nat.le_of_ble_eq_true rfl) ?_
  have hz : ([UInt8.ofNat 0, UInt8.ofNat 0, UInt8.ofNat 0, UInt8.ofNat 0, UInt8.ofNat 0, UInt8.ofNat 0, UInt8.ofNat 0, UInt8.ofNat 0, UInt8.ofNat 0, UInt8.ofNat 0, UInt8.ofNat 0, UInt8.ofNat 0, UInt8.ofNat 0, UInt8.ofNat 0, UInt8.ofNat 0, UInt8.ofNat 0, UInt8.ofNat 0, UInt8.ofNat 0, UInt8.ofNat 0, UInt8.ofNat 0, UInt8.ofNat 0, UInt8.ofNat 0, UInt8.ofNat 0, UInt8.ofNat 0, UInt8.ofNat 0, UInt8.ofNat 0, UInt8.ofNat 0, UInt8.ofNat 0, UInt8.ofNat 0, UInt8.ofNat 0, UInt8.ofNat 0, UInt8.ofNat 0] : List UInt8) = tg0 := rfl
  obtain ⟨z1, z2, z3, z4, z5, z6⟩ := tg32 tg0 rfl
  refine rn1 (jn @rg.eq_1 (jn @rgO.eq_1 (jn @hz (jn @z1 (jn @z2 (jn @z3 (jn @z4 (jn @z5 (jn @z6 @tA_allD))))))))) ?_
  refine HO_callX ty_ok [0, 1, 2] (nobody_ac n l bk h0 h) (rg_hand _ _ _ _ _ _ _ rfl rfl rfl) (rg_wf _ _ _) ?_
  rintro v r' ⟨rfl, rfl⟩ _
  by_cases hl : b.length < 32
  · have hi : (b.length : Int) < 32 := by omega
    rw [opnP, if_pos hl]
    refine rn1 (jn @rg.eq_1 (jn @rgO.eq_1 (jn @hi (jn @hz (jn @z1 (jn @z2 (jn @z3 (jn @z4 (jn @z5 (jn @z6 @tA_allD)))))))))) ?_
    simp only [gpV, zP, pktE, itE, zF, flatE_nil, List.cons_append, List.nil_append, List.length_nil]
    exact fv1 [0,1,2] [] (jn @rg.eq_1 @rgO.eq_1)
  obtain ⟨P, S, rfl, hS⟩ := split32 b hl
  rw [opnP_Q n l P S hS, opnQ]
  have hbl : (P ++ S).length = P.length + 32 := by rw [List.length_append, hS]
  rw [hbl] at hb ⊢
  have hi : ¬ (((P.length + 32 : Nat) : Int) < 32) := by omega
  have e0 : ((P.length + 32 : Nat) : Int) - 32 = P.length := by omega
  have e3 : P.length + 32 - P.length = S.length := by omega
  have d1 : (bD (P ++ S)).take P.length = bD P := by rw [bD_take, List.take_left]
  have d2 : (bD (P ++ S)).drop P.length = bD S := by rw [bD_drop, List.drop_left]
  have kg := get_ac P (by omega)
  obtain ⟨g1, g2, g3, g4⟩ := getP_small P
  rw [gpV] at kg
  generalize getP P = gp at *
  obtain ⟨q, ge⟩ := gp
  simp only at g1 g2 g3 g4 kg
  obtain ⟨u1, u2, u3, u4, u5, u6⟩ := tg32 q.tg g2.2.2.2.2.2
  have kv := verify_ac n l bk q.fr mailS P S (by rw [mailS_size]; omega) (by omega)
  generalize (memB q.fr l && decide (rtag n q.fr mailS P = S)) = w at *
  simp only [pktE, itE, List.cons_append, List.nil_append] at kg
  refine rn1 (jn @rg.eq_1 (jn @rgO.eq_1 (jn @hi (jn @e0 (jn @d1 @d2))))) ?_
  (repeat (refine And.intro (by omega) ?_))
  refine HO_pureA ty_ok kg ?_
  by_cases he : ge = 0
  · rw [if_neg (by simpa using he)]
    refine rn1 (jn @he (jn @u1 (jn @u2 (jn @u3 (jn @u4 (jn @u5 (jn @u6 @tA_allD))))))) ?_
    refine HC_plan [] ty_ok mix (by kernel_rfl) ?_
    refine rn1 (jn @rg.eq_1 (jn @rgO.eq_1 (jn @e0 (jn @e3 (jn @d1 (jn @d2 (jn @u1 (jn @u2 (jn @u3 (jn @u4 (jn @u5 (jn @u6 @tA_allD)))))))))))) ?_
    (repeat (refine And.intro (by omega) ?_))
    refine HO_callX ty_ok [0, 1, 2] (kv) (rg_hand _ _ _ _ _ _ _ rfl rfl rfl) (rg_wf _ _ _) ?_
    rintro v r' ⟨rfl, rfl⟩ _
    cases w with
    | true =>
      refine rn1 (jn @rg.eq_1 (jn @rgO.eq_1 (jn @u1 (jn @u2 (jn @u3 (jn @u4 (jn @u5 (jn @u6 @tA_allD)))))))) ?_
      simp only [gpV, pktE, itE, List.cons_append, List.nil_append]
      exact fv1 [0,1,2] [] (jn @rg.eq_1 @rgO.eq_1)
    | false =>
      refine rn1 (jn @rg.eq_1 (jn @rgO.eq_1 (jn @hz (jn @z1 (jn @z2 (jn @z3 (jn @z4 (jn @z5 (jn @z6 (jn @u1 (jn @u2 (jn @u3 (jn @u4 (jn @u5 (jn @u6 @tA_allD))))))))))))))) ?_
      simp only [gpV, zP, pktE, itE, zF, flatE_nil, List.cons_append, List.nil_append, List.length_nil]
      exact fv1 [0,1,2] [] (jn @rg.eq_1 @rgO.eq_1)
  · rw [if_pos he]
    refine rn1 (jn @he (jn @hz (jn @z1 (jn @z2 (jn @z3 (jn @z4 (jn @z5 (jn @z6 (jn @u1 (jn @u2 (jn @u3 (jn @u4 (jn @u5 (jn @u6 @tA_allD)))))))))))))) ?_
    simp only [gpV, zP, pktE, itE, zF, flatE_nil, List.cons_append, List.nil_append, List.length_nil]
    exact fv1 [0,1,2] [] (jn @rg.eq_1 @rgO.eq_1)
set_option maxHeartbeats 400000 in
theorem ropen_ac (n : Int) (l : List ByteArray) (bk : List Pr) (b : List UInt8) (h0 : -9223372036854775808 ≤ n) (h1 : n ≤ 9223372036854775807) (hl6 : l.length ≤ 1000) (hb : b.length ≤ 140737488350000) :
    AC Tryd.prog noG 16 [.ptr 0 0, .d (.sl 1 b.length (bD b))] (rq n l bk) (fun v r' => v = gpV (opnP n l b) ∧ r' = rq n l bk) := by
  refine AC.fit ?_
  refine AC_of_R (N := 42) (res := [.cell 4 33, .tmp 5]) ty_ok Tryd.call16 Tryd.func16 rfl rfl rfl (Nat.le_of_ble_eq_true rfl) ?_
  have hz : ([UInt8.ofNat 0, UInt8.ofNat 0, UInt8.ofNat 0, UInt8.ofNat 0, UInt8.ofNat 0, UInt8.ofNat 0, UInt8.ofNat 0, UInt8.ofNat 0, UInt8.ofNat 0, UInt8.ofNat 0, UInt8.ofNat 0, UInt8.ofNat 0, UInt8.ofNat 0, UInt8.ofNat 0, UInt8.ofNat 0, UInt8.ofNat 0, UInt8.ofNat 0, UInt8.ofNat 0, UInt8.ofNat 0, UInt8.ofNat 0, UInt8.ofNat 0, UInt8.ofNat 0, UInt8.ofNat 0, UInt8.ofNat 0, UInt8.ofNat 0, UInt8.ofNat 0, UInt8.ofNat 0, UInt8.ofNat 0, UInt8.ofNat 0, UInt8.ofNat 0, UInt8.ofNat 0, UInt8.ofNat 0] : List UInt8) = tg0 := rfl
  obtain ⟨z1, z2, z3, z4, z5, z6⟩ := tg32 tg0 rfl
  by_cases hl : b.length < 32
  · have hi : (b.length : Int) < 32 := by omega
    rw [opnP, if_pos hl]
    refine rn1 (jn @rq.eq_1 (jn @rqO.eq_1 (jn @hi (jn @hz (jn @z1 (jn @z2 (jn @z3 (jn @z4 (jn @z5 (jn @z6 @tA_allD)))))))))) ?_
    simp only [gpV, zP, pktE, itE, zF, flatE_nil, List.cons_append, List.nil_append, List.length_nil]
    exact fv1 [0,1] [] (jn @rq.eq_1 @rqO.eq_1)
  obtain ⟨P, S, rfl, hS⟩ := split32 b hl
  rw [opnP_Q n l P S hS, opnQ]
  have hbl : (P ++ S).length = P.length + 32 := by rw [List.length_append, hS]
  rw [hbl] at hb ⊢
  have hi : ¬ (((P.length + 32 : Nat) : Int) < 32) := by omega
  have e0 : ((P.length + 32 : Nat) : Int) - 32 = P.length := by omega
  have e3 : P.length + 32 - P.length = S.length := by omega
  have d1 : (bD (P ++ S)).take P.length = bD P := by rw [bD_take, List.take_left]
  have d2 : (bD (P ++ S)).drop P.length = bD S := by rw [bD_drop, List.drop_left]
  have kg := rget_ac P (by omega)
  obtain ⟨g1, g2, g3, g4⟩ := getP_small P
  rw [gpV] at kg
  generalize getP P = gp at *
  obtain ⟨q, ge⟩ := gp
  simp only at g1 g2 g3 g4 kg
  obtain ⟨u1, u2, u3, u4, u5, u6⟩ := tg32 q.tg g2.2.2.2.2.2
  have kv := rverify_ac n l bk q.fr mailS P S h0 h1 hl6 (by omega) (by rw [mailS_size]; omega) (by omega)
  generalize (memB q.fr l && decide (rtag n q.fr mailS P = S)) = w at *
  simp only [pktE, itE, List.cons_append, List.nil_append] at kg
  refine rn1 (jn @rq.eq_1 (jn @rqO.eq_1 (jn @hi (jn @hz (jn @z1 (jn @z2 (jn @z3 (jn @z4 (jn @z5 (jn @z6 (jn @tA_allD (jn @e0 (jn @d1 @d2))))))))))))) ?_
  (repeat (refine And.intro (by omega) ?_))
  refine HO_pureA ty_ok kg ?_
  by_cases he : ge = 0
  · rw [if_neg (by simpa using he)]
    refine rn1 (jn @he (jn @u1 (jn @u2 (jn @u3 (jn @u4 (jn @u5 (jn @u6 @tA_allD))))))) ?_
    refine HC_plan [] ty_ok mix (by kernel_rfl) ?_
    refine rn1 (jn @rq.eq_1 (jn @rqO.eq_1 (jn @e0 (jn @e3 (jn @d1 (jn @d2 (jn @u1 (jn @u2 (jn @u3 (jn @u4 (jn @u5 (jn @u6 @tA_allD)))))))))))) ?_
    (repeat (refine And.intro (by omega) ?_))
    refine HO_callX ty_ok [0, 1] (kv) (rq_hand _ _ _ _ _ _ rfl rfl) (rq_wf _ _ _) ?_
    rintro v r' ⟨rfl, rfl⟩ _
    cases w with
    | true =>
      refine rn1 (jn @rq.eq_1 (jn @rqO.eq_1 (jn @u1 (jn @u2 (jn @u3 (jn @u4 (jn @u5 (jn @u6 @tA_allD)))))))) ?_
      simp only [gpV, pktE, itE, List.cons_append, List.nil_append]
      exact fv1 [0,1] [] (jn @rq.eq_1 @rqO.eq_1)
    | false =>
      refine rn1 (jn @rq.eq_1 (jn @rqO.eq_1 (jn @hz (jn @z1 (jn @z2 (jn @z3 (jn @z4 (jn @z5 (jn @z6 (jn @u1 (jn @u2 (jn @u3 (jn @u4 (jn @u5 (jn @u6 @tA_allD))))))))))))))) ?_
      simp only [gpV, zP, pktE, itE, zF, flatE_nil, List.cons_append, List.nil_append, List.length_nil]
      exact fv1 [0,1] [] (jn @rq.eq_1 @rqO.eq_1)
  · rw [if_pos he]
    refine rn1 (jn @he (jn @hz (jn @z1 (jn @z2 (jn @z3 (jn @z4 (jn @z5 (jn @z6 (jn @u1 (jn @u2 (jn @u3 (jn @u4 (jn @u5 (jn @u6 @tA_allD)))))))))))))) ?_
    simp only [gpV, zP, pktE, itE, zF, flatE_nil, List.cons_append, List.nil_append, List.length_nil]
    exact fv1 [0,1] [] (jn @rq.eq_1 @rqO.eq_1)
end Go.Proofs.YtdbicadncccpoaaDoor
