import Derived.Test.YthdjblfiiogmgaaCJ4
set_option linter.unusedVariables false
set_option linter.unusedSimpArgs false
set_option maxRecDepth 100000
namespace Go.Proofs.Ythdjblfiiogmgaa
open Go Go.ChangeShapes Go.WideShapes
/-! TrailNone: a trail that no call made takes nothing and tells nothing. -/
def nmd (x : Ntr) : Bool := decide (x.why = 1 ∨ x.why = 3 ∨ x.why = 2)
theorem named_ac (x : Ntr) (hx : x.tg.length = 32) : AC Try.prog noG 36 [.d (.agg (entE x))] [] (fun v r' => v = .d (.c (.bool (nmd x))) ∧ r' = []) := by
  refine AC.fit ?_
  refine AC_of_R (N := 16) (res := [.tmp 2]) ty_ok Try.call36 Try.func36 rfl rfl rfl (Nat.le_of_ble_eq_true rfl) ?_
  obtain ⟨t1, t2, t3, t4, t5, t6⟩ := tg32 x.tg hx
  rw [nmd]
  by_cases h1 : x.why = 1
  · refine rn1 (jn @entE.eq_1 (jn @fctE.eq_1 (jn @h1 (jn @t1 (jn @t2 (jn @t3 (jn @t4 (jn @t5 (jn @t6 @tA_allD))))))))) ?_
    exact fv0 [] []
  by_cases h3 : x.why = 3
  · refine rn1 (jn @entE.eq_1 (jn @fctE.eq_1 (jn @h3 (jn @t1 (jn @t2 (jn @t3 (jn @t4 (jn @t5 (jn @t6 @tA_allD))))))))) ?_
    exact fv0 [] []
  by_cases h2 : x.why = 2
  · refine rn1 (jn @entE.eq_1 (jn @fctE.eq_1 (jn @h2 (jn @t1 (jn @t2 (jn @t3 (jn @t4 (jn @t5 (jn @t6 @tA_allD))))))))) ?_
    exact fv0 [] []
  · rw [decide_eq_false (fun h => by rcases h with h | h | h; exact h1 h; exact h3 h; exact h2 h)]
    refine rn1 (jn @entE.eq_1 (jn @fctE.eq_1 (jn @h1 (jn @h2 (jn @h3 (jn @t1 (jn @t2 (jn @t3 (jn @t4 (jn @t5 (jn @t6 @tA_allD))))))))))) ?_
    exact fv0 [] []
def tnSt (i : Nat) : List (Nat × AV) := [(1, .ptr 0 0), (8, .agg [.d (.c (.pointer none)), .ptr 1 0]), (9, .d (.c (.int .i64 i)))]
def tnRe (x : Ntr) : Rs := [some (.obj (enC x.f x.why x.rule (.d (.sl 4 x.body.length (flatE fctE x.body))) x.tg)), some (.obj [.d (.c (.slice none 0 0)), .d (.c (.slice none 0 0)), .d (.c (.bool false))])]
set_option maxHeartbeats 800000 in
theorem trailNone_ac (x : Ntr) (hx : x.tg.length = 32) : AC Try.prog noG 9 [.d (.agg (entE x))] [] (fun v r' => v = .d (.c (.bool true)) ∧ r' = []) := by
  refine AC.pure ?_ (by rintro v rfl; rfl)
  refine AC_of_R (N := 55) (res := [.tmp 2]) ty_ok Try.call9 Try.func9 rfl rfl rfl (Nat.le_of_ble_eq_true rfl) ?_
  obtain ⟨t1, t2, t3, t4, t5, t6⟩ := tg32 x.tg hx
  refine rn1 (jn @entE.eq_1 (jn @fctE.eq_1 (jn @t1 (jn @t2 (jn @t3 (jn @t4 (jn @t5 (jn @t6 @tA_allD)))))))) ?_
  refine HC_loopR (fun i : Nat => tnSt i) (fun _ => tnRe x) (fun i => i ≤ 2) (fun i => 2 - i) 0 [0, 1] [] (by omega) ?_ ?_
  · exact ft1 (jn @tnSt.eq_1 (jn @tnRe.eq_1 (jn @enC.eq_1 @tA_wf)))
  intro i hi
  refine HC_of_R ty_ok ?_
  rcases (show i = 0 ∨ i = 1 ∨ i = 2 by omega) with rfl | rfl | rfl
  · skip
    have kg := tgtN_ac x.f
    have kp := tplcN_ac x.f
    have kn := named_ac x hx
    have hz : ([UInt8.ofNat 0, UInt8.ofNat 0, UInt8.ofNat 0, UInt8.ofNat 0, UInt8.ofNat 0, UInt8.ofNat 0, UInt8.ofNat 0, UInt8.ofNat 0, UInt8.ofNat 0, UInt8.ofNat 0, UInt8.ofNat 0, UInt8.ofNat 0, UInt8.ofNat 0, UInt8.ofNat 0, UInt8.ofNat 0, UInt8.ofNat 0, UInt8.ofNat 0, UInt8.ofNat 0, UInt8.ofNat 0, UInt8.ofNat 0, UInt8.ofNat 0, UInt8.ofNat 0, UInt8.ofNat 0, UInt8.ofNat 0, UInt8.ofNat 0, UInt8.ofNat 0, UInt8.ofNat 0, UInt8.ofNat 0, UInt8.ofNat 0, UInt8.ofNat 0, UInt8.ofNat 0, UInt8.ofNat 0] : List UInt8) = tgz := rfl
    obtain ⟨z1, z2, z3, z4, z5, z6⟩ := tg32 tgz rfl
    have z7 : (tA tgz).drop 32 = [] := List.drop_of_length_le (by omega)
    have hz9 : (List.replicate 32 (0 : UInt8)) = tgz := rfl
    simp only [entE, fctE, zE, zE.zF0, flatE_nil, List.length_nil, hz9, List.cons_append, List.nil_append] at kg kp kn
    refine rn1 (jn @tnSt.eq_1 (jn @tnRe.eq_1 (jn @enC.eq_1 (jn @hz (jn @z1 (jn @z2 (jn @z3 (jn @z4 (jn @z5 (jn @z6 (jn @t1 (jn @t2 (jn @t3 (jn @t4 (jn @t5 (jn @t6 @tA_allD)))))))))))))))) ?_
    (repeat (refine And.intro (by omega) ?_))
    refine HO_callX ty_ok [] kg (trivial) rfl ?_
    rintro v r' ⟨rfl, rfl⟩ _
    refine rn1 (jn @zt.eq_1 (jn @hz (jn @z1 (jn @z2 (jn @z3 (jn @z4 (jn @z5 (jn @z6 (jn @z7 (jn @t1 (jn @t2 (jn @t3 (jn @t4 (jn @t5 (jn @t6 @tA_allD))))))))))))))) ?_
    refine HO_pureA ty_ok kn ?_
    cases hm : nmd x with
    | true =>
      have ke := tentN_ac x hx (of_decide_eq_true hm)
      simp only [entE, fctE, List.cons_append, List.nil_append] at ke
      refine rn1 (jn @zt.eq_1 (jn @t1 (jn @t2 (jn @t3 (jn @t4 (jn @t5 (jn @t6 @tA_allD))))))) ?_
      refine HO_callX ty_ok [] ke (trivial) rfl ?_
      rintro v r' ⟨rfl, rfl⟩ _
      refine rn1 (jn @zt.eq_1 (jn @t1 (jn @t2 (jn @t3 (jn @t4 (jn @t5 (jn @t6 @tA_allD))))))) ?_
      refine HO_callX ty_ok [] kp (trivial) rfl ?_
      rintro v r' ⟨rfl, rfl⟩ _
      refine rn1 (jn @zt.eq_1 (jn @t1 (jn @t2 (jn @t3 (jn @t4 (jn @t5 (jn @t6 @tA_allD))))))) ?_
      refine HO_callX ty_ok [] tlenN_ac (trivial) rfl ?_
      rintro v r' ⟨rfl, rfl⟩ _
      refine rn1 (jn @zt.eq_1 (jn @t1 (jn @t2 (jn @t3 (jn @t4 (jn @t5 (jn @t6 @tA_allD))))))) ?_
      refine HO_callX ty_ok [] tcloN_ac (trivial) rfl ?_
      rintro v r' ⟨rfl, rfl⟩ _
      refine rn1 (jn @zt.eq_1 (jn @t1 (jn @t2 (jn @t3 (jn @t4 (jn @t5 (jn @t6 @tA_allD))))))) ?_
      refine HO_callX ty_ok [] (allN_ac (-1)) (trivial) rfl ?_
      rintro v r' ⟨rfl, rfl⟩ _
      refine rn1 (jn @zt.eq_1 (jn @t1 (jn @t2 (jn @t3 (jn @t4 (jn @t5 (jn @t6 @tA_allD))))))) ?_
      (repeat (refine And.intro (by omega) ?_))
      refine ⟨1, by omega, by omega, [0, 1], [], ?_⟩
      exact ft1 (jn @tnSt.eq_1 (jn @tnRe.eq_1 (jn @enC.eq_1 @tA_wf)))
    | false =>
      skip
      refine rn1 (jn @zt.eq_1 (jn @t1 (jn @t2 (jn @t3 (jn @t4 (jn @t5 (jn @t6 @tA_allD))))))) ?_
      refine HO_callX ty_ok [] kp (trivial) rfl ?_
      rintro v r' ⟨rfl, rfl⟩ _
      refine rn1 (jn @zt.eq_1 (jn @t1 (jn @t2 (jn @t3 (jn @t4 (jn @t5 (jn @t6 @tA_allD))))))) ?_
      refine HO_callX ty_ok [] tlenN_ac (trivial) rfl ?_
      rintro v r' ⟨rfl, rfl⟩ _
      refine rn1 (jn @zt.eq_1 (jn @t1 (jn @t2 (jn @t3 (jn @t4 (jn @t5 (jn @t6 @tA_allD))))))) ?_
      refine HO_callX ty_ok [] tcloN_ac (trivial) rfl ?_
      rintro v r' ⟨rfl, rfl⟩ _
      refine rn1 (jn @zt.eq_1 (jn @t1 (jn @t2 (jn @t3 (jn @t4 (jn @t5 (jn @t6 @tA_allD))))))) ?_
      refine HO_callX ty_ok [] (allN_ac (-1)) (trivial) rfl ?_
      rintro v r' ⟨rfl, rfl⟩ _
      refine rn1 (jn @zt.eq_1 (jn @t1 (jn @t2 (jn @t3 (jn @t4 (jn @t5 (jn @t6 @tA_allD))))))) ?_
      (repeat (refine And.intro (by omega) ?_))
      refine ⟨1, by omega, by omega, [0, 1], [], ?_⟩
      exact ft1 (jn @tnSt.eq_1 (jn @tnRe.eq_1 (jn @enC.eq_1 @tA_wf)))
  · skip
    have kg := tgtZ_ac x.f
    have kp := tplcZ_ac x.f
    have kn := named_ac x hx
    have hz : ([UInt8.ofNat 0, UInt8.ofNat 0, UInt8.ofNat 0, UInt8.ofNat 0, UInt8.ofNat 0, UInt8.ofNat 0, UInt8.ofNat 0, UInt8.ofNat 0, UInt8.ofNat 0, UInt8.ofNat 0, UInt8.ofNat 0, UInt8.ofNat 0, UInt8.ofNat 0, UInt8.ofNat 0, UInt8.ofNat 0, UInt8.ofNat 0, UInt8.ofNat 0, UInt8.ofNat 0, UInt8.ofNat 0, UInt8.ofNat 0, UInt8.ofNat 0, UInt8.ofNat 0, UInt8.ofNat 0, UInt8.ofNat 0, UInt8.ofNat 0, UInt8.ofNat 0, UInt8.ofNat 0, UInt8.ofNat 0, UInt8.ofNat 0, UInt8.ofNat 0, UInt8.ofNat 0, UInt8.ofNat 0] : List UInt8) = tgz := rfl
    obtain ⟨z1, z2, z3, z4, z5, z6⟩ := tg32 tgz rfl
    have z7 : (tA tgz).drop 32 = [] := List.drop_of_length_le (by omega)
    have hz9 : (List.replicate 32 (0 : UInt8)) = tgz := rfl
    simp only [entE, fctE, zE, zE.zF0, flatE_nil, List.length_nil, hz9, List.cons_append, List.nil_append] at kg kp kn
    refine rn1 (jn @tnSt.eq_1 (jn @tnRe.eq_1 (jn @enC.eq_1 (jn @hz (jn @z1 (jn @z2 (jn @z3 (jn @z4 (jn @z5 (jn @z6 (jn @t1 (jn @t2 (jn @t3 (jn @t4 (jn @t5 (jn @t6 @tA_allD)))))))))))))))) ?_
    (repeat (refine And.intro (by omega) ?_))
    refine HO_callX ty_ok [1] kg (zt_hand _ _ rfl) (zt_wf) ?_
    rintro v r' ⟨rfl, rfl⟩ _
    refine rn1 (jn @zt.eq_1 (jn @hz (jn @z1 (jn @z2 (jn @z3 (jn @z4 (jn @z5 (jn @z6 (jn @z7 (jn @t1 (jn @t2 (jn @t3 (jn @t4 (jn @t5 (jn @t6 @tA_allD))))))))))))))) ?_
    refine HO_pureA ty_ok kn ?_
    cases hm : nmd x with
    | true =>
      have ke := tentZ_ac x hx (of_decide_eq_true hm)
      simp only [entE, fctE, List.cons_append, List.nil_append] at ke
      refine rn1 (jn @zt.eq_1 (jn @t1 (jn @t2 (jn @t3 (jn @t4 (jn @t5 (jn @t6 @tA_allD))))))) ?_
      refine HO_callX ty_ok [1] ke (zt_hand _ _ rfl) (zt_wf) ?_
      rintro v r' ⟨rfl, rfl⟩ _
      refine rn1 (jn @zt.eq_1 (jn @t1 (jn @t2 (jn @t3 (jn @t4 (jn @t5 (jn @t6 @tA_allD))))))) ?_
      refine HO_callX ty_ok [1] kp (zt_hand _ _ rfl) (zt_wf) ?_
      rintro v r' ⟨rfl, rfl⟩ _
      refine rn1 (jn @zt.eq_1 (jn @t1 (jn @t2 (jn @t3 (jn @t4 (jn @t5 (jn @t6 @tA_allD))))))) ?_
      refine HO_callX ty_ok [1] tlenZ_ac (zt_hand _ _ rfl) (zt_wf) ?_
      rintro v r' ⟨rfl, rfl⟩ _
      refine rn1 (jn @zt.eq_1 (jn @t1 (jn @t2 (jn @t3 (jn @t4 (jn @t5 (jn @t6 @tA_allD))))))) ?_
      refine HO_callX ty_ok [1] tcloZ_ac (zt_hand _ _ rfl) (zt_wf) ?_
      rintro v r' ⟨rfl, rfl⟩ _
      refine rn1 (jn @zt.eq_1 (jn @t1 (jn @t2 (jn @t3 (jn @t4 (jn @t5 (jn @t6 @tA_allD))))))) ?_
      refine HO_callX ty_ok [1] (allZ_ac (-1)) (zt_hand _ _ rfl) (zt_wf) ?_
      rintro v r' ⟨rfl, rfl⟩ _
      refine rn1 (jn @zt.eq_1 (jn @t1 (jn @t2 (jn @t3 (jn @t4 (jn @t5 (jn @t6 @tA_allD))))))) ?_
      (repeat (refine And.intro (by omega) ?_))
      refine ⟨2, by omega, by omega, [0, 1], [], ?_⟩
      exact ft1 (jn @tnSt.eq_1 (jn @tnRe.eq_1 (jn @enC.eq_1 @tA_wf)))
    | false =>
      skip
      refine rn1 (jn @zt.eq_1 (jn @t1 (jn @t2 (jn @t3 (jn @t4 (jn @t5 (jn @t6 @tA_allD))))))) ?_
      refine HO_callX ty_ok [1] kp (zt_hand _ _ rfl) (zt_wf) ?_
      rintro v r' ⟨rfl, rfl⟩ _
      refine rn1 (jn @zt.eq_1 (jn @t1 (jn @t2 (jn @t3 (jn @t4 (jn @t5 (jn @t6 @tA_allD))))))) ?_
      refine HO_callX ty_ok [1] tlenZ_ac (zt_hand _ _ rfl) (zt_wf) ?_
      rintro v r' ⟨rfl, rfl⟩ _
      refine rn1 (jn @zt.eq_1 (jn @t1 (jn @t2 (jn @t3 (jn @t4 (jn @t5 (jn @t6 @tA_allD))))))) ?_
      refine HO_callX ty_ok [1] tcloZ_ac (zt_hand _ _ rfl) (zt_wf) ?_
      rintro v r' ⟨rfl, rfl⟩ _
      refine rn1 (jn @zt.eq_1 (jn @t1 (jn @t2 (jn @t3 (jn @t4 (jn @t5 (jn @t6 @tA_allD))))))) ?_
      refine HO_callX ty_ok [1] (allZ_ac (-1)) (zt_hand _ _ rfl) (zt_wf) ?_
      rintro v r' ⟨rfl, rfl⟩ _
      refine rn1 (jn @zt.eq_1 (jn @t1 (jn @t2 (jn @t3 (jn @t4 (jn @t5 (jn @t6 @tA_allD))))))) ?_
      (repeat (refine And.intro (by omega) ?_))
      refine ⟨2, by omega, by omega, [0, 1], [], ?_⟩
      exact ft1 (jn @tnSt.eq_1 (jn @tnRe.eq_1 (jn @enC.eq_1 @tA_wf)))
  · refine rn1 (jn @tnSt.eq_1 (jn @tnRe.eq_1 @enC.eq_1)) ?_
    refine HO_pureA ty_ok tlive_ac ?_
    exact rz0
end Go.Proofs.Ythdjblfiiogmgaa
