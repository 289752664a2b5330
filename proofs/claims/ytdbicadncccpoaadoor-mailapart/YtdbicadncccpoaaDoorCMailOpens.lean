import Derived.Test.YtdbicadncccpoaaDoorCJ15
import Derived.Test.YtdbicadncccpoaaDoorCJ1
set_option linter.unusedVariables false
set_option linter.unusedSimpArgs false
set_option maxRecDepth 100000
namespace Go.Proofs.YtdbicadncccpoaaDoor
open Go Go.ChangeShapes Go.WideShapes
theorem opnP_ok (n : Int) (l : List ByteArray) (b : List UInt8) : (opnP n l b).1.f.l.length ≤ 48 ∧ okP (opnP n l b).1 := by
  have hz : (zP.f.l.length ≤ 48 ∧ okP zP) := ⟨by decide, by decide, by decide, by decide, by decide, by simp [zP, zF, okF], rfl⟩
  unfold opnP
  split
  · exact hz
  · split
    · exact hz
    · split
      · exact ⟨(getP_small _).1, (getP_small _).2.1⟩
      · exact hz
set_option maxHeartbeats 400000 in
theorem mailOpens_ac (s : List ByteArray) (b : List UInt8) (hb : b.length ≤ 140737488355000) :
    AC Tryd.prog noG 4 [.d (.sl 1 s.length (sD s)), .d (.sl 1 b.length (bD b))] [] (fun v r' => v = .d (.c (.bool true)) ∧ r' = []) := by
  refine AC.pure ?_ (by rintro v rfl; rfl)
  refine AC_of_R (N := 76) (res := [.tmp 4]) ty_ok Tryd.call4 Tryd.func4 rfl rfl rfl (Nat.le_of_ble_eq_true rfl) ?_
  by_cases hb5 : b.length ≤ 5000
  · have g5 : ¬ (b.length : Int) > 5000 := by omega
    by_cases hE : newE s = 0
    · have h6 : s.length ≤ 6 := by
        by_cases h6 : 6 < s.length
        · rw [newE, if_pos h6] at hE; exact absurd hE (by decide)
        · omega
      have h0 : 0 < s.length := by
        by_cases h0 : s.length = 0
        · rw [newE, if_neg (by omega), if_pos h0] at hE; exact absurd hE (by decide)
        · omega
      have k1 := open_ac 5 s [] b h0 (by omega) (by omega)
      have k2 := ropen_ac 5 s [] b (by decide) (by decide) (by omega) (by omega)
      have kl := rlen_ac 5 s []
      obtain ⟨g1, g2⟩ := opnP_ok 5 s b
      rw [gpV] at k1 k2
      generalize opnP 5 s b = gp at *
      obtain ⟨q, e⟩ := gp
      simp only at g1 g2 k1 k2
      have ks := rps_ac q q (by omega) (by omega) g2.2.2.2.2.2 g2.2.2.2.2.2
      rw [decide_eq_true rfl] at ks
      obtain ⟨u1, u2, u3, u4, u5, u6⟩ := tg32 q.tg g2.2.2.2.2.2
      simp only [pktE, itE, List.cons_append, List.nil_append, List.length_nil] at k1 k2 ks kl
      refine rn1 @g5 ?_
      refine HO_callX ty_ok [] (rings_ok s hE) (trivial) rfl ?_
      rintro v r' ⟨rfl, rfl⟩ _
      refine rn1 (jn @mpRg.eq_1 (jn @rgO.eq_1 @rqO.eq_1)) ?_
      refine HO_pureA ty_ok (lent_ac b (by omega)) ?_
      refine rn0 ?_
      refine HO_callX ty_ok [0, 1, 2] k1 (rg_hand _ _ _ _ _ _ _ rfl rfl rfl) (rg_wf _ _ _) ?_
      rintro v r' ⟨rfl, rfl⟩ _
      refine rn1 (jn @rg.eq_1 (jn @rgO.eq_1 (jn @u1 (jn @u2 (jn @u3 (jn @u4 (jn @u5 (jn @u6 @tA_allD)))))))) ?_
      refine HO_callX ty_ok [3, 4] k2 (rq_hand _ _ _ _ _ _ rfl rfl) (rq_wf _ _ _) ?_
      rintro v r' ⟨rfl, rfl⟩ _
      refine rn1 (jn @rq.eq_1 (jn @rqO.eq_1 (jn @u1 (jn @u2 (jn @u3 (jn @u4 (jn @u5 (jn @u6 @tA_allD)))))))) ?_
      refine HO_pureA ty_ok ks ?_
      refine rn0 ?_
      refine HO_callX ty_ok [0, 1, 2] kl (rg_hand _ _ _ _ _ _ _ rfl rfl rfl) (rg_wf _ _ _) ?_
      rintro v r' ⟨rfl, rfl⟩ _
      refine rn1 (jn @rg.eq_1 @rgO.eq_1) ?_
      refine HO_pureA ty_ok (kept_ac b (by omega)) ?_
      refine rn0 ?_
      refine HO_pureA ty_ok mlive_ac ?_
      exact rz0
    · have kn := open_n b
      rw [gpV] at kn
      obtain ⟨z1, z2, z3, z4, z5, z6⟩ := tg32 tg0 rfl
      simp only [zP, pktE, itE, zF, flatE_nil, List.cons_append, List.nil_append, List.length_nil] at kn
      refine rn1 @g5 ?_
      refine HO_callX ty_ok [] (rings_bad s hE) (trivial) rfl ?_
      rintro v r' ⟨rfl, rfl⟩ _
      refine rn1 @np.eq_1 ?_
      refine HO_pureA ty_ok kn ?_
      refine rn1 (jn @z1 (jn @z2 (jn @z3 (jn @z4 (jn @z5 (jn @z6 @tA_allD)))))) ?_
      refine HO_pureA ty_ok mlive_ac ?_
      exact rz0
  · have g5 : (b.length : Int) > 5000 := by omega
    refine rn1 @g5 ?_
    refine HO_pureA ty_ok mlive_ac ?_
    exact rz0
end Go.Proofs.YtdbicadncccpoaaDoor
