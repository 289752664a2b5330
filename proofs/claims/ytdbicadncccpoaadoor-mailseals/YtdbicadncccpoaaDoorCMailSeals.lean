import Derived.Test.YtdbicadncccpoaaDoorCJ15
import Derived.Test.YtdbicadncccpoaaDoorCJ1
set_option linter.unusedVariables false
set_option linter.unusedSimpArgs false
set_option maxRecDepth 100000
namespace Go.Proofs.YtdbicadncccpoaaDoor
open Go Go.ChangeShapes Go.WideShapes
theorem sealX_len (n : Int) (l : List ByteArray) (bk : List Pr) (p : Pkt) (ho : okP p) : (sealX n l bk p).length ≤ 300032 := by
  unfold sealX
  split
  · rename_i h
    have := putP_len p ho h.1
    rw [List.length_append, rtag_len]; omega
  · simp
set_option maxHeartbeats 400000 in
theorem mailSeals_ac (s : List ByteArray) (p : Pkt) (hs : s.length ≤ 140737488352000) (hp : szPk p) (ho : okP p) :
    AC Tryd.prog noG 3 [.d (.sl 1 s.length (sD s)), .d (.agg (pktE p))] [] (fun v r' => v = .d (.c (.bool true)) ∧ r' = []) := by
  refine AC.pure ?_ (by rintro v rfl; rfl)
  refine AC_of_R (N := 73) (res := [.tmp 4]) ty_ok Tryd.call3 Tryd.func3 rfl rfl rfl (Nat.le_of_ble_eq_true rfl) ?_
  have hf : p.f.l.length ≤ 140737488352000 := hp.2.2.2.2.2.1
  have hw := wP_ac p hp.1 hp.2.1 hp.2.2 ho.2.2.2.2.2
  obtain ⟨t1, t2, t3, t4, t5, t6⟩ := tg32 p.tg ho.2.2.2.2.2
  have kn := seal_n p ho.2.2.2.2.2
  simp only [pktE, itE, List.cons_append, List.nil_append] at hw kn
  refine rn1 (jn @pktE.eq_1 (jn @itE.eq_1 (jn @t1 (jn @t2 (jn @t3 (jn @t4 (jn @t5 (jn @t6 @tA_allD)))))))) ?_
  refine HO_callX ty_ok [] hw (trivial) rfl ?_
  rintro v r' ⟨⟨n, rfl⟩, rfl⟩ _
  by_cases hn : n > 200
  · refine rn1 @hn ?_
    refine HO_pureA ty_ok mlive_ac ?_
    exact rz0
  by_cases hE : newE s = 0
  · have h6 : s.length ≤ 6 := by
      by_cases h6 : 6 < s.length
      · rw [newE, if_pos h6] at hE; exact absurd hE (by decide)
      · omega
    have h0 : 0 < s.length := by
      by_cases h0 : s.length = 0
      · rw [newE, if_neg (by omega), if_pos h0] at hE; exact absurd hE (by decide)
      · omega
    have k1 := seal_ac 5 s [] p h0 (by omega) hf ho
    have k2 := rseal_ac 5 s [] p (by decide) (by decide) (by omega) (by simp) hf ho
    have kl := rlen_ac 5 s (sealB s [] p)
    have hxl := sealX_len 5 s [] p ho
    have sm := same_ac (sealX 5 s [] p) (sealX 5 s [] p) (by omega) (by omega)
    rw [decide_eq_true rfl] at sm
    simp only [pktE, itE, List.cons_append, List.nil_append] at k1 k2
    generalize sealX 5 s [] p = X at *
    generalize sealE s [] p = e at *
    generalize sealB s [] p = B at *
    refine rn1 @hn ?_
    refine HO_callX ty_ok [] (rings_ok s hE) (trivial) rfl ?_
    rintro v r' ⟨rfl, rfl⟩ _
    refine rn1 (jn @mpRg.eq_1 (jn @rgO.eq_1 (jn @rqO.eq_1 (jn @t1 (jn @t2 (jn @t3 (jn @t4 (jn @t5 (jn @t6 @tA_allD))))))))) ?_
    refine HO_callX ty_ok [1, 2, 3] k1 (rg_hand _ _ _ _ _ _ _ rfl rfl rfl) (rg_wf _ _ _) ?_
    rintro v r' ⟨rfl, rfl⟩ _
    refine rn1 (jn @rg.eq_1 (jn @rgO.eq_1 (jn @t1 (jn @t2 (jn @t3 (jn @t4 (jn @t5 (jn @t6 @tA_allD)))))))) ?_
    refine HO_callX ty_ok [4, 5] k2 (rq_hand _ _ _ _ _ _ rfl rfl) (rq_wf _ _ _) ?_
    rintro v r' ⟨rfl, rfl⟩ _
    refine rn1 (jn @rq.eq_1 @rqO.eq_1) ?_
    refine HC_of_HV mix ?_
    refine HV_split 14 10 (by decide) ?_ ?_
    · simp only [addAt]
      refine HV_order [] ty_ok [0, 1, 2, 3, 4, 5, 6, 7, 8, 9, 11, 12, 13, 14, 15, 10, 16, 17, 18, 19, 20, 21] (by kernel_rfl) rfl _ rfl ?_
      simp only [opl_nil', opl_cons', oplC_some, List.getElem?_toArray, List.getElem?_cons_zero, List.getElem?_cons_succ]
      refine rn1 (jn @rg.eq_1 (jn @rgO.eq_1 (jn @rq.eq_1 @rqO.eq_1))) ?_
      first
        | refine HO_pureA ty_ok sm ?_
        | refine HO_pureA ty_ok mlive_ac ?_
        | (refine HO_callX ty_ok [1, 2, 3] kl (rg_hand _ _ _ _ _ _ _ rfl rfl rfl) (rg_wf _ _ _) ?_
           rintro v r' ⟨rfl, rfl⟩ _)
      refine rn1 (jn @rg.eq_1 (jn @rgO.eq_1 (jn @rq.eq_1 @rqO.eq_1))) ?_
      first
        | refine HO_pureA ty_ok sm ?_
        | refine HO_pureA ty_ok mlive_ac ?_
        | (refine HO_callX ty_ok [1, 2, 3] kl (rg_hand _ _ _ _ _ _ _ rfl rfl rfl) (rg_wf _ _ _) ?_
           rintro v r' ⟨rfl, rfl⟩ _)
      refine rn1 (jn @rg.eq_1 (jn @rgO.eq_1 (jn @rq.eq_1 @rqO.eq_1))) ?_
      first
        | refine HO_pureA ty_ok sm ?_
        | refine HO_pureA ty_ok mlive_ac ?_
        | (refine HO_callX ty_ok [1, 2, 3] kl (rg_hand _ _ _ _ _ _ _ rfl rfl rfl) (rg_wf _ _ _) ?_
           rintro v r' ⟨rfl, rfl⟩ _)
      exact rz1 (jn @rg.eq_1 (jn @rgO.eq_1 (jn @rq.eq_1 @rqO.eq_1)))
    · simp only [addAt]
      refine HV_order [] ty_ok [0, 1, 2, 3, 4, 5, 6, 7, 8, 9, 11, 12, 13, 10, 14, 15, 16, 17, 18, 19, 20, 21] (by kernel_rfl) rfl _ rfl ?_
      simp only [opl_nil', opl_cons', oplC_some, List.getElem?_toArray, List.getElem?_cons_zero, List.getElem?_cons_succ]
      refine rn1 (jn @rg.eq_1 (jn @rgO.eq_1 (jn @rq.eq_1 @rqO.eq_1))) ?_
      first
        | refine HO_pureA ty_ok sm ?_
        | refine HO_pureA ty_ok mlive_ac ?_
        | (refine HO_callX ty_ok [1, 2, 3] kl (rg_hand _ _ _ _ _ _ _ rfl rfl rfl) (rg_wf _ _ _) ?_
           rintro v r' ⟨rfl, rfl⟩ _)
      refine rn1 (jn @rg.eq_1 (jn @rgO.eq_1 (jn @rq.eq_1 @rqO.eq_1))) ?_
      first
        | refine HO_pureA ty_ok sm ?_
        | refine HO_pureA ty_ok mlive_ac ?_
        | (refine HO_callX ty_ok [1, 2, 3] kl (rg_hand _ _ _ _ _ _ _ rfl rfl rfl) (rg_wf _ _ _) ?_
           rintro v r' ⟨rfl, rfl⟩ _)
      refine rn1 (jn @rg.eq_1 (jn @rgO.eq_1 (jn @rq.eq_1 @rqO.eq_1))) ?_
      first
        | refine HO_pureA ty_ok sm ?_
        | refine HO_pureA ty_ok mlive_ac ?_
        | (refine HO_callX ty_ok [1, 2, 3] kl (rg_hand _ _ _ _ _ _ _ rfl rfl rfl) (rg_wf _ _ _) ?_
           rintro v r' ⟨rfl, rfl⟩ _)
      exact rz1 (jn @rg.eq_1 (jn @rgO.eq_1 (jn @rq.eq_1 @rqO.eq_1)))
  · refine rn1 @hn ?_
    refine HO_callX ty_ok [] (rings_bad s hE) (trivial) rfl ?_
    rintro v r' ⟨rfl, rfl⟩ _
    refine rn1 (jn @np.eq_1 (jn @t1 (jn @t2 (jn @t3 (jn @t4 (jn @t5 (jn @t6 @tA_allD))))))) ?_
    refine HO_pureA ty_ok kn ?_
    refine rn0 ?_
    refine HO_pureA ty_ok mlive_ac ?_
    exact rz0
end Go.Proofs.YtdbicadncccpoaaDoor
