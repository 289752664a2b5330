/- Parts of the proof: CReason. -/
import Derived.Test.YtdbicadncccpoaaGreatCJ5
set_option linter.unusedVariables false
set_option linter.unusedSimpArgs false
set_option maxRecDepth 100000
namespace Go.Proofs.YtdbicadncccpoaaGreat
open Go Go.ChangeShapes Go.WideShapes
/-! cert: a fact's reason. -/
def reasonP (S : List Srce) (who : ByteArray) (f : Fct) : Ntr × ByteArray × Bool :=
  if hasP (srcT who S) f = false then (getP (srcT who S) f, ⟨#[]⟩, false)
  else if (getP (srcT who S) f).why = 3 ∧ hasP (srcT f.b S) f = true ∧ (getP (srcT f.b S) f).why = 2 then (getP (srcT f.b S) f, f.b, true)
  else (getP (srcT who S) f, who, true)
def fB (f : Fct) : Option Res := some (.obj [.d (.c (.string f.a)), .d (.c (.string f.b)), .d (.c (.string f.p)), .d (.sl 3 f.l.length (flatE cstE f.l))])
def zB : Option Res := some (.obj ([.d (.c (.string ⟨#[]⟩)), .d (.c (.string ⟨#[]⟩)), .d (.c (.string ⟨#[]⟩)), .d (.c (.slice none 0 0)), .d (.c (.int .i64 0)), .d (.c (.int .i64 0)), .d (.c (.slice none 0 0))] ++ tA tgz))
def xB (x : Ntr) : Option Res := some (.obj (enC x.f x.why x.rule (.d (.sl 4 x.body.length (flatE fctE x.body))) x.tg))
def rsA (who : ByteArray) (q : Bool) : List (Nat × AV) := [(0, .ptr 0 0), (1, .d (.c (.string who))), (5, .ptr 3 0), (6, .ptr 4 0), (9, .ptr 5 0), (10, .d (.c (.bool q)))]
def rsB (who : ByteArray) (q : Bool) : List (Nat × AV) := [(0, .ptr 0 0), (1, .d (.c (.string who))), (5, .ptr 3 0), (6, .ptr 4 0), (9, .ptr 5 0), (11, .ptr 6 0), (12, .d (.c (.bool q)))]
set_option maxHeartbeats 400000 in
theorem reason0_ac (S : List Srce) (hS : okS S) (who : ByteArray) (f : Fct) (hf : f.l.length ≤ 140737488352000) (n : Nat) (l : List D) (t : Nat) : AC Tryz.prog noG 62 [.ptr 0 0, .d (.c (.string who)), .d (.agg (fctE f))] (R0 S n l t) (fun v r' => v = .tup [.d (.agg (entE (reasonP S who f).1)), .d (.c (.string (reasonP S who f).2.1)), .d (.c (.bool (reasonP S who f).2.2))] ∧ r' = R0 S n l t) := by
  refine AC.fit ?_
  refine AC_of_R (N := 47) (res := [.cell 6 43, .tmp 7, .tmp 8]) ty_ok Tryz.call62 Tryz.func62 rfl rfl rfl (Nat.le_of_ble_eq_true rfl) ?_
  have hz : ([UInt8.ofNat 0, UInt8.ofNat 0, UInt8.ofNat 0, UInt8.ofNat 0, UInt8.ofNat 0, UInt8.ofNat 0, UInt8.ofNat 0, UInt8.ofNat 0, UInt8.ofNat 0, UInt8.ofNat 0, UInt8.ofNat 0, UInt8.ofNat 0, UInt8.ofNat 0, UInt8.ofNat 0, UInt8.ofNat 0, UInt8.ofNat 0, UInt8.ofNat 0, UInt8.ofNat 0, UInt8.ofNat 0, UInt8.ofNat 0, UInt8.ofNat 0, UInt8.ofNat 0, UInt8.ofNat 0, UInt8.ofNat 0, UInt8.ofNat 0, UInt8.ofNat 0, UInt8.ofNat 0, UInt8.ofNat 0, UInt8.ofNat 0, UInt8.ofNat 0, UInt8.ofNat 0, UInt8.ofNat 0] : List UInt8) = tgz := rfl
  obtain ⟨z1, z2, z3, z4, z5, z6⟩ := tg32 tgz rfl
  have z7 : (tA tgz).drop 32 = [] := List.drop_of_length_le (by omega)
  have hp := okS_src hS who
  have hp2 := okS_src hS f.b
  have ko := of0_ac S hS who n l t
  have ko2 := of0_ac S hS f.b n l t
  have kg := getS_ac (srcT who S) hp f hf
  have kg2 := getS_ac (srcT f.b S) hp2 f hf
  have hx := okE_getP hp f
  have hy := okE_getP hp2 f
  have hr : reasonP S who f = _ := reasonP.eq_1 S who f
  generalize reasonP S who f = R at *
  generalize hasP (srcT who S) f = q at *
  generalize hasP (srcT f.b S) f = q2 at *
  generalize getP (srcT who S) f = x at *
  generalize getP (srcT f.b S) f = y at *
  obtain ⟨t1, t2, t3, t4, t5, t6⟩ := tg32 x.tg hx.1
  obtain ⟨u1, u2, u3, u4, u5, u6⟩ := tg32 y.tg hy.1
  generalize srcT who S = pp at *
  generalize srcT f.b S = pp2 at *
  simp only [entE, fctE, List.cons_append, List.nil_append] at kg kg2
  refine rn1 (jn @R0.eq_1 (jn @fctE.eq_1 (jn @hz (jn @z1 (jn @z2 (jn @z3 (jn @z4 (jn @z5 (jn @z6 @tA_allD))))))))) ?_
  refine HC_cutR (rsA who q) (R0 S n l t ++ [fB f, zB, xB x]) ?_ ?_
  · skip
    refine HC_of_HV mix ?_
    refine HV_split 3 2 (by decide) ?_ ?_
    · simp only [addAt]
      refine HV_split 2 8 (by decide) ?_ ?_
      · simp only [addAt]
        refine HV_split 4 8 (by decide) ?_ ?_
        · simp only [addAt]
          refine HV_order [] ty_ok [0, 1, 3, 2, 4, 5, 6, 7, 8, 9, 10] (by kernel_rfl) rfl _ rfl ?_
          simp only [opl_nil', opl_cons', oplC_some, List.getElem?_toArray, List.getElem?_cons_zero, List.getElem?_cons_succ]
          refine rn1 (jn @hz (jn @z1 (jn @z2 (jn @z3 (jn @z4 (jn @z5 (jn @z6 @tA_allD))))))) ?_
          refine HO_callX ty_ok [0, 1, 2] ko (R0_hand _ _ _ _ _ _ _ _ rfl rfl) (R0_wf _ _ _ _) ?_
          rintro v r' ⟨rfl, rfl⟩ _
          refine rn1 (jn @R0.eq_1 (jn @renL_map_d (jn @hz (jn @z1 (jn @z2 (jn @z3 (jn @z4 (jn @z5 (jn @z6 @tA_allD))))))))) ?_
          refine HO_pureA ty_ok kg ?_
          refine rn1 (jn @hz (jn @z1 (jn @z2 (jn @z3 (jn @z4 (jn @z5 (jn @z6 (jn @z7 (jn @t1 (jn @t2 (jn @t3 (jn @t4 (jn @t5 (jn @t6 @tA_allD)))))))))))))) ?_
          refine ⟨[0, 1, 2, 3, 4, 5], [], ?_⟩
          exact ft1 (jn @rsA.eq_1 (jn @R0.eq_1 (jn @fB.eq_1 (jn @zB.eq_1 (jn @xB.eq_1 (jn @enC.eq_1 (jn @tA_wf @wfL_map_d)))))))
        · simp only [addAt]
          refine HV_order [] ty_ok [0, 1, 3, 2, 8, 4, 5, 6, 7, 9, 10] (by kernel_rfl) rfl _ rfl ?_
          simp only [opl_nil', opl_cons', oplC_some, List.getElem?_toArray, List.getElem?_cons_zero, List.getElem?_cons_succ]
          refine rn1 (jn @hz (jn @z1 (jn @z2 (jn @z3 (jn @z4 (jn @z5 (jn @z6 @tA_allD))))))) ?_
          refine HO_callX ty_ok [0, 1, 2] ko (R0_hand _ _ _ _ _ _ _ _ rfl rfl) (R0_wf _ _ _ _) ?_
          rintro v r' ⟨rfl, rfl⟩ _
          refine rn1 (jn @R0.eq_1 (jn @renL_map_d (jn @hz (jn @z1 (jn @z2 (jn @z3 (jn @z4 (jn @z5 (jn @z6 @tA_allD))))))))) ?_
          refine HO_pureA ty_ok kg ?_
          refine rn1 (jn @hz (jn @z1 (jn @z2 (jn @z3 (jn @z4 (jn @z5 (jn @z6 (jn @z7 (jn @t1 (jn @t2 (jn @t3 (jn @t4 (jn @t5 (jn @t6 @tA_allD)))))))))))))) ?_
          refine ⟨[0, 1, 2, 3, 4, 5], [], ?_⟩
          exact ft1 (jn @rsA.eq_1 (jn @R0.eq_1 (jn @fB.eq_1 (jn @zB.eq_1 (jn @xB.eq_1 (jn @enC.eq_1 (jn @tA_wf @wfL_map_d)))))))
      · simp only [addAt]
        refine HV_order [] ty_ok [0, 1, 3, 8, 2, 4, 5, 6, 7, 9, 10] (by kernel_rfl) rfl _ rfl ?_
        simp only [opl_nil', opl_cons', oplC_some, List.getElem?_toArray, List.getElem?_cons_zero, List.getElem?_cons_succ]
        refine rn1 (jn @hz (jn @z1 (jn @z2 (jn @z3 (jn @z4 (jn @z5 (jn @z6 @tA_allD))))))) ?_
        refine HO_callX ty_ok [0, 1, 2] ko (R0_hand _ _ _ _ _ _ _ _ rfl rfl) (R0_wf _ _ _ _) ?_
        rintro v r' ⟨rfl, rfl⟩ _
        refine rn1 (jn @R0.eq_1 (jn @renL_map_d (jn @hz (jn @z1 (jn @z2 (jn @z3 (jn @z4 (jn @z5 (jn @z6 @tA_allD))))))))) ?_
        refine HO_pureA ty_ok kg ?_
        refine rn1 (jn @hz (jn @z1 (jn @z2 (jn @z3 (jn @z4 (jn @z5 (jn @z6 (jn @z7 (jn @t1 (jn @t2 (jn @t3 (jn @t4 (jn @t5 (jn @t6 @tA_allD)))))))))))))) ?_
        refine ⟨[0, 1, 2, 3, 4, 5], [], ?_⟩
        exact ft1 (jn @rsA.eq_1 (jn @R0.eq_1 (jn @fB.eq_1 (jn @zB.eq_1 (jn @xB.eq_1 (jn @enC.eq_1 (jn @tA_wf @wfL_map_d)))))))
    · simp only [addAt]
      refine HV_split 2 8 (by decide) ?_ ?_
      · simp only [addAt]
        refine HV_split 4 8 (by decide) ?_ ?_
        · simp only [addAt]
          refine HV_order [] ty_ok [0, 1, 2, 3, 4, 5, 6, 7, 8, 9, 10] (by kernel_rfl) rfl _ rfl ?_
          simp only [opl_nil', opl_cons', oplC_some, List.getElem?_toArray, List.getElem?_cons_zero, List.getElem?_cons_succ]
          refine rn1 (jn @hz (jn @z1 (jn @z2 (jn @z3 (jn @z4 (jn @z5 (jn @z6 @tA_allD))))))) ?_
          refine HO_callX ty_ok [0, 1, 2] ko (R0_hand _ _ _ _ _ _ _ _ rfl rfl) (R0_wf _ _ _ _) ?_
          rintro v r' ⟨rfl, rfl⟩ _
          refine rn1 (jn @R0.eq_1 (jn @renL_map_d (jn @hz (jn @z1 (jn @z2 (jn @z3 (jn @z4 (jn @z5 (jn @z6 @tA_allD))))))))) ?_
          refine HO_pureA ty_ok kg ?_
          refine rn1 (jn @hz (jn @z1 (jn @z2 (jn @z3 (jn @z4 (jn @z5 (jn @z6 (jn @z7 (jn @t1 (jn @t2 (jn @t3 (jn @t4 (jn @t5 (jn @t6 @tA_allD)))))))))))))) ?_
          refine ⟨[0, 1, 2, 3, 4, 5], [], ?_⟩
          exact ft1 (jn @rsA.eq_1 (jn @R0.eq_1 (jn @fB.eq_1 (jn @zB.eq_1 (jn @xB.eq_1 (jn @enC.eq_1 (jn @tA_wf @wfL_map_d)))))))
        · simp only [addAt]
          refine HV_order [] ty_ok [0, 1, 2, 3, 8, 4, 5, 6, 7, 9, 10] (by kernel_rfl) rfl _ rfl ?_
          simp only [opl_nil', opl_cons', oplC_some, List.getElem?_toArray, List.getElem?_cons_zero, List.getElem?_cons_succ]
          refine rn1 (jn @hz (jn @z1 (jn @z2 (jn @z3 (jn @z4 (jn @z5 (jn @z6 @tA_allD))))))) ?_
          refine HO_callX ty_ok [0, 1, 2] ko (R0_hand _ _ _ _ _ _ _ _ rfl rfl) (R0_wf _ _ _ _) ?_
          rintro v r' ⟨rfl, rfl⟩ _
          refine rn1 (jn @R0.eq_1 (jn @renL_map_d (jn @hz (jn @z1 (jn @z2 (jn @z3 (jn @z4 (jn @z5 (jn @z6 @tA_allD))))))))) ?_
          refine HO_pureA ty_ok kg ?_
          refine rn1 (jn @hz (jn @z1 (jn @z2 (jn @z3 (jn @z4 (jn @z5 (jn @z6 (jn @z7 (jn @t1 (jn @t2 (jn @t3 (jn @t4 (jn @t5 (jn @t6 @tA_allD)))))))))))))) ?_
          refine ⟨[0, 1, 2, 3, 4, 5], [], ?_⟩
          exact ft1 (jn @rsA.eq_1 (jn @R0.eq_1 (jn @fB.eq_1 (jn @zB.eq_1 (jn @xB.eq_1 (jn @enC.eq_1 (jn @tA_wf @wfL_map_d)))))))
      · simp only [addAt]
        refine HV_order [] ty_ok [0, 1, 8, 2, 3, 4, 5, 6, 7, 9, 10] (by kernel_rfl) rfl _ rfl ?_
        simp only [opl_nil', opl_cons', oplC_some, List.getElem?_toArray, List.getElem?_cons_zero, List.getElem?_cons_succ]
        refine rn1 (jn @hz (jn @z1 (jn @z2 (jn @z3 (jn @z4 (jn @z5 (jn @z6 @tA_allD))))))) ?_
        refine HO_callX ty_ok [0, 1, 2] ko (R0_hand _ _ _ _ _ _ _ _ rfl rfl) (R0_wf _ _ _ _) ?_
        rintro v r' ⟨rfl, rfl⟩ _
        refine rn1 (jn @R0.eq_1 (jn @renL_map_d (jn @hz (jn @z1 (jn @z2 (jn @z3 (jn @z4 (jn @z5 (jn @z6 @tA_allD))))))))) ?_
        refine HO_pureA ty_ok kg ?_
        refine rn1 (jn @hz (jn @z1 (jn @z2 (jn @z3 (jn @z4 (jn @z5 (jn @z6 (jn @z7 (jn @t1 (jn @t2 (jn @t3 (jn @t4 (jn @t5 (jn @t6 @tA_allD)))))))))))))) ?_
        refine ⟨[0, 1, 2, 3, 4, 5], [], ?_⟩
        exact ft1 (jn @rsA.eq_1 (jn @R0.eq_1 (jn @fB.eq_1 (jn @zB.eq_1 (jn @xB.eq_1 (jn @enC.eq_1 (jn @tA_wf @wfL_map_d)))))))
  cases q with
  | false =>
    rw [if_pos rfl] at hr
    subst hr
    refine rn1 (jn @rsA.eq_1 (jn @R0.eq_1 (jn @fB.eq_1 (jn @zB.eq_1 (jn @xB.eq_1 (jn @enC.eq_1 (jn @t1 (jn @t2 (jn @t3 (jn @t4 (jn @t5 (jn @t6 (jn @z1 (jn @z2 (jn @z3 (jn @z4 (jn @z5 (jn @z6 (jn @z7 @tA_allD))))))))))))))))))) ?_
    (repeat (refine And.intro (by omega) ?_))
    simp only [entE, fctE, List.cons_append, List.nil_append]
    exact fv1 [0,1,2] [] (jn @R0.eq_1 @wfL_map_d)
  | true =>
    rw [if_neg (by decide)] at hr
    by_cases hw : x.why = 3
    · refine rn1 (jn @hw (jn @rsA.eq_1 (jn @R0.eq_1 (jn @fB.eq_1 (jn @zB.eq_1 (jn @xB.eq_1 (jn @enC.eq_1 (jn @t1 (jn @t2 (jn @t3 (jn @t4 (jn @t5 (jn @t6 (jn @z1 (jn @z2 (jn @z3 (jn @z4 (jn @z5 (jn @z6 (jn @z7 @tA_allD)))))))))))))))))))) ?_
      refine HC_cutR (rsB who q2) (R0 S n l t ++ [fB f, zB, xB x, xB y]) ?_ ?_
      · skip
        refine HC_of_HV mix ?_
        refine HV_split 4 3 (by decide) ?_ ?_
        · simp only [addAt]
          refine HV_split 3 9 (by decide) ?_ ?_
          · simp only [addAt]
            refine HV_split 5 9 (by decide) ?_ ?_
            · simp only [addAt]
              refine HV_order [] ty_ok [0, 1, 2, 4, 3, 5, 6, 7, 8, 9, 10, 11] (by kernel_rfl) rfl _ rfl ?_
              simp only [opl_nil', opl_cons', oplC_some, List.getElem?_toArray, List.getElem?_cons_zero, List.getElem?_cons_succ]
              refine rn1 (jn @t1 (jn @t2 (jn @t3 (jn @t4 (jn @t5 (jn @t6 (jn @hz (jn @z1 (jn @z2 (jn @z3 (jn @z4 (jn @z5 (jn @z6 @tA_allD))))))))))))) ?_
              refine HO_callX ty_ok [0, 1, 2] ko2 (R0_hand _ _ _ _ _ _ _ _ rfl rfl) (R0_wf _ _ _ _) ?_
              rintro v r' ⟨rfl, rfl⟩ _
              refine rn1 (jn @R0.eq_1 (jn @renL_map_d (jn @t1 (jn @t2 (jn @t3 (jn @t4 (jn @t5 (jn @t6 (jn @hz (jn @z1 (jn @z2 (jn @z3 (jn @z4 (jn @z5 (jn @z6 @tA_allD))))))))))))))) ?_
              refine HO_pureA ty_ok kg2 ?_
              refine rn1 (jn @hz (jn @z1 (jn @z2 (jn @z3 (jn @z4 (jn @z5 (jn @z6 (jn @z7 (jn @t1 (jn @t2 (jn @t3 (jn @t4 (jn @t5 (jn @t6 (jn @u1 (jn @u2 (jn @u3 (jn @u4 (jn @u5 (jn @u6 @tA_allD)))))))))))))))))))) ?_
              refine ⟨[0, 1, 2, 3, 4, 5, 6], [], ?_⟩
              exact ft1 (jn @hw (jn @rsB.eq_1 (jn @R0.eq_1 (jn @fB.eq_1 (jn @zB.eq_1 (jn @xB.eq_1 (jn @enC.eq_1 (jn @tA_wf @wfL_map_d))))))))
            · simp only [addAt]
              refine HV_order [] ty_ok [0, 1, 2, 4, 3, 9, 5, 6, 7, 8, 10, 11] (by kernel_rfl) rfl _ rfl ?_
              simp only [opl_nil', opl_cons', oplC_some, List.getElem?_toArray, List.getElem?_cons_zero, List.getElem?_cons_succ]
              refine rn1 (jn @t1 (jn @t2 (jn @t3 (jn @t4 (jn @t5 (jn @t6 (jn @hz (jn @z1 (jn @z2 (jn @z3 (jn @z4 (jn @z5 (jn @z6 @tA_allD))))))))))))) ?_
              refine HO_callX ty_ok [0, 1, 2] ko2 (R0_hand _ _ _ _ _ _ _ _ rfl rfl) (R0_wf _ _ _ _) ?_
              rintro v r' ⟨rfl, rfl⟩ _
              refine rn1 (jn @R0.eq_1 (jn @renL_map_d (jn @t1 (jn @t2 (jn @t3 (jn @t4 (jn @t5 (jn @t6 (jn @hz (jn @z1 (jn @z2 (jn @z3 (jn @z4 (jn @z5 (jn @z6 @tA_allD))))))))))))))) ?_
              refine HO_pureA ty_ok kg2 ?_
              refine rn1 (jn @hz (jn @z1 (jn @z2 (jn @z3 (jn @z4 (jn @z5 (jn @z6 (jn @z7 (jn @t1 (jn @t2 (jn @t3 (jn @t4 (jn @t5 (jn @t6 (jn @u1 (jn @u2 (jn @u3 (jn @u4 (jn @u5 (jn @u6 @tA_allD)))))))))))))))))))) ?_
              refine ⟨[0, 1, 2, 3, 4, 5, 6], [], ?_⟩
              exact ft1 (jn @hw (jn @rsB.eq_1 (jn @R0.eq_1 (jn @fB.eq_1 (jn @zB.eq_1 (jn @xB.eq_1 (jn @enC.eq_1 (jn @tA_wf @wfL_map_d))))))))
          · simp only [addAt]
            refine HV_order [] ty_ok [0, 1, 2, 4, 9, 3, 5, 6, 7, 8, 10, 11] (by kernel_rfl) rfl _ rfl ?_
            simp only [opl_nil', opl_cons', oplC_some, List.getElem?_toArray, List.getElem?_cons_zero, List.getElem?_cons_succ]
            refine rn1 (jn @t1 (jn @t2 (jn @t3 (jn @t4 (jn @t5 (jn @t6 (jn @hz (jn @z1 (jn @z2 (jn @z3 (jn @z4 (jn @z5 (jn @z6 @tA_allD))))))))))))) ?_
            refine HO_callX ty_ok [0, 1, 2] ko2 (R0_hand _ _ _ _ _ _ _ _ rfl rfl) (R0_wf _ _ _ _) ?_
            rintro v r' ⟨rfl, rfl⟩ _
            refine rn1 (jn @R0.eq_1 (jn @renL_map_d (jn @t1 (jn @t2 (jn @t3 (jn @t4 (jn @t5 (jn @t6 (jn @hz (jn @z1 (jn @z2 (jn @z3 (jn @z4 (jn @z5 (jn @z6 @tA_allD))))))))))))))) ?_
            refine HO_pureA ty_ok kg2 ?_
            refine rn1 (jn @hz (jn @z1 (jn @z2 (jn @z3 (jn @z4 (jn @z5 (jn @z6 (jn @z7 (jn @t1 (jn @t2 (jn @t3 (jn @t4 (jn @t5 (jn @t6 (jn @u1 (jn @u2 (jn @u3 (jn @u4 (jn @u5 (jn @u6 @tA_allD)))))))))))))))))))) ?_
            refine ⟨[0, 1, 2, 3, 4, 5, 6], [], ?_⟩
            exact ft1 (jn @hw (jn @rsB.eq_1 (jn @R0.eq_1 (jn @fB.eq_1 (jn @zB.eq_1 (jn @xB.eq_1 (jn @enC.eq_1 (jn @tA_wf @wfL_map_d))))))))
        · simp only [addAt]
          refine HV_split 3 9 (by decide) ?_ ?_
          · simp only [addAt]
            refine HV_split 5 9 (by decide) ?_ ?_
            · simp only [addAt]
              refine HV_order [] ty_ok [0, 1, 2, 3, 4, 5, 6, 7, 8, 9, 10, 11] (by kernel_rfl) rfl _ rfl ?_
              simp only [opl_nil', opl_cons', oplC_some, List.getElem?_toArray, List.getElem?_cons_zero, List.getElem?_cons_succ]
              refine rn1 (jn @t1 (jn @t2 (jn @t3 (jn @t4 (jn @t5 (jn @t6 (jn @hz (jn @z1 (jn @z2 (jn @z3 (jn @z4 (jn @z5 (jn @z6 @tA_allD))))))))))))) ?_
              refine HO_callX ty_ok [0, 1, 2] ko2 (R0_hand _ _ _ _ _ _ _ _ rfl rfl) (R0_wf _ _ _ _) ?_
              rintro v r' ⟨rfl, rfl⟩ _
              refine rn1 (jn @R0.eq_1 (jn @renL_map_d (jn @t1 (jn @t2 (jn @t3 (jn @t4 (jn @t5 (jn @t6 (jn @hz (jn @z1 (jn @z2 (jn @z3 (jn @z4 (jn @z5 (jn @z6 @tA_allD))))))))))))))) ?_
              refine HO_pureA ty_ok kg2 ?_
              refine rn1 (jn @hz (jn @z1 (jn @z2 (jn @z3 (jn @z4 (jn @z5 (jn @z6 (jn @z7 (jn @t1 (jn @t2 (jn @t3 (jn @t4 (jn @t5 (jn @t6 (jn @u1 (jn @u2 (jn @u3 (jn @u4 (jn @u5 (jn @u6 @tA_allD)))))))))))))))))))) ?_
              refine ⟨[0, 1, 2, 3, 4, 5, 6], [], ?_⟩
              exact ft1 (jn @hw (jn @rsB.eq_1 (jn @R0.eq_1 (jn @fB.eq_1 (jn @zB.eq_1 (jn @xB.eq_1 (jn @enC.eq_1 (jn @tA_wf @wfL_map_d))))))))
            · simp only [addAt]
              refine HV_order [] ty_ok [0, 1, 2, 3, 4, 9, 5, 6, 7, 8, 10, 11] (by kernel_rfl) rfl _ rfl ?_
              simp only [opl_nil', opl_cons', oplC_some, List.getElem?_toArray, List.getElem?_cons_zero, List.getElem?_cons_succ]
              refine rn1 (jn @t1 (jn @t2 (jn @t3 (jn @t4 (jn @t5 (jn @t6 (jn @hz (jn @z1 (jn @z2 (jn @z3 (jn @z4 (jn @z5 (jn @z6 @tA_allD))))))))))))) ?_
              refine HO_callX ty_ok [0, 1, 2] ko2 (R0_hand _ _ _ _ _ _ _ _ rfl rfl) (R0_wf _ _ _ _) ?_
              rintro v r' ⟨rfl, rfl⟩ _
              refine rn1 (jn @R0.eq_1 (jn @renL_map_d (jn @t1 (jn @t2 (jn @t3 (jn @t4 (jn @t5 (jn @t6 (jn @hz (jn @z1 (jn @z2 (jn @z3 (jn @z4 (jn @z5 (jn @z6 @tA_allD))))))))))))))) ?_
              refine HO_pureA ty_ok kg2 ?_
              refine rn1 (jn @hz (jn @z1 (jn @z2 (jn @z3 (jn @z4 (jn @z5 (jn @z6 (jn @z7 (jn @t1 (jn @t2 (jn @t3 (jn @t4 (jn @t5 (jn @t6 (jn @u1 (jn @u2 (jn @u3 (jn @u4 (jn @u5 (jn @u6 @tA_allD)))))))))))))))))))) ?_
              refine ⟨[0, 1, 2, 3, 4, 5, 6], [], ?_⟩
              exact ft1 (jn @hw (jn @rsB.eq_1 (jn @R0.eq_1 (jn @fB.eq_1 (jn @zB.eq_1 (jn @xB.eq_1 (jn @enC.eq_1 (jn @tA_wf @wfL_map_d))))))))
          · simp only [addAt]
            refine HV_order [] ty_ok [0, 1, 2, 9, 3, 4, 5, 6, 7, 8, 10, 11] (by kernel_rfl) rfl _ rfl ?_
            simp only [opl_nil', opl_cons', oplC_some, List.getElem?_toArray, List.getElem?_cons_zero, List.getElem?_cons_succ]
            refine rn1 (jn @t1 (jn @t2 (jn @t3 (jn @t4 (jn @t5 (jn @t6 (jn @hz (jn @z1 (jn @z2 (jn @z3 (jn @z4 (jn @z5 (jn @z6 @tA_allD))))))))))))) ?_
            refine HO_callX ty_ok [0, 1, 2] ko2 (R0_hand _ _ _ _ _ _ _ _ rfl rfl) (R0_wf _ _ _ _) ?_
            rintro v r' ⟨rfl, rfl⟩ _
            refine rn1 (jn @R0.eq_1 (jn @renL_map_d (jn @t1 (jn @t2 (jn @t3 (jn @t4 (jn @t5 (jn @t6 (jn @hz (jn @z1 (jn @z2 (jn @z3 (jn @z4 (jn @z5 (jn @z6 @tA_allD))))))))))))))) ?_
            refine HO_pureA ty_ok kg2 ?_
            refine rn1 (jn @hz (jn @z1 (jn @z2 (jn @z3 (jn @z4 (jn @z5 (jn @z6 (jn @z7 (jn @t1 (jn @t2 (jn @t3 (jn @t4 (jn @t5 (jn @t6 (jn @u1 (jn @u2 (jn @u3 (jn @u4 (jn @u5 (jn @u6 @tA_allD)))))))))))))))))))) ?_
            refine ⟨[0, 1, 2, 3, 4, 5, 6], [], ?_⟩
            exact ft1 (jn @hw (jn @rsB.eq_1 (jn @R0.eq_1 (jn @fB.eq_1 (jn @zB.eq_1 (jn @xB.eq_1 (jn @enC.eq_1 (jn @tA_wf @wfL_map_d))))))))
      cases q2 with
      | true =>
        by_cases hw2 : y.why = 2
        · rw [if_pos (show x.why = 3 ∧ true = true ∧ y.why = 2 from ⟨hw, rfl, hw2⟩)] at hr
          subst hr
          refine rn1 (jn @hw2 (jn @rsB.eq_1 (jn @R0.eq_1 (jn @fB.eq_1 (jn @zB.eq_1 (jn @xB.eq_1 (jn @enC.eq_1 (jn @t1 (jn @t2 (jn @t3 (jn @t4 (jn @t5 (jn @t6 (jn @u1 (jn @u2 (jn @u3 (jn @u4 (jn @u5 (jn @u6 (jn @z1 (jn @z2 (jn @z3 (jn @z4 (jn @z5 (jn @z6 (jn @z7 @tA_allD)))))))))))))))))))))))))) ?_
          refine HC_of_HV mix ?_
          refine HV_split 2 3 (by decide) ?_ ?_
          · simp only [addAt]
            refine HV_order [] ty_ok [0, 1, 2, 3, 4, 5] (by kernel_rfl) rfl _ rfl ?_
            simp only [opl_nil', opl_cons', oplC_some, List.getElem?_toArray, List.getElem?_cons_zero, List.getElem?_cons_succ]
            refine rn1 (jn @t1 (jn @t2 (jn @t3 (jn @t4 (jn @t5 (jn @t6 (jn @u1 (jn @u2 (jn @u3 (jn @u4 (jn @u5 (jn @u6 (jn @z1 (jn @z2 (jn @z3 (jn @z4 (jn @z5 (jn @z6 (jn @z7 @tA_allD))))))))))))))))))) ?_
            (repeat (refine And.intro (by omega) ?_))
            simp only [entE, fctE, List.cons_append, List.nil_append, hw2]
            exact fv1 [0,1,2] [] (jn @hw2 (jn @R0.eq_1 @wfL_map_d))
          · simp only [addAt]
            refine HV_order [] ty_ok [0, 1, 3, 2, 4, 5] (by kernel_rfl) rfl _ rfl ?_
            simp only [opl_nil', opl_cons', oplC_some, List.getElem?_toArray, List.getElem?_cons_zero, List.getElem?_cons_succ]
            refine rn1 (jn @t1 (jn @t2 (jn @t3 (jn @t4 (jn @t5 (jn @t6 (jn @u1 (jn @u2 (jn @u3 (jn @u4 (jn @u5 (jn @u6 (jn @z1 (jn @z2 (jn @z3 (jn @z4 (jn @z5 (jn @z6 (jn @z7 @tA_allD))))))))))))))))))) ?_
            (repeat (refine And.intro (by omega) ?_))
            simp only [entE, fctE, List.cons_append, List.nil_append, hw2]
            exact fv1 [0,1,2] [] (jn @hw2 (jn @R0.eq_1 @wfL_map_d))
        · rw [if_neg (show ¬ (x.why = 3 ∧ true = true ∧ y.why = 2) from fun h => hw2 h.2.2)] at hr
          subst hr
          refine rn1 (jn @hw2 (jn @rsB.eq_1 (jn @R0.eq_1 (jn @fB.eq_1 (jn @zB.eq_1 (jn @xB.eq_1 (jn @enC.eq_1 (jn @t1 (jn @t2 (jn @t3 (jn @t4 (jn @t5 (jn @t6 (jn @u1 (jn @u2 (jn @u3 (jn @u4 (jn @u5 (jn @u6 (jn @z1 (jn @z2 (jn @z3 (jn @z4 (jn @z5 (jn @z6 (jn @z7 @tA_allD)))))))))))))))))))))))))) ?_
          (repeat (refine And.intro (by omega) ?_))
          simp only [entE, fctE, List.cons_append, List.nil_append]
          exact fv1 [0,1,2] [] (jn @hw (jn @R0.eq_1 @wfL_map_d))
      | false =>
        rw [if_neg (show ¬ (x.why = 3 ∧ false = true ∧ y.why = 2) from fun h => Bool.noConfusion h.2.1)] at hr
        subst hr
        refine rn1 (jn @rsB.eq_1 (jn @R0.eq_1 (jn @fB.eq_1 (jn @zB.eq_1 (jn @xB.eq_1 (jn @enC.eq_1 (jn @t1 (jn @t2 (jn @t3 (jn @t4 (jn @t5 (jn @t6 (jn @u1 (jn @u2 (jn @u3 (jn @u4 (jn @u5 (jn @u6 (jn @z1 (jn @z2 (jn @z3 (jn @z4 (jn @z5 (jn @z6 (jn @z7 @tA_allD))))))))))))))))))))))))) ?_
        (repeat (refine And.intro (by omega) ?_))
        simp only [entE, fctE, List.cons_append, List.nil_append]
        exact fv1 [0,1,2] [] (jn @hw (jn @R0.eq_1 @wfL_map_d))
    · rw [if_neg (show ¬ (x.why = 3 ∧ q2 = true ∧ y.why = 2) from fun h => hw h.1)] at hr
      subst hr
      refine rn1 (jn @hw (jn @rsA.eq_1 (jn @R0.eq_1 (jn @fB.eq_1 (jn @zB.eq_1 (jn @xB.eq_1 (jn @enC.eq_1 (jn @t1 (jn @t2 (jn @t3 (jn @t4 (jn @t5 (jn @t6 (jn @z1 (jn @z2 (jn @z3 (jn @z4 (jn @z5 (jn @z6 (jn @z7 @tA_allD)))))))))))))))))))) ?_
      (repeat (refine And.intro (by omega) ?_))
      simp only [entE, fctE, List.cons_append, List.nil_append]
      exact fv1 [0,1,2] [] (jn @R0.eq_1 @wfL_map_d)
set_option maxHeartbeats 400000 in
theorem reason1_ac (S : List Srce) (hS : okS S) (who : ByteArray) (f : Fct) (hf : f.l.length ≤ 140737488352000) (n : Nat) (l : List D) (t m c : Nat) (ds : List D) : AC Tryz.prog noG 62 [.ptr 0 0, .d (.c (.string who)), .d (.agg (fctE f))] (R1 S n l t m c ds) (fun v r' => v = .tup [.d (.agg (entE (reasonP S who f).1)), .d (.c (.string (reasonP S who f).2.1)), .d (.c (.bool (reasonP S who f).2.2))] ∧ r' = R1 S n l t m c ds) := by
  refine AC.fit ?_
  refine AC_of_R (N := 47) (res := [.cell 6 43, .tmp 7, .tmp 8]) ty_ok Tryz.call62 Tryz.func62 rfl rfl rfl (Nat.le_of_ble_eq_true rfl) ?_
  have hz : ([UInt8.ofNat 0, UInt8.ofNat 0, UInt8.ofNat 0, UInt8.ofNat 0, UInt8.ofNat 0, UInt8.ofNat 0, UInt8.ofNat 0, UInt8.ofNat 0, UInt8.ofNat 0, UInt8.ofNat 0, UInt8.ofNat 0, UInt8.ofNat 0, UInt8.ofNat 0, UInt8.ofNat 0, UInt8.ofNat 0, UInt8.ofNat 0, UInt8.ofNat 0, UInt8.ofNat 0, UInt8.ofNat 0, UInt8.ofNat 0, UInt8.ofNat 0, UInt8.ofNat 0, UInt8.ofNat 0, UInt8.ofNat 0, UInt8.ofNat 0, UInt8.ofNat 0, UInt8.ofNat 0, UInt8.ofNat 0, UInt8.ofNat 0, UInt8.ofNat 0, UInt8.ofNat 0, UInt8.ofNat 0] : List UInt8) = tgz := rfl
  obtain ⟨z1, z2, z3, z4, z5, z6⟩ := tg32 tgz rfl
  have z7 : (tA tgz).drop 32 = [] := List.drop_of_length_le (by omega)
  have hp := okS_src hS who
  have hp2 := okS_src hS f.b
  have ko := of_ac S hS who n l t m c ds
  have ko2 := of_ac S hS f.b n l t m c ds
  have kg := getS_ac (srcT who S) hp f hf
  have kg2 := getS_ac (srcT f.b S) hp2 f hf
  have hx := okE_getP hp f
  have hy := okE_getP hp2 f
  have hr : reasonP S who f = _ := reasonP.eq_1 S who f
  generalize reasonP S who f = R at *
  generalize hasP (srcT who S) f = q at *
  generalize hasP (srcT f.b S) f = q2 at *
  generalize getP (srcT who S) f = x at *
  generalize getP (srcT f.b S) f = y at *
  obtain ⟨t1, t2, t3, t4, t5, t6⟩ := tg32 x.tg hx.1
  obtain ⟨u1, u2, u3, u4, u5, u6⟩ := tg32 y.tg hy.1
  generalize srcT who S = pp at *
  generalize srcT f.b S = pp2 at *
  simp only [entE, fctE, List.cons_append, List.nil_append] at kg kg2
  refine rn1 (jn @R1.eq_1 (jn @fctE.eq_1 (jn @hz (jn @z1 (jn @z2 (jn @z3 (jn @z4 (jn @z5 (jn @z6 @tA_allD))))))))) ?_
  refine HC_cutR (rsA who q) (R1 S n l t m c ds ++ [fB f, zB, xB x]) ?_ ?_
  · skip
    refine HC_of_HV mix ?_
    refine HV_split 3 2 (by decide) ?_ ?_
    · simp only [addAt]
      refine HV_split 2 8 (by decide) ?_ ?_
      · simp only [addAt]
        refine HV_split 4 8 (by decide) ?_ ?_
        · simp only [addAt]
          refine HV_order [] ty_ok [0, 1, 3, 2, 4, 5, 6, 7, 8, 9, 10] (by kernel_rfl) rfl _ rfl ?_
          simp only [opl_nil', opl_cons', oplC_some, List.getElem?_toArray, List.getElem?_cons_zero, List.getElem?_cons_succ]
          refine rn1 (jn @hz (jn @z1 (jn @z2 (jn @z3 (jn @z4 (jn @z5 (jn @z6 @tA_allD))))))) ?_
          refine HO_callX ty_ok [0, 1, 2] ko (R1_hand _ _ _ _ _ _ _ _ _ _ _ rfl rfl rfl) (R1_wf _ _ _ _ _ _ _) ?_
          rintro v r' ⟨rfl, rfl⟩ _
          refine rn1 (jn @R1.eq_1 (jn @renL_map_d (jn @hz (jn @z1 (jn @z2 (jn @z3 (jn @z4 (jn @z5 (jn @z6 @tA_allD))))))))) ?_
          refine HO_pureA ty_ok kg ?_
          refine rn1 (jn @hz (jn @z1 (jn @z2 (jn @z3 (jn @z4 (jn @z5 (jn @z6 (jn @z7 (jn @t1 (jn @t2 (jn @t3 (jn @t4 (jn @t5 (jn @t6 @tA_allD)))))))))))))) ?_
          refine ⟨[0, 1, 2, 3, 4, 5], [], ?_⟩
          exact ft1 (jn @rsA.eq_1 (jn @R1.eq_1 (jn @fB.eq_1 (jn @zB.eq_1 (jn @xB.eq_1 (jn @enC.eq_1 (jn @tA_wf @wfL_map_d)))))))
        · simp only [addAt]
          refine HV_order [] ty_ok [0, 1, 3, 2, 8, 4, 5, 6, 7, 9, 10] (by kernel_rfl) rfl _ rfl ?_
          simp only [opl_nil', opl_cons', oplC_some, List.getElem?_toArray, List.getElem?_cons_zero, List.getElem?_cons_succ]
          refine rn1 (jn @hz (jn @z1 (jn @z2 (jn @z3 (jn @z4 (jn @z5 (jn @z6 @tA_allD))))))) ?_
          refine HO_callX ty_ok [0, 1, 2] ko (R1_hand _ _ _ _ _ _ _ _ _ _ _ rfl rfl rfl) (R1_wf _ _ _ _ _ _ _) ?_
          rintro v r' ⟨rfl, rfl⟩ _
          refine rn1 (jn @R1.eq_1 (jn @renL_map_d (jn @hz (jn @z1 (jn @z2 (jn @z3 (jn @z4 (jn @z5 (jn @z6 @tA_allD))))))))) ?_
          refine HO_pureA ty_ok kg ?_
          refine rn1 (jn @hz (jn @z1 (jn @z2 (jn @z3 (jn @z4 (jn @z5 (jn @z6 (jn @z7 (jn @t1 (jn @t2 (jn @t3 (jn @t4 (jn @t5 (jn @t6 @tA_allD)))))))))))))) ?_
          refine ⟨[0, 1, 2, 3, 4, 5], [], ?_⟩
          exact ft1 (jn @rsA.eq_1 (jn @R1.eq_1 (jn @fB.eq_1 (jn @zB.eq_1 (jn @xB.eq_1 (jn @enC.eq_1 (jn @tA_wf @wfL_map_d)))))))
      · simp only [addAt]
        refine HV_order [] ty_ok [0, 1, 3, 8, 2, 4, 5, 6, 7, 9, 10] (by kernel_rfl) rfl _ rfl ?_
        simp only [opl_nil', opl_cons', oplC_some, List.getElem?_toArray, List.getElem?_cons_zero, List.getElem?_cons_succ]
        refine rn1 (jn @hz (jn @z1 (jn @z2 (jn @z3 (jn @z4 (jn @z5 (jn @z6 @tA_allD))))))) ?_
        refine HO_callX ty_ok [0, 1, 2] ko (R1_hand _ _ _ _ _ _ _ _ _ _ _ rfl rfl rfl) (R1_wf _ _ _ _ _ _ _) ?_
        rintro v r' ⟨rfl, rfl⟩ _
        refine rn1 (jn @R1.eq_1 (jn @renL_map_d (jn @hz (jn @z1 (jn @z2 (jn @z3 (jn @z4 (jn @z5 (jn @z6 @tA_allD))))))))) ?_
        refine HO_pureA ty_ok kg ?_
        refine rn1 (jn @hz (jn @z1 (jn @z2 (jn @z3 (jn @z4 (jn @z5 (jn @z6 (jn @z7 (jn @t1 (jn @t2 (jn @t3 (jn @t4 (jn @t5 (jn @t6 @tA_allD)))))))))))))) ?_
        refine ⟨[0, 1, 2, 3, 4, 5], [], ?_⟩
        exact ft1 (jn @rsA.eq_1 (jn @R1.eq_1 (jn @fB.eq_1 (jn @zB.eq_1 (jn @xB.eq_1 (jn @enC.eq_1 (jn @tA_wf @wfL_map_d)))))))
    · simp only [addAt]
      refine HV_split 2 8 (by decide) ?_ ?_
      · simp only [addAt]
        refine HV_split 4 8 (by decide) ?_ ?_
        · simp only [addAt]
          refine HV_order [] ty_ok [0, 1, 2, 3, 4, 5, 6, 7, 8, 9, 10] (by kernel_rfl) rfl _ rfl ?_
          simp only [opl_nil', opl_cons', oplC_some, List.getElem?_toArray, List.getElem?_cons_zero, List.getElem?_cons_succ]
          refine rn1 (jn @hz (jn @z1 (jn @z2 (jn @z3 (jn @z4 (jn @z5 (jn @z6 @tA_allD))))))) ?_
          refine HO_callX ty_ok [0, 1, 2] ko (R1_hand _ _ _ _ _ _ _ _ _ _ _ rfl rfl rfl) (R1_wf _ _ _ _ _ _ _) ?_
          rintro v r' ⟨rfl, rfl⟩ _
          refine rn1 (jn @R1.eq_1 (jn @renL_map_d (jn @hz (jn @z1 (jn @z2 (jn @z3 (jn @z4 (jn @z5 (jn @z6 @tA_allD))))))))) ?_
          refine HO_pureA ty_ok kg ?_
          refine rn1 (jn @hz (jn @z1 (jn @z2 (jn @z3 (jn @z4 (jn @z5 (jn @z6 (jn @z7 (jn @t1 (jn @t2 (jn @t3 (jn @t4 (jn @t5 (jn @t6 @tA_allD)))))))))))))) ?_
          refine ⟨[0, 1, 2, 3, 4, 5], [], ?_⟩
          exact ft1 (jn @rsA.eq_1 (jn @R1.eq_1 (jn @fB.eq_1 (jn @zB.eq_1 (jn @xB.eq_1 (jn @enC.eq_1 (jn @tA_wf @wfL_map_d)))))))
        · simp only [addAt]
          refine HV_order [] ty_ok [0, 1, 2, 3, 8, 4, 5, 6, 7, 9, 10] (by kernel_rfl) rfl _ rfl ?_
          simp only [opl_nil', opl_cons', oplC_some, List.getElem?_toArray, List.getElem?_cons_zero, List.getElem?_cons_succ]
          refine rn1 (jn @hz (jn @z1 (jn @z2 (jn @z3 (jn @z4 (jn @z5 (jn @z6 @tA_allD))))))) ?_
          refine HO_callX ty_ok [0, 1, 2] ko (R1_hand _ _ _ _ _ _ _ _ _ _ _ rfl rfl rfl) (R1_wf _ _ _ _ _ _ _) ?_
          rintro v r' ⟨rfl, rfl⟩ _
          refine rn1 (jn @R1.eq_1 (jn @renL_map_d (jn @hz (jn @z1 (jn @z2 (jn @z3 (jn @z4 (jn @z5 (jn @z6 @tA_allD))))))))) ?_
          refine HO_pureA ty_ok kg ?_
          refine rn1 (jn @hz (jn @z1 (jn @z2 (jn @z3 (jn @z4 (jn @z5 (jn @z6 (jn @z7 (jn @t1 (jn @t2 (jn @t3 (jn @t4 (jn @t5 (jn @t6 @tA_allD)))))))))))))) ?_
          refine ⟨[0, 1, 2, 3, 4, 5], [], ?_⟩
          exact ft1 (jn @rsA.eq_1 (jn @R1.eq_1 (jn @fB.eq_1 (jn @zB.eq_1 (jn @xB.eq_1 (jn @enC.eq_1 (jn @tA_wf @wfL_map_d)))))))
      · simp only [addAt]
        refine HV_order [] ty_ok [0, 1, 8, 2, 3, 4, 5, 6, 7, 9, 10] (by kernel_rfl) rfl _ rfl ?_
        simp only [opl_nil', opl_cons', oplC_some, List.getElem?_toArray, List.getElem?_cons_zero, List.getElem?_cons_succ]
        refine rn1 (jn @hz (jn @z1 (jn @z2 (jn @z3 (jn @z4 (jn @z5 (jn @z6 @tA_allD))))))) ?_
        refine HO_callX ty_ok [0, 1, 2] ko (R1_hand _ _ _ _ _ _ _ _ _ _ _ rfl rfl rfl) (R1_wf _ _ _ _ _ _ _) ?_
        rintro v r' ⟨rfl, rfl⟩ _
        refine rn1 (jn @R1.eq_1 (jn @renL_map_d (jn @hz (jn @z1 (jn @z2 (jn @z3 (jn @z4 (jn @z5 (jn @z6 @tA_allD))))))))) ?_
        refine HO_pureA ty_ok kg ?_
        refine rn1 (jn @hz (jn @z1 (jn @z2 (jn @z3 (jn @z4 (jn @z5 (jn @z6 (jn @z7 (jn @t1 (jn @t2 (jn @t3 (jn @t4 (jn @t5 (jn @t6 @tA_allD)))))))))))))) ?_
        refine ⟨[0, 1, 2, 3, 4, 5], [], ?_⟩
        exact ft1 (jn @rsA.eq_1 (jn @R1.eq_1 (jn @fB.eq_1 (jn @zB.eq_1 (jn @xB.eq_1 (jn @enC.eq_1 (jn @tA_wf @wfL_map_d)))))))
  cases q with
  | false =>
    rw [if_pos rfl] at hr
    subst hr
    refine rn1 (jn @rsA.eq_1 (jn @R1.eq_1 (jn @fB.eq_1 (jn @zB.eq_1 (jn @xB.eq_1 (jn @enC.eq_1 (jn @t1 (jn @t2 (jn @t3 (jn @t4 (jn @t5 (jn @t6 (jn @z1 (jn @z2 (jn @z3 (jn @z4 (jn @z5 (jn @z6 (jn @z7 @tA_allD))))))))))))))))))) ?_
    (repeat (refine And.intro (by omega) ?_))
    simp only [entE, fctE, List.cons_append, List.nil_append]
    exact fv1 [0,1,2] [] (jn @R1.eq_1 @wfL_map_d)
  | true =>
    rw [if_neg (by decide)] at hr
    by_cases hw : x.why = 3
    · refine rn1 (jn @hw (jn @rsA.eq_1 (jn @R1.eq_1 (jn @fB.eq_1 (jn @zB.eq_1 (jn @xB.eq_1 (jn @enC.eq_1 (jn @t1 (jn @t2 (jn @t3 (jn @t4 (jn @t5 (jn @t6 (jn @z1 (jn @z2 (jn @z3 (jn @z4 (jn @z5 (jn @z6 (jn @z7 @tA_allD)))))))))))))))))))) ?_
      refine HC_cutR (rsB who q2) (R1 S n l t m c ds ++ [fB f, zB, xB x, xB y]) ?_ ?_
      · skip
        refine HC_of_HV mix ?_
        refine HV_split 4 3 (by decide) ?_ ?_
        · simp only [addAt]
          refine HV_split 3 9 (by decide) ?_ ?_
          · simp only [addAt]
            refine HV_split 5 9 (by decide) ?_ ?_
            · simp only [addAt]
              refine HV_order [] ty_ok [0, 1, 2, 4, 3, 5, 6, 7, 8, 9, 10, 11] (by kernel_rfl) rfl _ rfl ?_
              simp only [opl_nil', opl_cons', oplC_some, List.getElem?_toArray, List.getElem?_cons_zero, List.getElem?_cons_succ]
              refine rn1 (jn @t1 (jn @t2 (jn @t3 (jn @t4 (jn @t5 (jn @t6 (jn @hz (jn @z1 (jn @z2 (jn @z3 (jn @z4 (jn @z5 (jn @z6 @tA_allD))))))))))))) ?_
              refine HO_callX ty_ok [0, 1, 2] ko2 (R1_hand _ _ _ _ _ _ _ _ _ _ _ rfl rfl rfl) (R1_wf _ _ _ _ _ _ _) ?_
              rintro v r' ⟨rfl, rfl⟩ _
              refine rn1 (jn @R1.eq_1 (jn @renL_map_d (jn @t1 (jn @t2 (jn @t3 (jn @t4 (jn @t5 (jn @t6 (jn @hz (jn @z1 (jn @z2 (jn @z3 (jn @z4 (jn @z5 (jn @z6 @tA_allD))))))))))))))) ?_
              refine HO_pureA ty_ok kg2 ?_
              refine rn1 (jn @hz (jn @z1 (jn @z2 (jn @z3 (jn @z4 (jn @z5 (jn @z6 (jn @z7 (jn @t1 (jn @t2 (jn @t3 (jn @t4 (jn @t5 (jn @t6 (jn @u1 (jn @u2 (jn @u3 (jn @u4 (jn @u5 (jn @u6 @tA_allD)))))))))))))))))))) ?_
              refine ⟨[0, 1, 2, 3, 4, 5, 6], [], ?_⟩
              exact ft1 (jn @hw (jn @rsB.eq_1 (jn @R1.eq_1 (jn @fB.eq_1 (jn @zB.eq_1 (jn @xB.eq_1 (jn @enC.eq_1 (jn @tA_wf @wfL_map_d))))))))
            · simp only [addAt]
              refine HV_order [] ty_ok [0, 1, 2, 4, 3, 9, 5, 6, 7, 8, 10, 11] (by kernel_rfl) rfl _ rfl ?_
              simp only [opl_nil', opl_cons', oplC_some, List.getElem?_toArray, List.getElem?_cons_zero, List.getElem?_cons_succ]
              refine rn1 (jn @t1 (jn @t2 (jn @t3 (jn @t4 (jn @t5 (jn @t6 (jn @hz (jn @z1 (jn @z2 (jn @z3 (jn @z4 (jn @z5 (jn @z6 @tA_allD))))))))))))) ?_
              refine HO_callX ty_ok [0, 1, 2] ko2 (R1_hand _ _ _ _ _ _ _ _ _ _ _ rfl rfl rfl) (R1_wf _ _ _ _ _ _ _) ?_
              rintro v r' ⟨rfl, rfl⟩ _
              refine rn1 (jn @R1.eq_1 (jn @renL_map_d (jn @t1 (jn @t2 (jn @t3 (jn @t4 (jn @t5 (jn @t6 (jn @hz (jn @z1 (jn @z2 (jn @z3 (jn @z4 (jn @z5 (jn @z6 @tA_allD))))))))))))))) ?_
              refine HO_pureA ty_ok kg2 ?_
              refine rn1 (jn @hz (jn @z1 (jn @z2 (jn @z3 (jn @z4 (jn @z5 (jn @z6 (jn @z7 (jn @t1 (jn @t2 (jn @t3 (jn @t4 (jn @t5 (jn @t6 (jn @u1 (jn @u2 (jn @u3 (jn @u4 (jn @u5 (jn @u6 @tA_allD)))))))))))))))))))) ?_
              refine ⟨[0, 1, 2, 3, 4, 5, 6], [], ?_⟩
              exact ft1 (jn @hw (jn @rsB.eq_1 (jn @R1.eq_1 (jn @fB.eq_1 (jn @zB.eq_1 (jn @xB.eq_1 (jn @enC.eq_1 (jn @tA_wf @wfL_map_d))))))))
          · simp only [addAt]
            refine HV_order [] ty_ok [0, 1, 2, 4, 9, 3, 5, 6, 7, 8, 10, 11] (by kernel_rfl) rfl _ rfl ?_
            simp only [opl_nil', opl_cons', oplC_some, List.getElem?_toArray, List.getElem?_cons_zero, List.getElem?_cons_succ]
            refine rn1 (jn @t1 (jn @t2 (jn @t3 (jn @t4 (jn @t5 (jn @t6 (jn @hz (jn @z1 (jn @z2 (jn @z3 (jn @z4 (jn @z5 (jn @z6 @tA_allD))))))))))))) ?_
            refine HO_callX ty_ok [0, 1, 2] ko2 (R1_hand _ _ _ _ _ _ _ _ _ _ _ rfl rfl rfl) (R1_wf _ _ _ _ _ _ _) ?_
            rintro v r' ⟨rfl, rfl⟩ _
            refine rn1 (jn @R1.eq_1 (jn @renL_map_d (jn @t1 (jn @t2 (jn @t3 (jn @t4 (jn @t5 (jn @t6 (jn @hz (jn @z1 (jn @z2 (jn @z3 (jn @z4 (jn @z5 (jn @z6 @tA_allD))))))))))))))) ?_
            refine HO_pureA ty_ok kg2 ?_
            refine rn1 (jn @hz (jn @z1 (jn @z2 (jn @z3 (jn @z4 (jn @z5 (jn @z6 (jn @z7 (jn @t1 (jn @t2 (jn @t3 (jn @t4 (jn @t5 (jn @t6 (jn @u1 (jn @u2 (jn @u3 (jn @u4 (jn @u5 (jn @u6 @tA_allD)))))))))))))))))))) ?_
            refine ⟨[0, 1, 2, 3, 4, 5, 6], [], ?_⟩
            exact ft1 (jn @hw (jn @rsB.eq_1 (jn @R1.eq_1 (jn @fB.eq_1 (jn @zB.eq_1 (jn @xB.eq_1 (jn @enC.eq_1 (jn @tA_wf @wfL_map_d))))))))
        · simp only [addAt]
          refine HV_split 3 9 (by decide) ?_ ?_
          · simp only [addAt]
            refine HV_split 5 9 (by decide) ?_ ?_
            · simp only [addAt]
              refine HV_order [] ty_ok [0, 1, 2, 3, 4, 5, 6, 7, 8, 9, 10, 11] (by kernel_rfl) rfl _ rfl ?_
              simp only [opl_nil', opl_cons', oplC_some, List.getElem?_toArray, List.getElem?_cons_zero, List.getElem?_cons_succ]
              refine rn1 (jn @t1 (jn @t2 (jn @t3 (jn @t4 (jn @t5 (jn @t6 (jn @hz (jn @z1 (jn @z2 (jn @z3 (jn @z4 (jn @z5 (jn @z6 @tA_allD))))))))))))) ?_
              refine HO_callX ty_ok [0, 1, 2] ko2 (R1_hand _ _ _ _ _ _ _ _ _ _ _ rfl rfl rfl) (R1_wf _ _ _ _ _ _ _) ?_
              rintro v r' ⟨rfl, rfl⟩ _
              refine rn1 (jn @R1.eq_1 (jn @renL_map_d (jn @t1 (jn @t2 (jn @t3 (jn @t4 (jn @t5 (jn @t6 (jn @hz (jn @z1 (jn @z2 (jn @z3 (jn @z4 (jn @z5 (jn @z6 @tA_allD))))))))))))))) ?_
              refine HO_pureA ty_ok kg2 ?_
              refine rn1 (jn @hz (jn @z1 (jn @z2 (jn @z3 (jn @z4 (jn @z5 (jn @z6 (jn @z7 (jn @t1 (jn @t2 (jn @t3 (jn @t4 (jn @t5 (jn @t6 (jn @u1 (jn @u2 (jn @u3 (jn @u4 (jn @u5 (jn @u6 @tA_allD)))))))))))))))))))) ?_
              refine ⟨[0, 1, 2, 3, 4, 5, 6], [], ?_⟩
              exact ft1 (jn @hw (jn @rsB.eq_1 (jn @R1.eq_1 (jn @fB.eq_1 (jn @zB.eq_1 (jn @xB.eq_1 (jn @enC.eq_1 (jn @tA_wf @wfL_map_d))))))))
            · simp only [addAt]
              refine HV_order [] ty_ok [0, 1, 2, 3, 4, 9, 5, 6, 7, 8, 10, 11] (by kernel_rfl) rfl _ rfl ?_
              simp only [opl_nil', opl_cons', oplC_some, List.getElem?_toArray, List.getElem?_cons_zero, List.getElem?_cons_succ]
              refine rn1 (jn @t1 (jn @t2 (jn @t3 (jn @t4 (jn @t5 (jn @t6 (jn @hz (jn @z1 (jn @z2 (jn @z3 (jn @z4 (jn @z5 (jn @z6 @tA_allD))))))))))))) ?_
              refine HO_callX ty_ok [0, 1, 2] ko2 (R1_hand _ _ _ _ _ _ _ _ _ _ _ rfl rfl rfl) (R1_wf _ _ _ _ _ _ _) ?_
              rintro v r' ⟨rfl, rfl⟩ _
              refine rn1 (jn @R1.eq_1 (jn @renL_map_d (jn @t1 (jn @t2 (jn @t3 (jn @t4 (jn @t5 (jn @t6 (jn @hz (jn @z1 (jn @z2 (jn @z3 (jn @z4 (jn @z5 (jn @z6 @tA_allD))))))))))))))) ?_
              refine HO_pureA ty_ok kg2 ?_
              refine rn1 (jn @hz (jn @z1 (jn @z2 (jn @z3 (jn @z4 (jn @z5 (jn @z6 (jn @z7 (jn @t1 (jn @t2 (jn @t3 (jn @t4 (jn @t5 (jn @t6 (jn @u1 (jn @u2 (jn @u3 (jn @u4 (jn @u5 (jn @u6 @tA_allD)))))))))))))))))))) ?_
              refine ⟨[0, 1, 2, 3, 4, 5, 6], [], ?_⟩
              exact ft1 (jn @hw (jn @rsB.eq_1 (jn @R1.eq_1 (jn @fB.eq_1 (jn @zB.eq_1 (jn @xB.eq_1 (jn @enC.eq_1 (jn @tA_wf @wfL_map_d))))))))
          · simp only [addAt]
            refine HV_order [] ty_ok [0, 1, 2, 9, 3, 4, 5, 6, 7, 8, 10, 11] (by kernel_rfl) rfl _ rfl ?_
            simp only [opl_nil', opl_cons', oplC_some, List.getElem?_toArray, List.getElem?_cons_zero, List.getElem?_cons_succ]
            refine rn1 (jn @t1 (jn @t2 (jn @t3 (jn @t4 (jn @t5 (jn @t6 (jn @hz (jn @z1 (jn @z2 (jn @z3 (jn @z4 (jn @z5 (jn @z6 @tA_allD))))))))))))) ?_
            refine HO_callX ty_ok [0, 1, 2] ko2 (R1_hand _ _ _ _ _ _ _ _ _ _ _ rfl rfl rfl) (R1_wf _ _ _ _ _ _ _) ?_
            rintro v r' ⟨rfl, rfl⟩ _
            refine rn1 (jn @R1.eq_1 (jn @renL_map_d (jn @t1 (jn @t2 (jn @t3 (jn @t4 (jn @t5 (jn @t6 (jn @hz (jn @z1 (jn @z2 (jn @z3 (jn @z4 (jn @z5 (jn @z6 @tA_allD))))))))))))))) ?_
            refine HO_pureA ty_ok kg2 ?_
            refine rn1 (jn @hz (jn @z1 (jn @z2 (jn @z3 (jn @z4 (jn @z5 (jn @z6 (jn @z7 (jn @t1 (jn @t2 (jn @t3 (jn @t4 (jn @t5 (jn @t6 (jn @u1 (jn @u2 (jn @u3 (jn @u4 (jn @u5 (jn @u6 @tA_allD)))))))))))))))))))) ?_
            refine ⟨[0, 1, 2, 3, 4, 5, 6], [], ?_⟩
            exact ft1 (jn @hw (jn @rsB.eq_1 (jn @R1.eq_1 (jn @fB.eq_1 (jn @zB.eq_1 (jn @xB.eq_1 (jn @enC.eq_1 (jn @tA_wf @wfL_map_d))))))))
      cases q2 with
      | true =>
        by_cases hw2 : y.why = 2
        · rw [if_pos (show x.why = 3 ∧ true = true ∧ y.why = 2 from ⟨hw, rfl, hw2⟩)] at hr
          subst hr
          refine rn1 (jn @hw2 (jn @rsB.eq_1 (jn @R1.eq_1 (jn @fB.eq_1 (jn @zB.eq_1 (jn @xB.eq_1 (jn @enC.eq_1 (jn @t1 (jn @t2 (jn @t3 (jn @t4 (jn @t5 (jn @t6 (jn @u1 (jn @u2 (jn @u3 (jn @u4 (jn @u5 (jn @u6 (jn @z1 (jn @z2 (jn @z3 (jn @z4 (jn @z5 (jn @z6 (jn @z7 @tA_allD)))))))))))))))))))))))))) ?_
          refine HC_of_HV mix ?_
          refine HV_split 2 3 (by decide) ?_ ?_
          · simp only [addAt]
            refine HV_order [] ty_ok [0, 1, 2, 3, 4, 5] (by kernel_rfl) rfl _ rfl ?_
            simp only [opl_nil', opl_cons', oplC_some, List.getElem?_toArray, List.getElem?_cons_zero, List.getElem?_cons_succ]
            refine rn1 (jn @t1 (jn @t2 (jn @t3 (jn @t4 (jn @t5 (jn @t6 (jn @u1 (jn @u2 (jn @u3 (jn @u4 (jn @u5 (jn @u6 (jn @z1 (jn @z2 (jn @z3 (jn @z4 (jn @z5 (jn @z6 (jn @z7 @tA_allD))))))))))))))))))) ?_
            (repeat (refine And.intro (by omega) ?_))
            simp only [entE, fctE, List.cons_append, List.nil_append, hw2]
            exact fv1 [0,1,2] [] (jn @hw2 (jn @R1.eq_1 @wfL_map_d))
          · simp only [addAt]
            refine HV_order [] ty_ok [0, 1, 3, 2, 4, 5] (by kernel_rfl) rfl _ rfl ?_
            simp only [opl_nil', opl_cons', oplC_some, List.getElem?_toArray, List.getElem?_cons_zero, List.getElem?_cons_succ]
            refine rn1 (jn @t1 (jn @t2 (jn @t3 (jn @t4 (jn @t5 (jn @t6 (jn @u1 (jn @u2 (jn @u3 (jn @u4 (jn @u5 (jn @u6 (jn @z1 (jn @z2 (jn @z3 (jn @z4 (jn @z5 (jn @z6 (jn @z7 @tA_allD))))))))))))))))))) ?_
            (repeat (refine And.intro (by omega) ?_))
            simp only [entE, fctE, List.cons_append, List.nil_append, hw2]
            exact fv1 [0,1,2] [] (jn @hw2 (jn @R1.eq_1 @wfL_map_d))
        · rw [if_neg (show ¬ (x.why = 3 ∧ true = true ∧ y.why = 2) from fun h => hw2 h.2.2)] at hr
          subst hr
          refine rn1 (jn @hw2 (jn @rsB.eq_1 (jn @R1.eq_1 (jn @fB.eq_1 (jn @zB.eq_1 (jn @xB.eq_1 (jn @enC.eq_1 (jn @t1 (jn @t2 (jn @t3 (jn @t4 (jn @t5 (jn @t6 (jn @u1 (jn @u2 (jn @u3 (jn @u4 (jn @u5 (jn @u6 (jn @z1 (jn @z2 (jn @z3 (jn @z4 (jn @z5 (jn @z6 (jn @z7 @tA_allD)))))))))))))))))))))))))) ?_
          (repeat (refine And.intro (by omega) ?_))
          simp only [entE, fctE, List.cons_append, List.nil_append]
          exact fv1 [0,1,2] [] (jn @hw (jn @R1.eq_1 @wfL_map_d))
      | false =>
        rw [if_neg (show ¬ (x.why = 3 ∧ false = true ∧ y.why = 2) from fun h => Bool.noConfusion h.2.1)] at hr
        subst hr
        refine rn1 (jn @rsB.eq_1 (jn @R1.eq_1 (jn @fB.eq_1 (jn @zB.eq_1 (jn @xB.eq_1 (jn @enC.eq_1 (jn @t1 (jn @t2 (jn @t3 (jn @t4 (jn @t5 (jn @t6 (jn @u1 (jn @u2 (jn @u3 (jn @u4 (jn @u5 (jn @u6 (jn @z1 (jn @z2 (jn @z3 (jn @z4 (jn @z5 (jn @z6 (jn @z7 @tA_allD))))))))))))))))))))))))) ?_
        (repeat (refine And.intro (by omega) ?_))
        simp only [entE, fctE, List.cons_append, List.nil_append]
        exact fv1 [0,1,2] [] (jn @hw (jn @R1.eq_1 @wfL_map_d))
    · rw [if_neg (show ¬ (x.why = 3 ∧ q2 = true ∧ y.why = 2) from fun h => hw h.1)] at hr
      subst hr
      refine rn1 (jn @hw (jn @rsA.eq_1 (jn @R1.eq_1 (jn @fB.eq_1 (jn @zB.eq_1 (jn @xB.eq_1 (jn @enC.eq_1 (jn @t1 (jn @t2 (jn @t3 (jn @t4 (jn @t5 (jn @t6 (jn @z1 (jn @z2 (jn @z3 (jn @z4 (jn @z5 (jn @z6 (jn @z7 @tA_allD)))))))))))))))))))) ?_
      (repeat (refine And.intro (by omega) ?_))
      simp only [entE, fctE, List.cons_append, List.nil_append]
      exact fv1 [0,1,2] [] (jn @R1.eq_1 @wfL_map_d)
end Go.Proofs.YtdbicadncccpoaaGreat
