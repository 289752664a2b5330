/- Parts of the proof: CRStep, CRMake. -/
import Derived.Test.YtdbicadncccpoaaCJ14
set_option linter.unusedVariables false
set_option linter.unusedSimpArgs false
set_option maxRecDepth 100000
namespace Go.Proofs.Ytdbicadncccpoaa
open Go Go.ChangeShapes Go.WideShapes
/-! The document's maker: the walk of add. -/
theorem rm_hand (S : List Srce) (o : List Ntr) (d : List Fct) (q : Bool) (rc : Rs) (i j k : Nat) (hi : rc[i]? = some (some (.obj [.d (.sl 2 S.length (flatE rsE S)), .sl (.own j) 39 o.length (flE o), .sl (.own k) 4 d.length (flatE fctE d), .d (.c (.bool q))]))) (hj : rc[j]? = some (some (.tok (flE o).length))) (hk : rc[k]? = some (some (.tok (flatE fctE d).length))) : HandOK (nm [i, j, k] rc.length) rc (rm S (o, d, q)) [i, j, k] := by
  refine ⟨fun y h => ?_, fun y h => ?_, fun y h => ?_, trivial⟩
  · injection h with h; subst h
    rw [hi]; rfl
  · injection h with h; subst h
    rw [hj]; rfl
  · injection h with h; subst h
    rw [hk]; rfl
theorem rm_wf (S : List Srce) (s : List Ntr × List Fct × Bool) : wfRs (rm S s).length (rm S s) = true := rfl
theorem RInv.grow {S : List Srce} {s s' : List Ntr × List Fct × Bool} (h : RInv S s) (g : GrowR S s s') : RInv S s' := ⟨g.nd, g.sub, g.ok, by have := h.le; have := g.out; omega⟩
theorem RInv.len {S : List Srce} {s : List Ntr × List Fct × Bool} (h : RInv S s) : s.2.1.length ≤ (facts S).length := sub_len _ _ h.nd h.sub
def AddR (S : List Srce) (n : Nat) : Prop := ∀ (who : ByteArray) (f : Fct) (s : List Ntr × List Fct × Bool), f.l.length ≤ 140737488352000 → RInv S s → (facts S).length < n + s.2.1.length →
  AC Try.prog noG 55 [.ptr 0 0, .d (.c (.string who)), .d (.agg (fctE f))] (rm S s) (fun v r' => v = .tup [] ∧ r' = rm S (addR S n who f s))
def raA (who : ByteArray) (q : Bool) : List (Nat × AV) := [(0, .ptr 0 0), (1, .d (.c (.string who))), (5, .ptr 3 0), (6, .ptr 4 0), (7, .d (.c (.bool q)))]
def raB (who : ByteArray) (q : Bool) : List (Nat × AV) := [(0, .ptr 0 0), (1, .d (.c (.string who))), (5, .ptr 3 0), (6, .ptr 4 0), (8, .ptr 5 0), (9, .d (.c (.bool q)))]
def raC (who : ByteArray) (i : Nat) : List (Nat × AV) := [(0, .ptr 0 0), (1, .d (.c (.string who))), (6, .ptr 4 0), (10, .d (.c (.int .i64 i)))]
theorem foldR_take {S : List Srce} {n : Nat} {a : ByteArray} {b : List Fct} {i : Nat} (h : i < b.length) {s0 s1 : List Ntr × List Fct × Bool} (hf : (b.take i).foldl (fun s g => addR S n a g s) s0 = s1) : (b.take (i + 1)).foldl (fun s g => addR S n a g s) s0 = addR S n a b[i] s1 := by
  rw [List.take_succ_eq_append_getElem h, List.foldl_append, hf]; rfl
set_option maxHeartbeats 800000 in
theorem radd_step (S : List Srce) (hS : okS S) (hF : (facts S).length ≤ 100000) (n : Nat) (ih : AddR S n) : AddR S (n + 1) := by
  intro who f s hf hI hfu
  refine AC.fit ?_
  refine AC_of_R (N := 101) (res := []) ty_ok Try.call55 Try.func55 rfl rfl rfl (Nat.le_of_ble_eq_true rfl) ?_
  have hz : ([UInt8.ofNat 0, UInt8.ofNat 0, UInt8.ofNat 0, UInt8.ofNat 0, UInt8.ofNat 0, UInt8.ofNat 0, UInt8.ofNat 0, UInt8.ofNat 0, UInt8.ofNat 0, UInt8.ofNat 0, UInt8.ofNat 0, UInt8.ofNat 0, UInt8.ofNat 0, UInt8.ofNat 0, UInt8.ofNat 0, UInt8.ofNat 0, UInt8.ofNat 0, UInt8.ofNat 0, UInt8.ofNat 0, UInt8.ofNat 0, UInt8.ofNat 0, UInt8.ofNat 0, UInt8.ofNat 0, UInt8.ofNat 0, UInt8.ofNat 0, UInt8.ofNat 0, UInt8.ofNat 0, UInt8.ofNat 0, UInt8.ofNat 0, UInt8.ofNat 0, UInt8.ofNat 0, UInt8.ofNat 0] : List UInt8) = tgz := rfl
  obtain ⟨z1, z2, z3, z4, z5, z6⟩ := tg32 tgz rfl
  have z7 : (tA tgz).drop 32 = [] := List.drop_of_length_le (by omega)
  have hlen := hI.len
  have kh := has_ac s.2.1 (by omega) (fun g hg => Nat.le_trans (okS_facts hS (hI.sub g hg)) (by decide)) f hf
  have kg := rget_ac S hS who f hf
  have kg2 := rget_ac S hS f.b f hf
  have hp := okS_src hS who
  have hp2 := okS_src hS f.b
  have hx := okE_getP hp f
  have hy := okE_getP hp2 f
  have hro := reason_ok hS who f
  have hr : reasonP S who f = _ := reasonP.eq_1 S who f
  have hP : addR S (n + 1) who f s = _ := addR.eq_2 S who f s n
  generalize addR S (n + 1) who f s = R at *
  generalize reasonP S who f = Z at *
  generalize hasP (srcT who S) f = q at *
  generalize hasP (srcT f.b S) f = q2 at *
  generalize getP (srcT who S) f = x at *
  generalize getP (srcT f.b S) f = y at *
  obtain ⟨t1, t2, t3, t4, t5, t6⟩ := tg32 x.tg hx.1
  obtain ⟨u1, u2, u3, u4, u5, u6⟩ := tg32 y.tg hy.1
  obtain ⟨o, d, k⟩ := s
  simp only at hP kh hlen hfu
  simp only [entE, fctE, List.cons_append, List.nil_append] at kh kg kg2
  refine rn1 (jn @rm.eq_1 (jn @fctE.eq_1 (jn @hz (jn @z1 (jn @z2 (jn @z3 (jn @z4 (jn @z5 (jn @z6 @tA_allD))))))))) ?_
  refine HC_plan [] ty_ok mix (by kernel_rfl) ?_
  cases k with
  | true =>
    rw [if_pos (.inl rfl)] at hP
    subst hP
    refine rn0 ?_
    exact fv1 [0,1,2] [] @rm.eq_1
  | false =>
    refine rn0 ?_
    refine HO_pureA ty_ok kh ?_
    by_cases hm : f ∈ d
    · rw [if_pos (.inr hm)] at hP
      subst hP
      rw [decide_eq_true hm]
      refine rn0 ?_
      exact fv1 [0,1,2] [] @rm.eq_1
    rw [decide_eq_false hm]
    refine rn0 ?_
    refine HC_cutR (raA who q) (rm S (o, d, false) ++ [fB f, xB x]) ?_ ?_
    · skip
      refine HC_of_HV mix ?_
      refine HV_split 6 10 (by decide) ?_ ?_
      · simp only [addAt]
        refine HV_order [] ty_ok [0, 1, 2, 3, 4, 5, 6, 7, 8, 9, 10, 11, 12] (by kernel_rfl) rfl _ rfl ?_
        simp only [opl_nil', opl_cons', oplC_some, List.getElem?_toArray, List.getElem?_cons_zero, List.getElem?_cons_succ]
        refine rn1 (jn @z1 (jn @z2 (jn @z3 (jn @z4 (jn @z5 (jn @z6 @tA_allD)))))) ?_
        refine HO_pureA ty_ok kg ?_
        refine rn1 (jn @z1 (jn @z2 (jn @z3 (jn @z4 (jn @z5 (jn @z6 (jn @z7 (jn @t1 (jn @t2 (jn @t3 (jn @t4 (jn @t5 (jn @t6 @tA_allD))))))))))))) ?_
        refine ⟨[0, 1, 2, 3, 4], [], ?_⟩
        exact ft1 (jn @raA.eq_1 (jn @rm.eq_1 (jn @fB.eq_1 (jn @xB.eq_1 (jn @enC.eq_1 @tA_wf)))))
      · simp only [addAt]
        refine HV_order [] ty_ok [0, 1, 2, 3, 4, 5, 10, 6, 7, 8, 9, 11, 12] (by kernel_rfl) rfl _ rfl ?_
        simp only [opl_nil', opl_cons', oplC_some, List.getElem?_toArray, List.getElem?_cons_zero, List.getElem?_cons_succ]
        refine rn1 (jn @z1 (jn @z2 (jn @z3 (jn @z4 (jn @z5 (jn @z6 @tA_allD)))))) ?_
        refine HO_pureA ty_ok kg ?_
        refine rn1 (jn @z1 (jn @z2 (jn @z3 (jn @z4 (jn @z5 (jn @z6 (jn @z7 (jn @t1 (jn @t2 (jn @t3 (jn @t4 (jn @t5 (jn @t6 @tA_allD))))))))))))) ?_
        refine ⟨[0, 1, 2, 3, 4], [], ?_⟩
        exact ft1 (jn @raA.eq_1 (jn @rm.eq_1 (jn @fB.eq_1 (jn @xB.eq_1 (jn @enC.eq_1 @tA_wf)))))
    have hnl : ¬ (((o, d, false) : List Ntr × List Fct × Bool).2.2 = true ∨ f ∈ d) := fun h => h.elim (fun h => by cases h) hm
    rw [if_neg hnl] at hP
    cases q with
    | false =>
      rw [if_pos rfl] at hr
      subst hr
      rw [if_pos rfl] at hP
      subst hP
      refine rn1 (jn @raA.eq_1 (jn @rm.eq_1 (jn @fB.eq_1 (jn @xB.eq_1 (jn @enC.eq_1 (jn @t1 (jn @t2 (jn @t3 (jn @t4 (jn @t5 (jn @t6 @tA_allD))))))))))) ?_
      exact fv1 [0,1,2] [] @rm.eq_1
    | true =>
      rw [if_neg (by decide)] at hr
      by_cases hw : x.why = 3
      · refine rn1 (jn @hw (jn @raA.eq_1 (jn @rm.eq_1 (jn @fB.eq_1 (jn @xB.eq_1 (jn @enC.eq_1 (jn @t1 (jn @t2 (jn @t3 (jn @t4 (jn @t5 (jn @t6 @tA_allD)))))))))))) ?_
        refine HC_cutR (raB who q2) (rm S (o, d, false) ++ [fB f, xB x, xB y]) ?_ ?_
        · skip
          refine HC_of_HV mix ?_
          refine HV_split 7 11 (by decide) ?_ ?_
          · simp only [addAt]
            refine HV_order [] ty_ok [0, 1, 2, 3, 4, 5, 6, 7, 8, 9, 10, 11, 12, 13] (by kernel_rfl) rfl _ rfl ?_
            simp only [opl_nil', opl_cons', oplC_some, List.getElem?_toArray, List.getElem?_cons_zero, List.getElem?_cons_succ]
            refine rn1 (jn @t1 (jn @t2 (jn @t3 (jn @t4 (jn @t5 (jn @t6 @tA_allD)))))) ?_
            refine HO_pureA ty_ok kg2 ?_
            refine rn1 (jn @t1 (jn @t2 (jn @t3 (jn @t4 (jn @t5 (jn @t6 (jn @z7 (jn @u1 (jn @u2 (jn @u3 (jn @u4 (jn @u5 (jn @u6 @tA_allD))))))))))))) ?_
            refine ⟨[0, 1, 2, 3, 4, 5], [], ?_⟩
            exact ft1 (jn @hw (jn @raB.eq_1 (jn @rm.eq_1 (jn @fB.eq_1 (jn @xB.eq_1 (jn @enC.eq_1 @tA_wf))))))
          · simp only [addAt]
            refine HV_order [] ty_ok [0, 1, 2, 3, 4, 5, 6, 11, 7, 8, 9, 10, 12, 13] (by kernel_rfl) rfl _ rfl ?_
            simp only [opl_nil', opl_cons', oplC_some, List.getElem?_toArray, List.getElem?_cons_zero, List.getElem?_cons_succ]
            refine rn1 (jn @t1 (jn @t2 (jn @t3 (jn @t4 (jn @t5 (jn @t6 @tA_allD)))))) ?_
            refine HO_pureA ty_ok kg2 ?_
            refine rn1 (jn @t1 (jn @t2 (jn @t3 (jn @t4 (jn @t5 (jn @t6 (jn @z7 (jn @u1 (jn @u2 (jn @u3 (jn @u4 (jn @u5 (jn @u6 @tA_allD))))))))))))) ?_
            refine ⟨[0, 1, 2, 3, 4, 5], [], ?_⟩
            exact ft1 (jn @hw (jn @raB.eq_1 (jn @rm.eq_1 (jn @fB.eq_1 (jn @xB.eq_1 (jn @enC.eq_1 @tA_wf))))))
        cases q2 with
        | false =>
          rw [if_neg (show ¬ (x.why = 3 ∧ false = true ∧ y.why = 2) from fun h => Bool.noConfusion h.2.1)] at hr
          subst hr
          rw [if_neg (by simp)] at hP
          simp only at hP hro
          refine rn1 (jn @raB.eq_1 (jn @rm.eq_1 (jn @fB.eq_1 (jn @xB.eq_1 (jn @enC.eq_1 (jn @t1 (jn @t2 (jn @t3 (jn @t4 (jn @t5 (jn @t6 @tA_allD))))))))))) ?_
          obtain ⟨v1, v2, v3, v4, v5, v6⟩ := tg32 (x).tg hro.1.1
          have hfm := hro.2 (by trivial)
          have hI2 : RInv S (o, d ++ [f], false) := by
            refine ⟨?_, ?_, hI.ok, ?_⟩
            · show (d ++ [f]).Nodup
              rw [List.nodup_append]
              exact ⟨hI.nd, by simp, fun a ha b hb => by rw [List.mem_singleton] at hb; subst hb; exact fun he => hm (he ▸ ha)⟩
            · intro g hg
              rcases List.mem_append.1 hg with hg | hg
              · exact hI.sub g hg
              · rw [List.mem_singleton] at hg; subst hg; exact hfm
            · have := hI.le; simp only [List.length_append, List.length_singleton] at *; omega
          have hm1 : flatE fctE (d ++ [f]) = flatE fctE d ++ [.c (.string f.a), .c (.string f.b), .c (.string f.p), .sl 3 f.l.length (flatE cstE f.l)] := by rw [flatE_app]; simp [flatE, fctE]
          have hm2 : (flatE fctE (d ++ [f])).length = (flatE fctE d).length + 4 := by rw [hm1, List.length_append]; rfl
          have hm3 : (d ++ [f]).length = d.length + 1 := by simp
          refine HC_plan [] ty_ok mix (by kernel_rfl) ?_
          refine rn1 (jn @t1 (jn @t2 (jn @t3 (jn @t4 (jn @t5 (jn @t6 @tA_allD)))))) ?_
          (repeat (refine And.intro (by omega) ?_))
          refine HC_loopR (fun z : Nat × (List Ntr × List Fct × Bool) => raC who z.1) (fun z => rm S z.2 ++ [fB f, xB x] ++ [none]) (fun z => z.1 ≤ (bodyP x).length ∧ ((bodyP x).take z.1).foldl (fun s g => addR S n who g s) (o, d ++ [f], false) = z.2) (fun z => (bodyP x).length - z.1) (0, (o, d ++ [f], false)) [0,1,2,3,4,0] [] ⟨Nat.zero_le _, rfl⟩ ?_ ?_
          · exact ft1 (jn @hm1 (jn @hm2 (jn @hm3 (jn @raC.eq_1 (jn @rm.eq_1 (jn @fB.eq_1 (jn @xB.eq_1 (jn @enC.eq_1 @tA_wf))))))))
          rintro ⟨i, s⟩ ⟨hi1, hi2⟩
          simp only at hi1 hi2
          have hgr := foldR_grow (S := S) (g := fun s g => addR S n who g s) (fun s f a b c => addR_grow hS n _ f s a b c) ((bodyP x).take i) (o, d ++ [f], false) hI2.nd hI2.sub hI2.ok
          rw [hi2] at hgr
          have hI3 := hI2.grow hgr
          have hle3 := hgr.le
          simp only [List.length_append, List.length_singleton] at hle3
          refine HC_of_R ty_ok ?_
          by_cases hlt : i < (bodyP x).length
          · have hwx : (x).why = 2 := by
              rcases Decidable.em ((x).why = 2) with h | h
              · exact h
              · rw [bodyP, if_neg h] at hlt; simp at hlt
            have hbx : bodyP x = (x).body := by rw [bodyP, if_pos hwx]
            rw [hbx] at hlt
            have hi : (i : Int) < (x).body.length := by omega
            have hd := flatE_drop fctE_len (x).body i hlt
            have hle := flatE_len fctE_len (x).body
            have hgl := hro.1.2.2.2 _ (List.getElem_mem hlt)
            have hbl := hro.1.2.2.1
            have htk := foldR_take (S := S) (n := n) (a := who) (b := (x).body) hlt (s1 := s) (by rw [← hbx]; exact hi2)
            have kA := ih who (x).body[i] s (Nat.le_trans hgl (by decide)) hI3 (by omega)
            rw [← htk] at kA
            generalize hs2 : ((x).body.take (i + 1)).foldl (fun s g => addR S n who g s) (o, d ++ [f], false) = s2 at kA
            generalize (x).body[i] = g at *
            obtain ⟨o1, d1, k1⟩ := s
            simp only [fctE, List.cons_append, List.nil_append] at hd kA
            refine rn1 (jn @raC.eq_1 (jn @rm.eq_1 (jn @fB.eq_1 (jn @xB.eq_1 (jn @enC.eq_1 (jn @hi (jn @hwx (jn @hd (jn @hle (jn @v1 (jn @v2 (jn @v3 (jn @v4 (jn @v5 (jn @v6 @tA_allD))))))))))))))) ?_
            (repeat (refine And.intro (by omega) ?_))
            refine HO_callX ty_ok [0, 1, 2] kA (rm_hand _ _ _ _ _ _ _ _ rfl rfl rfl) (rm_wf _ _) ?_
            rintro v r' ⟨rfl, rfl⟩ _
            refine rn1 @rm.eq_1 ?_
            (repeat (refine And.intro (by omega) ?_))
            obtain ⟨o2, d2, k2⟩ := s2
            refine ⟨(i + 1, (o2, d2, k2)), ⟨by rw [hbx]; simp only; omega, by rw [hbx]; exact hs2⟩, by rw [hbx]; simp only; omega, [0,1,2,3,4,0], [], ?_⟩
            exact ft1 (jn @raC.eq_1 (jn @rm.eq_1 (jn @fB.eq_1 (jn @xB.eq_1 (jn @enC.eq_1 @tA_wf)))))
          · rw [List.take_of_length_le (by omega)] at hi2
            rw [hi2] at hP
            obtain ⟨o1, d1, k1⟩ := s
            subst hP
            have h39 : (flE (o1 ++ [x])).length = (flE o1).length + 39 := by rw [flE_snoc, List.length_append, entE_len (x := x) hro.1.1]
            have ho1 : (o1 ++ [x]).length = o1.length + 1 := by simp
            have hlo := hI3.le
            have hld := hI3.len
            simp only at hlo hld
            by_cases hlb : i < (x).body.length
            · have hi : (i : Int) < (x).body.length := by omega
              have hw2 : ¬ (x).why = 2 := fun h => by rw [bodyP, if_pos h] at hlt; exact hlt hlb
              refine rn1 (jn @raC.eq_1 (jn @rm.eq_1 (jn @fB.eq_1 (jn @xB.eq_1 (jn @enC.eq_1 (jn @hi (jn @hw2 (jn @v1 (jn @v2 (jn @v3 (jn @v4 (jn @v5 (jn @v6 @tA_allD))))))))))))) ?_
              refine HC_plan [] ty_ok mix (by kernel_rfl) ?_
              refine rn1 (jn @v1 (jn @v2 (jn @v3 (jn @v4 (jn @v5 (jn @v6 @tA_allD)))))) ?_
              (repeat (refine And.intro (by omega) ?_))
              simp only [rm, h39, ho1]
              simp only [flE_snoc, entE, fctE, List.cons_append, List.nil_append]
              exact fv0 [0,1,2] []
            · have hi : ¬ (i : Int) < (x).body.length := by omega
              refine rn1 (jn @raC.eq_1 (jn @rm.eq_1 (jn @fB.eq_1 (jn @xB.eq_1 (jn @enC.eq_1 (jn @hi (jn @v1 (jn @v2 (jn @v3 (jn @v4 (jn @v5 (jn @v6 @tA_allD)))))))))))) ?_
              refine HC_plan [] ty_ok mix (by kernel_rfl) ?_
              refine rn1 (jn @v1 (jn @v2 (jn @v3 (jn @v4 (jn @v5 (jn @v6 @tA_allD)))))) ?_
              (repeat (refine And.intro (by omega) ?_))
              simp only [rm, h39, ho1]
              simp only [flE_snoc, entE, fctE, List.cons_append, List.nil_append]
              exact fv0 [0,1,2] []
        | true =>
          by_cases hw2 : y.why = 2
          · rw [if_pos (show x.why = 3 ∧ true = true ∧ y.why = 2 from ⟨hw, rfl, hw2⟩)] at hr
            subst hr
            rw [if_neg (by simp)] at hP
            simp only at hP hro
            have t7 : (tA x.tg).drop 32 = [] := List.drop_of_length_le (by omega)
            refine rn1 (jn @hw2 (jn @raB.eq_1 (jn @rm.eq_1 (jn @fB.eq_1 (jn @xB.eq_1 (jn @enC.eq_1 (jn @t1 (jn @t2 (jn @t3 (jn @t4 (jn @t5 (jn @t6 (jn @t7 (jn @u1 (jn @u2 (jn @u3 (jn @u4 (jn @u5 (jn @u6 @tA_allD))))))))))))))))))) ?_
            obtain ⟨v1, v2, v3, v4, v5, v6⟩ := tg32 (y).tg hro.1.1
            have hfm := hro.2 (by trivial)
            have hI2 : RInv S (o, d ++ [f], false) := by
              refine ⟨?_, ?_, hI.ok, ?_⟩
              · show (d ++ [f]).Nodup
                rw [List.nodup_append]
                exact ⟨hI.nd, by simp, fun a ha b hb => by rw [List.mem_singleton] at hb; subst hb; exact fun he => hm (he ▸ ha)⟩
              · intro g hg
                rcases List.mem_append.1 hg with hg | hg
                · exact hI.sub g hg
                · rw [List.mem_singleton] at hg; subst hg; exact hfm
              · have := hI.le; simp only [List.length_append, List.length_singleton] at *; omega
            have hm1 : flatE fctE (d ++ [f]) = flatE fctE d ++ [.c (.string f.a), .c (.string f.b), .c (.string f.p), .sl 3 f.l.length (flatE cstE f.l)] := by rw [flatE_app]; simp [flatE, fctE]
            have hm2 : (flatE fctE (d ++ [f])).length = (flatE fctE d).length + 4 := by rw [hm1, List.length_append]; rfl
            have hm3 : (d ++ [f]).length = d.length + 1 := by simp
            refine HC_plan [] ty_ok mix (by kernel_rfl) ?_
            refine rn1 (jn @t1 (jn @t2 (jn @t3 (jn @t4 (jn @t5 (jn @t6 @tA_allD)))))) ?_
            (repeat (refine And.intro (by omega) ?_))
            refine HC_loopR (fun z : Nat × (List Ntr × List Fct × Bool) => raC f.b z.1) (fun z => rm S z.2 ++ [fB f, xB y] ++ [none]) (fun z => z.1 ≤ (bodyP y).length ∧ ((bodyP y).take z.1).foldl (fun s g => addR S n f.b g s) (o, d ++ [f], false) = z.2) (fun z => (bodyP y).length - z.1) (0, (o, d ++ [f], false)) [0,1,2,3,4,0] [] ⟨Nat.zero_le _, rfl⟩ ?_ ?_
            · exact ft1 (jn @hw2 (jn @hm1 (jn @hm2 (jn @hm3 (jn @raC.eq_1 (jn @rm.eq_1 (jn @fB.eq_1 (jn @xB.eq_1 (jn @enC.eq_1 @tA_wf)))))))))
            rintro ⟨i, s⟩ ⟨hi1, hi2⟩
            simp only at hi1 hi2
            have hgr := foldR_grow (S := S) (g := fun s g => addR S n f.b g s) (fun s f a b c => addR_grow hS n _ f s a b c) ((bodyP y).take i) (o, d ++ [f], false) hI2.nd hI2.sub hI2.ok
            rw [hi2] at hgr
            have hI3 := hI2.grow hgr
            have hle3 := hgr.le
            simp only [List.length_append, List.length_singleton] at hle3
            refine HC_of_R ty_ok ?_
            by_cases hlt : i < (bodyP y).length
            · have hwx : (y).why = 2 := by
                rcases Decidable.em ((y).why = 2) with h | h
                · exact h
                · rw [bodyP, if_neg h] at hlt; simp at hlt
              have hbx : bodyP y = (y).body := by rw [bodyP, if_pos hwx]
              rw [hbx] at hlt
              have hi : (i : Int) < (y).body.length := by omega
              have hd := flatE_drop fctE_len (y).body i hlt
              have hle := flatE_len fctE_len (y).body
              have hgl := hro.1.2.2.2 _ (List.getElem_mem hlt)
              have hbl := hro.1.2.2.1
              have htk := foldR_take (S := S) (n := n) (a := f.b) (b := (y).body) hlt (s1 := s) (by rw [← hbx]; exact hi2)
              have kA := ih f.b (y).body[i] s (Nat.le_trans hgl (by decide)) hI3 (by omega)
              rw [← htk] at kA
              generalize hs2 : ((y).body.take (i + 1)).foldl (fun s g => addR S n f.b g s) (o, d ++ [f], false) = s2 at kA
              generalize (y).body[i] = g at *
              obtain ⟨o1, d1, k1⟩ := s
              simp only [fctE, List.cons_append, List.nil_append] at hd kA
              refine rn1 (jn @raC.eq_1 (jn @rm.eq_1 (jn @fB.eq_1 (jn @xB.eq_1 (jn @enC.eq_1 (jn @hi (jn @hwx (jn @hd (jn @hle (jn @v1 (jn @v2 (jn @v3 (jn @v4 (jn @v5 (jn @v6 @tA_allD))))))))))))))) ?_
              (repeat (refine And.intro (by omega) ?_))
              refine HO_callX ty_ok [0, 1, 2] kA (rm_hand _ _ _ _ _ _ _ _ rfl rfl rfl) (rm_wf _ _) ?_
              rintro v r' ⟨rfl, rfl⟩ _
              refine rn1 @rm.eq_1 ?_
              (repeat (refine And.intro (by omega) ?_))
              obtain ⟨o2, d2, k2⟩ := s2
              refine ⟨(i + 1, (o2, d2, k2)), ⟨by rw [hbx]; simp only; omega, by rw [hbx]; exact hs2⟩, by rw [hbx]; simp only; omega, [0,1,2,3,4,0], [], ?_⟩
              exact ft1 (jn @raC.eq_1 (jn @rm.eq_1 (jn @fB.eq_1 (jn @xB.eq_1 (jn @enC.eq_1 @tA_wf)))))
            · rw [List.take_of_length_le (by omega)] at hi2
              rw [hi2] at hP
              obtain ⟨o1, d1, k1⟩ := s
              subst hP
              have h39 : (flE (o1 ++ [y])).length = (flE o1).length + 39 := by rw [flE_snoc, List.length_append, entE_len (x := y) hro.1.1]
              have ho1 : (o1 ++ [y]).length = o1.length + 1 := by simp
              have hlo := hI3.le
              have hld := hI3.len
              simp only at hlo hld
              by_cases hlb : i < (y).body.length
              · have hi : (i : Int) < (y).body.length := by omega
                have hw2 : ¬ (y).why = 2 := fun h => by rw [bodyP, if_pos h] at hlt; exact hlt hlb
                refine rn1 (jn @raC.eq_1 (jn @rm.eq_1 (jn @fB.eq_1 (jn @xB.eq_1 (jn @enC.eq_1 (jn @hi (jn @hw2 (jn @v1 (jn @v2 (jn @v3 (jn @v4 (jn @v5 (jn @v6 @tA_allD))))))))))))) ?_
                refine HC_plan [] ty_ok mix (by kernel_rfl) ?_
                refine rn1 (jn @v1 (jn @v2 (jn @v3 (jn @v4 (jn @v5 (jn @v6 @tA_allD)))))) ?_
                (repeat (refine And.intro (by omega) ?_))
                simp only [rm, h39, ho1]
                simp only [flE_snoc, entE, fctE, List.cons_append, List.nil_append]
                exact fv0 [0,1,2] []
              · have hi : ¬ (i : Int) < (y).body.length := by omega
                refine rn1 (jn @raC.eq_1 (jn @rm.eq_1 (jn @fB.eq_1 (jn @xB.eq_1 (jn @enC.eq_1 (jn @hi (jn @v1 (jn @v2 (jn @v3 (jn @v4 (jn @v5 (jn @v6 @tA_allD)))))))))))) ?_
                refine HC_plan [] ty_ok mix (by kernel_rfl) ?_
                refine rn1 (jn @v1 (jn @v2 (jn @v3 (jn @v4 (jn @v5 (jn @v6 @tA_allD)))))) ?_
                (repeat (refine And.intro (by omega) ?_))
                simp only [rm, h39, ho1]
                simp only [flE_snoc, entE, fctE, List.cons_append, List.nil_append]
                exact fv0 [0,1,2] []
          · rw [if_neg (show ¬ (x.why = 3 ∧ true = true ∧ y.why = 2) from fun h => hw2 h.2.2)] at hr
            subst hr
            rw [if_neg (by simp)] at hP
            simp only at hP hro
            refine rn1 (jn @hw2 (jn @raB.eq_1 (jn @rm.eq_1 (jn @fB.eq_1 (jn @xB.eq_1 (jn @enC.eq_1 (jn @t1 (jn @t2 (jn @t3 (jn @t4 (jn @t5 (jn @t6 (jn @u1 (jn @u2 (jn @u3 (jn @u4 (jn @u5 (jn @u6 @tA_allD)))))))))))))))))) ?_
            obtain ⟨v1, v2, v3, v4, v5, v6⟩ := tg32 (x).tg hro.1.1
            have hfm := hro.2 (by trivial)
            have hI2 : RInv S (o, d ++ [f], false) := by
              refine ⟨?_, ?_, hI.ok, ?_⟩
              · show (d ++ [f]).Nodup
                rw [List.nodup_append]
                exact ⟨hI.nd, by simp, fun a ha b hb => by rw [List.mem_singleton] at hb; subst hb; exact fun he => hm (he ▸ ha)⟩
              · intro g hg
                rcases List.mem_append.1 hg with hg | hg
                · exact hI.sub g hg
                · rw [List.mem_singleton] at hg; subst hg; exact hfm
              · have := hI.le; simp only [List.length_append, List.length_singleton] at *; omega
            have hm1 : flatE fctE (d ++ [f]) = flatE fctE d ++ [.c (.string f.a), .c (.string f.b), .c (.string f.p), .sl 3 f.l.length (flatE cstE f.l)] := by rw [flatE_app]; simp [flatE, fctE]
            have hm2 : (flatE fctE (d ++ [f])).length = (flatE fctE d).length + 4 := by rw [hm1, List.length_append]; rfl
            have hm3 : (d ++ [f]).length = d.length + 1 := by simp
            refine HC_plan [] ty_ok mix (by kernel_rfl) ?_
            refine rn1 (jn @t1 (jn @t2 (jn @t3 (jn @t4 (jn @t5 (jn @t6 @tA_allD)))))) ?_
            (repeat (refine And.intro (by omega) ?_))
            refine HC_loopR (fun z : Nat × (List Ntr × List Fct × Bool) => raC who z.1) (fun z => rm S z.2 ++ [fB f, xB x] ++ [none]) (fun z => z.1 ≤ (bodyP x).length ∧ ((bodyP x).take z.1).foldl (fun s g => addR S n who g s) (o, d ++ [f], false) = z.2) (fun z => (bodyP x).length - z.1) (0, (o, d ++ [f], false)) [0,1,2,3,4,0] [] ⟨Nat.zero_le _, rfl⟩ ?_ ?_
            · exact ft1 (jn @hm1 (jn @hm2 (jn @hm3 (jn @raC.eq_1 (jn @rm.eq_1 (jn @fB.eq_1 (jn @xB.eq_1 (jn @enC.eq_1 @tA_wf))))))))
            rintro ⟨i, s⟩ ⟨hi1, hi2⟩
            simp only at hi1 hi2
            have hgr := foldR_grow (S := S) (g := fun s g => addR S n who g s) (fun s f a b c => addR_grow hS n _ f s a b c) ((bodyP x).take i) (o, d ++ [f], false) hI2.nd hI2.sub hI2.ok
            rw [hi2] at hgr
            have hI3 := hI2.grow hgr
            have hle3 := hgr.le
            simp only [List.length_append, List.length_singleton] at hle3
            refine HC_of_R ty_ok ?_
            by_cases hlt : i < (bodyP x).length
            · have hwx : (x).why = 2 := by
                rcases Decidable.em ((x).why = 2) with h | h
                · exact h
                · rw [bodyP, if_neg h] at hlt; simp at hlt
              have hbx : bodyP x = (x).body := by rw [bodyP, if_pos hwx]
              rw [hbx] at hlt
              have hi : (i : Int) < (x).body.length := by omega
              have hd := flatE_drop fctE_len (x).body i hlt
              have hle := flatE_len fctE_len (x).body
              have hgl := hro.1.2.2.2 _ (List.getElem_mem hlt)
              have hbl := hro.1.2.2.1
              have htk := foldR_take (S := S) (n := n) (a := who) (b := (x).body) hlt (s1 := s) (by rw [← hbx]; exact hi2)
              have kA := ih who (x).body[i] s (Nat.le_trans hgl (by decide)) hI3 (by omega)
              rw [← htk] at kA
              generalize hs2 : ((x).body.take (i + 1)).foldl (fun s g => addR S n who g s) (o, d ++ [f], false) = s2 at kA
              generalize (x).body[i] = g at *
              obtain ⟨o1, d1, k1⟩ := s
              simp only [fctE, List.cons_append, List.nil_append] at hd kA
              refine rn1 (jn @raC.eq_1 (jn @rm.eq_1 (jn @fB.eq_1 (jn @xB.eq_1 (jn @enC.eq_1 (jn @hi (jn @hwx (jn @hd (jn @hle (jn @v1 (jn @v2 (jn @v3 (jn @v4 (jn @v5 (jn @v6 @tA_allD))))))))))))))) ?_
              (repeat (refine And.intro (by omega) ?_))
              refine HO_callX ty_ok [0, 1, 2] kA (rm_hand _ _ _ _ _ _ _ _ rfl rfl rfl) (rm_wf _ _) ?_
              rintro v r' ⟨rfl, rfl⟩ _
              refine rn1 @rm.eq_1 ?_
              (repeat (refine And.intro (by omega) ?_))
              obtain ⟨o2, d2, k2⟩ := s2
              refine ⟨(i + 1, (o2, d2, k2)), ⟨by rw [hbx]; simp only; omega, by rw [hbx]; exact hs2⟩, by rw [hbx]; simp only; omega, [0,1,2,3,4,0], [], ?_⟩
              exact ft1 (jn @raC.eq_1 (jn @rm.eq_1 (jn @fB.eq_1 (jn @xB.eq_1 (jn @enC.eq_1 @tA_wf)))))
            · rw [List.take_of_length_le (by omega)] at hi2
              rw [hi2] at hP
              obtain ⟨o1, d1, k1⟩ := s
              subst hP
              have h39 : (flE (o1 ++ [x])).length = (flE o1).length + 39 := by rw [flE_snoc, List.length_append, entE_len (x := x) hro.1.1]
              have ho1 : (o1 ++ [x]).length = o1.length + 1 := by simp
              have hlo := hI3.le
              have hld := hI3.len
              simp only at hlo hld
              by_cases hlb : i < (x).body.length
              · have hi : (i : Int) < (x).body.length := by omega
                have hw2 : ¬ (x).why = 2 := fun h => by rw [bodyP, if_pos h] at hlt; exact hlt hlb
                refine rn1 (jn @raC.eq_1 (jn @rm.eq_1 (jn @fB.eq_1 (jn @xB.eq_1 (jn @enC.eq_1 (jn @hi (jn @hw2 (jn @v1 (jn @v2 (jn @v3 (jn @v4 (jn @v5 (jn @v6 @tA_allD))))))))))))) ?_
                refine HC_plan [] ty_ok mix (by kernel_rfl) ?_
                refine rn1 (jn @v1 (jn @v2 (jn @v3 (jn @v4 (jn @v5 (jn @v6 @tA_allD)))))) ?_
                (repeat (refine And.intro (by omega) ?_))
                simp only [rm, h39, ho1]
                simp only [flE_snoc, entE, fctE, List.cons_append, List.nil_append]
                exact fv0 [0,1,2] []
              · have hi : ¬ (i : Int) < (x).body.length := by omega
                refine rn1 (jn @raC.eq_1 (jn @rm.eq_1 (jn @fB.eq_1 (jn @xB.eq_1 (jn @enC.eq_1 (jn @hi (jn @v1 (jn @v2 (jn @v3 (jn @v4 (jn @v5 (jn @v6 @tA_allD)))))))))))) ?_
                refine HC_plan [] ty_ok mix (by kernel_rfl) ?_
                refine rn1 (jn @v1 (jn @v2 (jn @v3 (jn @v4 (jn @v5 (jn @v6 @tA_allD)))))) ?_
                (repeat (refine And.intro (by omega) ?_))
                simp only [rm, h39, ho1]
                simp only [flE_snoc, entE, fctE, List.cons_append, List.nil_append]
                exact fv0 [0,1,2] []
      · rw [if_neg (show ¬ (x.why = 3 ∧ q2 = true ∧ y.why = 2) from fun h => hw h.1)] at hr
        subst hr
        rw [if_neg (by simp)] at hP
        simp only at hP hro
        refine rn1 (jn @hw (jn @raA.eq_1 (jn @rm.eq_1 (jn @fB.eq_1 (jn @xB.eq_1 (jn @enC.eq_1 (jn @t1 (jn @t2 (jn @t3 (jn @t4 (jn @t5 (jn @t6 @tA_allD)))))))))))) ?_
        obtain ⟨v1, v2, v3, v4, v5, v6⟩ := tg32 (x).tg hro.1.1
        have hfm := hro.2 (by trivial)
        have hI2 : RInv S (o, d ++ [f], false) := by
          refine ⟨?_, ?_, hI.ok, ?_⟩
          · show (d ++ [f]).Nodup
            rw [List.nodup_append]
            exact ⟨hI.nd, by simp, fun a ha b hb => by rw [List.mem_singleton] at hb; subst hb; exact fun he => hm (he ▸ ha)⟩
          · intro g hg
            rcases List.mem_append.1 hg with hg | hg
            · exact hI.sub g hg
            · rw [List.mem_singleton] at hg; subst hg; exact hfm
          · have := hI.le; simp only [List.length_append, List.length_singleton] at *; omega
        have hm1 : flatE fctE (d ++ [f]) = flatE fctE d ++ [.c (.string f.a), .c (.string f.b), .c (.string f.p), .sl 3 f.l.length (flatE cstE f.l)] := by rw [flatE_app]; simp [flatE, fctE]
        have hm2 : (flatE fctE (d ++ [f])).length = (flatE fctE d).length + 4 := by rw [hm1, List.length_append]; rfl
        have hm3 : (d ++ [f]).length = d.length + 1 := by simp
        refine HC_plan [] ty_ok mix (by kernel_rfl) ?_
        refine rn1 (jn @t1 (jn @t2 (jn @t3 (jn @t4 (jn @t5 (jn @t6 @tA_allD)))))) ?_
        (repeat (refine And.intro (by omega) ?_))
        refine HC_loopR (fun z : Nat × (List Ntr × List Fct × Bool) => raC who z.1) (fun z => rm S z.2 ++ [fB f, xB x] ++ []) (fun z => z.1 ≤ (bodyP x).length ∧ ((bodyP x).take z.1).foldl (fun s g => addR S n who g s) (o, d ++ [f], false) = z.2) (fun z => (bodyP x).length - z.1) (0, (o, d ++ [f], false)) [0,1,2,3,4] [] ⟨Nat.zero_le _, rfl⟩ ?_ ?_
        · exact ft1 (jn @hm1 (jn @hm2 (jn @hm3 (jn @raC.eq_1 (jn @rm.eq_1 (jn @fB.eq_1 (jn @xB.eq_1 (jn @enC.eq_1 @tA_wf))))))))
        rintro ⟨i, s⟩ ⟨hi1, hi2⟩
        simp only at hi1 hi2
        have hgr := foldR_grow (S := S) (g := fun s g => addR S n who g s) (fun s f a b c => addR_grow hS n _ f s a b c) ((bodyP x).take i) (o, d ++ [f], false) hI2.nd hI2.sub hI2.ok
        rw [hi2] at hgr
        have hI3 := hI2.grow hgr
        have hle3 := hgr.le
        simp only [List.length_append, List.length_singleton] at hle3
        refine HC_of_R ty_ok ?_
        by_cases hlt : i < (bodyP x).length
        · have hwx : (x).why = 2 := by
            rcases Decidable.em ((x).why = 2) with h | h
            · exact h
            · rw [bodyP, if_neg h] at hlt; simp at hlt
          have hbx : bodyP x = (x).body := by rw [bodyP, if_pos hwx]
          rw [hbx] at hlt
          have hi : (i : Int) < (x).body.length := by omega
          have hd := flatE_drop fctE_len (x).body i hlt
          have hle := flatE_len fctE_len (x).body
          have hgl := hro.1.2.2.2 _ (List.getElem_mem hlt)
          have hbl := hro.1.2.2.1
          have htk := foldR_take (S := S) (n := n) (a := who) (b := (x).body) hlt (s1 := s) (by rw [← hbx]; exact hi2)
          have kA := ih who (x).body[i] s (Nat.le_trans hgl (by decide)) hI3 (by omega)
          rw [← htk] at kA
          generalize hs2 : ((x).body.take (i + 1)).foldl (fun s g => addR S n who g s) (o, d ++ [f], false) = s2 at kA
          generalize (x).body[i] = g at *
          obtain ⟨o1, d1, k1⟩ := s
          simp only [fctE, List.cons_append, List.nil_append] at hd kA
          refine rn1 (jn @raC.eq_1 (jn @rm.eq_1 (jn @fB.eq_1 (jn @xB.eq_1 (jn @enC.eq_1 (jn @hi (jn @hwx (jn @hd (jn @hle (jn @v1 (jn @v2 (jn @v3 (jn @v4 (jn @v5 (jn @v6 @tA_allD))))))))))))))) ?_
          (repeat (refine And.intro (by omega) ?_))
          refine HO_callX ty_ok [0, 1, 2] kA (rm_hand _ _ _ _ _ _ _ _ rfl rfl rfl) (rm_wf _ _) ?_
          rintro v r' ⟨rfl, rfl⟩ _
          refine rn1 @rm.eq_1 ?_
          (repeat (refine And.intro (by omega) ?_))
          obtain ⟨o2, d2, k2⟩ := s2
          refine ⟨(i + 1, (o2, d2, k2)), ⟨by rw [hbx]; simp only; omega, by rw [hbx]; exact hs2⟩, by rw [hbx]; simp only; omega, [0,1,2,3,4], [], ?_⟩
          exact ft1 (jn @raC.eq_1 (jn @rm.eq_1 (jn @fB.eq_1 (jn @xB.eq_1 (jn @enC.eq_1 @tA_wf)))))
        · rw [List.take_of_length_le (by omega)] at hi2
          rw [hi2] at hP
          obtain ⟨o1, d1, k1⟩ := s
          subst hP
          have h39 : (flE (o1 ++ [x])).length = (flE o1).length + 39 := by rw [flE_snoc, List.length_append, entE_len (x := x) hro.1.1]
          have ho1 : (o1 ++ [x]).length = o1.length + 1 := by simp
          have hlo := hI3.le
          have hld := hI3.len
          simp only at hlo hld
          by_cases hlb : i < (x).body.length
          · have hi : (i : Int) < (x).body.length := by omega
            have hw2 : ¬ (x).why = 2 := fun h => by rw [bodyP, if_pos h] at hlt; exact hlt hlb
            refine rn1 (jn @raC.eq_1 (jn @rm.eq_1 (jn @fB.eq_1 (jn @xB.eq_1 (jn @enC.eq_1 (jn @hi (jn @hw2 (jn @v1 (jn @v2 (jn @v3 (jn @v4 (jn @v5 (jn @v6 @tA_allD))))))))))))) ?_
            refine HC_plan [] ty_ok mix (by kernel_rfl) ?_
            refine rn1 (jn @v1 (jn @v2 (jn @v3 (jn @v4 (jn @v5 (jn @v6 @tA_allD)))))) ?_
            (repeat (refine And.intro (by omega) ?_))
            simp only [rm, h39, ho1]
            simp only [flE_snoc, entE, fctE, List.cons_append, List.nil_append]
            exact fv0 [0,1,2] []
          · have hi : ¬ (i : Int) < (x).body.length := by omega
            refine rn1 (jn @raC.eq_1 (jn @rm.eq_1 (jn @fB.eq_1 (jn @xB.eq_1 (jn @enC.eq_1 (jn @hi (jn @v1 (jn @v2 (jn @v3 (jn @v4 (jn @v5 (jn @v6 @tA_allD)))))))))))) ?_
            refine HC_plan [] ty_ok mix (by kernel_rfl) ?_
            refine rn1 (jn @v1 (jn @v2 (jn @v3 (jn @v4 (jn @v5 (jn @v6 @tA_allD)))))) ?_
            (repeat (refine And.intro (by omega) ?_))
            simp only [rm, h39, ho1]
            simp only [flE_snoc, entE, fctE, List.cons_append, List.nil_append]
            exact fv0 [0,1,2] []
theorem radd_ok (S : List Srce) (hS : okS S) (hF : (facts S).length ≤ 100000) : ∀ n, AddR S n
  | 0 => fun who f s _ hI hfu => absurd hI.len (by omega)
  | n + 1 => radd_step S hS hF n (radd_ok S hS hF n)
end Go.Proofs.Ytdbicadncccpoaa

set_option linter.unusedVariables false
set_option linter.unusedSimpArgs false
set_option maxRecDepth 100000
namespace Go.Proofs.Ytdbicadncccpoaa
open Go Go.ChangeShapes Go.WideShapes
/-! The document's Make. -/
def mrN (S : List Srce) : Rs := [some (.obj [.d (.sl 2 S.length (flatE rsE S)), .d (.c (.slice none 0 0)), .d (.c (.slice none 0 0)), .d (.c (.bool false))])]
theorem radd_nil (S : List Srce) (hS : okS S) (hF : (facts S).length ≤ 100000) (who : ByteArray) (f : Fct) (hf : f.l.length ≤ 140737488352000) :
    AC Try.prog noG 55 [.ptr 0 0, .d (.c (.string who)), .d (.agg (fctE f))] (mrN S) (fun v r' => v = .tup [] ∧ r' = rm S (addR S ((facts S).length + 1) who f ([], [], false))) := by
  have h := radd_ok S hS hF ((facts S).length + 1) who f ([], [], false) hf ⟨by simp, by simp, by simp, by simp⟩ (by simp)
  refine AC.pre [0, 1, 2] [0, 0] h ⟨⟨_, rfl, ?_⟩, rfl, rfl, trivial⟩ rfl rfl (by simp [mrN, rm]) ?_ rfl
  · exact ⟨.inl (.refl _), .inr ⟨1, 39, 0, [], rfl, Nat.le_refl _, rfl, .nilFull _⟩, .inr ⟨2, 4, 0, [], rfl, by simp [mrN], rfl, .nilFull _⟩, .inl (.refl _), trivial⟩
  · exact ⟨.inl (.refl _), .inl (.refl _), .inl (.refl _), trivial⟩
theorem mrN_hand (S : List Srce) (rc : Rs) (i : Nat) (hi : rc[i]? = some (some (.obj [.d (.sl 2 S.length (flatE rsE S)), .d (.c (.slice none 0 0)), .d (.c (.slice none 0 0)), .d (.c (.bool false))]))) : HandOK (nm [i] rc.length) rc (mrN S) [i] := by
  refine ⟨fun y h => ?_, trivial⟩
  injection h with h; subst h
  rw [hi]; rfl
theorem mrN_wf (S : List Srce) : wfRs (mrN S).length (mrN S) = true := rfl
theorem make_agree (S : List Srce) (who : ByteArray) (f : Fct) : (makeE S who f = 152 ∧ makeL S who f = [] ∧ (addR S ((facts S).length + 1) who f ([], [], false)).2.2 = true) ∨
    (makeE S who f = 0 ∧ (addR S ((facts S).length + 1) who f ([], [], false)).1 = makeL S who f ∧ (addR S ((facts S).length + 1) who f ([], [], false)).2.2 = false) := by
  have h := addR_agree S ((facts S).length + 1) who f ([], [], false) [] (by simp) rfl
  simp only at h
  rw [makeE, makeL]
  cases hq : addP S ((facts S).length + 1) who f ([], []) with
  | none => rw [hq] at h; exact .inl ⟨rfl, rfl, h⟩
  | some t => rw [hq] at h; exact .inr ⟨rfl, h.1, h.2.1⟩
theorem rmake_ac (S : List Srce) (hS : okS S) (hF : (facts S).length ≤ 100000) (who : ByteArray) (f : Fct) (hf : f.l.length ≤ 140737488352000) :
    AC Try.prog noG 22 [.d (.c (.string who)), .d (.agg (fctE f)), .d (.sl 2 S.length (flatE rsE S))] [] (fun v r' => v = .tup [.d (.sl 39 (makeL S who f).length (flE (makeL S who f))), .d (.c (.int .i64 (makeE S who f)))] ∧ r' = []) := by
  refine AC.fit ?_
  refine AC_of_R (N := 24) (res := [.tmp 6, .tmp 7]) ty_ok Try.call22 Try.func22 rfl rfl rfl (Nat.le_of_ble_eq_true rfl) ?_
  have ka := radd_nil S hS hF who f hf
  have hm := make_agree S who f
  generalize addR S ((facts S).length + 1) who f ([], [], false) = R at *
  obtain ⟨o, d, q⟩ := R
  simp only [fctE, List.cons_append, List.nil_append] at ka
  refine rn1 @fctE.eq_1 ?_
  refine HO_callX ty_ok [1] ka (mrN_hand _ _ _ rfl) (mrN_wf _) ?_
  rintro v r' ⟨rfl, rfl⟩ _
  rcases hm with ⟨h1, h2, h3⟩ | ⟨h1, h2, h3⟩
  · simp only at h3
    subst h3
    rw [h1, h2]
    refine rn1 @rm.eq_1 ?_
    have e1 : flE [] = [] := rfl
    simp only [e1, List.length_nil]
    exact fv0 [] []
  · simp only at h3 h2
    subst h3
    rw [h1, ← h2]
    refine rn1 @rm.eq_1 ?_
    exact fv0 [] []
end Go.Proofs.Ytdbicadncccpoaa
