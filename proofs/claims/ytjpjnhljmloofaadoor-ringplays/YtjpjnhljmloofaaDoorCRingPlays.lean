import Derived.Test.YtjpjnhljmloofaaDoorCFew
import Derived.Test.YtjpjnhljmloofaaDoorCRNew
import Derived.Test.YtjpjnhljmloofaaDoorCRSign
import Derived.Test.YtjpjnhljmloofaaDoorCRingVer
set_option linter.unusedVariables false
set_option linter.unusedSimpArgs false
set_option maxRecDepth 100000
namespace Go.Proofs.YtjpjnhljmloofaaDoor
open Go Go.ChangeShapes Go.WideShapes
theorem fewG_ok : ∀ (l : List ActT) (n : Int), fewG n l = true → 0 ≤ n → n ≤ 200 → n + l.length ≤ 200 ∧ ∀ a ∈ l, a.dom.size + a.b.length + a.t.length ≤ 10000
  | [], n, _, _, h => ⟨by simpa using h, fun a ha => absurd ha List.not_mem_nil⟩
  | a :: l, n, h, h0, h1 => by
    rw [fewG] at h
    split at h
    · cases h
    · rename_i h2
      have hw : aw a = ((a.b.length : Int) + a.t.length + a.dom.size) / 40 := rfl
      obtain ⟨k1, k2⟩ := fewG_ok l _ h (by omega) (by omega)
      refine ⟨by simp only [List.length_cons]; omega, fun x hx => ?_⟩
      rcases List.mem_cons.1 hx with rfl | hx
      · omega
      · exact k2 x hx
theorem signB_len (l : List ByteArray) (bk : List Pr) (w d : ByteArray) (b : List UInt8) : (signB l bk w d b).length ≤ bk.length + 1 := by
  rw [signB]; split <;> simp
def rpSt (l : List ActT) (i : Nat) : List (Nat × AV) := [(2, .d (.sl 5 l.length (actL l))), (6, .d (.c (.bool false))), (7, .ptr 2 0), (9, .ptr 3 0), (11, .d (.c (.int .i64 i)))]
def rpRe (n : Int) (s : List ByteArray) (bk : List Pr) : Rs := [some (.map (kM n s)), some (.map (bM bk)), some (.obj (rgO s 0 1)), some (.obj (rqO n s bk 4)), some (.tok (pD bk).length)]
def rpJ : List (Nat × AV) := [(12, .ptr 5 0), (13, .d (.c (.bool true)))]
def rpA (k : Int) (w d : ByteArray) (b t : List UInt8) : List AV := [.d (.c (.int .i64 k)), .d (.c (.string w)), .d (.c (.string d)), .d (.sl 1 b.length (bD b)), .d (.sl 1 t.length (bD t))]
theorem share {p : Code → Prop} {q : Prop} (c : Code) (k : p c → q) (h : p c) : q := k h
set_option maxHeartbeats 4000000 in
theorem ringPlays_ac (n : Int) (s : List ByteArray) (l : List ActT) (h0 : -9223372036854775808 ≤ n) (h1 : n ≤ 9223372036854775807) (hs : s.length ≤ 140737488352000) (hl : l.length ≤ 140737488352000) (ho : ∀ a ∈ l, actOk a) :
    AC Tryd.prog noG 9 [.d (.c (.int .i64 n)), .d (.sl 1 s.length (sD s)), .d (.sl 5 l.length (actL l))] [] (fun v r' => v = .d (.c (.bool true)) ∧ r' = []) := by
  refine AC.pure ?_ (by rintro v rfl; rfl)
  refine AC_of_R (N := 172) (res := [.tmp 6]) ty_ok Tryd.call9 Tryd.func9 rfl rfl rfl (Nat.le_of_ble_eq_true rfl) ?_
  have hr : reachBytes = 140737488351232 := rfl
  have kf := few_ac l (fun a ha => by have := ho a ha; obtain ⟨_, a1, a2, a3, a4⟩ := this; omega) hl
  obtain ⟨q, hq⟩ : ∃ q, q = fewG 0 l := ⟨_, rfl⟩
  rw [← hq] at kf
  refine rn0 ?_
  refine HO_pureA ty_ok kf ?_
  cases q with
  | false =>
    refine rn0 ?_
    refine HO_pureA ty_ok rlive_ac ?_
    exact rz0
  | true =>
    obtain ⟨f1, f2⟩ := fewG_ok l 0 hq.symm (by decide) (by decide)
    clear hq
    apply share (p := fun c => ∀ (i : Nat) (B : List Pr) (k : Int) (aw_ ad : ByteArray) (ab at_ : List UInt8) (K : KD), B.length ≤ 100000 → A Tryd.prog ty noG 172 K .normal ⟨fun _ => .top, rpSt l i ++ [(170, .d (.c (.bool false)))], rpRe n s B ++ [none, none, none]⟩ → HC Tryd.prog ty noG 172 c K ⟨fun _ => .top, rpSt l i ++ rpJ, rpRe n s B ++ [some (.obj (rpA k aw_ ad ab at_)), none, none]⟩)
    · intro r22
      refine rn0 ?_
      by_cases hn : newE s = 0
      · have hs6 : s.length ≤ 6 := by
          by_cases h6 : 6 < s.length
          · rw [newE, if_pos h6] at hn; exact absurd hn (by decide)
          · omega
        refine HO_callX ty_ok [] (new_ok n s h0 h1 hn) (trivial) rfl ?_
        rintro v r' ⟨rfl, rfl⟩ _
        refine rn1 (jn @rg.eq_1 @rgO.eq_1) ?_
        refine HO_callX ty_ok [] (rnew_ok n s h0 h1 hn) (trivial) rfl ?_
        rintro v r' ⟨rfl, rfl⟩ _
        refine rn1 (jn @rg.eq_1 (jn @rgO.eq_1 (jn @rq.eq_1 @rqO.eq_1))) ?_
        refine HC_loopR (fun x : Nat × List Pr => rpSt l x.1) (fun x => rpRe n s x.2) (fun x => x.1 ≤ l.length ∧ x.2.length ≤ x.1) (fun x => l.length - x.1) (0, []) [0, 1, 2, 3, 4] [] ⟨by simp, by simp⟩ ?_ ?_
        · exact ft1 (jn @rpSt.eq_1 (jn @rpRe.eq_1 (jn @rgO.eq_1 @rqO.eq_1)))
        intro ⟨i, bk⟩ ⟨q1, q2⟩
        simp only at q1 q2
        refine HC_of_R ty_ok ?_
        by_cases hlt : i < l.length
        · have hi : (i : Int) < l.length := by omega
          have hd := actL_drop l i hlt
          have hb := f2 l[i] (List.getElem_mem hlt)
          have hw := (ho l[i] (List.getElem_mem hlt)).2.1
          generalize l[i] = a at *
          obtain ⟨ak, aw_, ad, ab, at_⟩ := a
          simp only [actE, List.cons_append, List.nil_append] at hd
          simp only at hb hw
          have hle := actL_len l
          by_cases a0 : ak = 0
          · subst a0
            have hB := signB_len s bk aw_ ad ab
            have hZ := signT_len n s bk aw_ ad ab
            have k1 := sign_ac n s bk aw_ ad ab (by omega) (by omega)
            have k2 := rsign_ac n s bk aw_ ad ab h0 h1 (by omega) (by omega) (by omega) (by omega) (by omega)
            generalize signT n s bk aw_ ad ab = Z at *
            generalize signB s bk aw_ ad ab = B at *
            generalize signE s bk aw_ ad ab = E at *
            obtain ⟨hl1, hb1, ht1, hm1, hsp⟩ := dig32 Z hZ
            refine rn1 (jn @rpSt.eq_1 (jn @rpRe.eq_1 (jn @rgO.eq_1 (jn @rqO.eq_1 (jn @hi (jn @hd @hle)))))) ?_
            refine ⟨by omega, ?_⟩
            refine HO_callX ty_ok [0, 1, 2] (k1) (rg_hand _ _ _ _ _ _ _ rfl rfl rfl) (rg_wf _ _ _) ?_
            rintro v r' ⟨rfl, rfl⟩ _
            refine rn1 (jn @rg.eq_1 (jn @rgO.eq_1 (jn @rqO.eq_1 (jn @hl1 (jn @hb1 (jn @ht1 (jn @hm1 @hsp))))))) ?_
            refine HO_callX ty_ok [3, 4] (k2) (rq_hand _ _ _ _ _ _ rfl rfl) (rq_wf _ _ _) ?_
            rintro v r' ⟨rfl, rfl⟩ _
            refine rn1 (jn @rq.eq_1 (jn @rgO.eq_1 (jn @rqO.eq_1 (jn @hl1 (jn @hb1 (jn @ht1 (jn @hm1 (jn @hsp @bA_allD)))))))) ?_
            clear hsp k1 k2
            refine HC_fitR (rpSt l i ++ rpJ) (rpRe n s B ++ [some (.obj (rpA 0 aw_ ad ab at_)), none, none]) [0, 1, 2, 3, 4, 5, 0, 0] [] ?_ (r22 i B 0 aw_ ad ab at_ _ (by omega) ?_)
            · skip
              exact ft1 (jn @rpSt.eq_1 (jn @rpRe.eq_1 (jn @rgO.eq_1 (jn @rqO.eq_1 (jn @rpA.eq_1 @rpJ.eq_1)))))
            refine rn1 (jn @rpSt.eq_1 (jn @rpRe.eq_1 (jn @rgO.eq_1 @rqO.eq_1))) ?_
            (repeat (refine And.intro (by omega) ?_))
            refine ⟨(i + 1, B), ⟨by simp only; omega, by simp only; omega⟩, by simp only; omega, [0, 1, 2, 3, 4], [], ?_⟩
            exact ft1 (jn @rpSt.eq_1 (jn @rpRe.eq_1 (jn @rgO.eq_1 @rqO.eq_1)))
          by_cases a1 : ak = 1
          · subst a1
            have k1 := verify_ac n s bk aw_ ad ab at_ (by omega) (by omega)
            have k2 := rverify_ac n s bk aw_ ad ab at_ h0 h1 (by omega) (by omega) (by omega) (by omega)
            generalize (memB aw_ s && decide (rtag n aw_ ad ab = at_)) = w at *
            refine rn1 (jn @rpSt.eq_1 (jn @rpRe.eq_1 (jn @rgO.eq_1 (jn @rqO.eq_1 (jn @hi (jn @hd @hle)))))) ?_
            refine ⟨by omega, ?_⟩
            refine HC_cutR (rpSt l i ++ rpJ) (rpRe n s bk ++ [some (.obj (rpA 1 aw_ ad ab at_))]) ?_ ?_
            · skip
              as_aux_lemma =>
                refine HC_of_HV mix ?_
                refine HV_split 12 9 (by decide) ?_ ?_
                · simp only [addAt]
                  refine HV_split 14 9 (by decide) ?_ ?_
                  · simp only [addAt]
                    refine HV_split 16 9 (by decide) ?_ ?_
                    · simp only [addAt]
                      refine HV_split 18 9 (by decide) ?_ ?_
                      · simp only [addAt]
                        refine HV_order [] ty_ok [0, 1, 2, 3, 4, 5, 6, 7, 8, 10, 11, 12, 13, 14, 15, 16, 17, 18, 9, 19, 20, 21] (by kernel_rfl) rfl _ rfl ?_
                        simp only [opl_nil', opl_cons', oplC_some, List.getElem?_toArray, List.getElem?_cons_zero, List.getElem?_cons_succ]
                        refine rn0 ?_
                        first
                          | refine HO_callX ty_ok [0, 1, 2] (k1) (rg_hand _ _ _ _ _ _ _ rfl rfl rfl) (rg_wf _ _ _) ?_
                          | refine HO_callX ty_ok [3, 4] (k2) (rq_hand _ _ _ _ _ _ rfl rfl) (rq_wf _ _ _) ?_
                        rintro v r' ⟨rfl, rfl⟩ _
                        refine rn1 (jn @rg.eq_1 (jn @rgO.eq_1 (jn @rq.eq_1 @rqO.eq_1))) ?_
                        first
                          | refine HO_callX ty_ok [0, 1, 2] (k1) (rg_hand _ _ _ _ _ _ _ rfl rfl rfl) (rg_wf _ _ _) ?_
                          | refine HO_callX ty_ok [3, 4] (k2) (rq_hand _ _ _ _ _ _ rfl rfl) (rq_wf _ _ _) ?_
                        rintro v r' ⟨rfl, rfl⟩ _
                        refine rn1 (jn @rg.eq_1 (jn @rgO.eq_1 (jn @rq.eq_1 @rqO.eq_1))) ?_
                        refine ⟨[0, 1, 2, 3, 4, 5], [], ?_⟩
                        exact ft1 (jn @rpSt.eq_1 (jn @rpRe.eq_1 (jn @rgO.eq_1 (jn @rqO.eq_1 (jn @rpJ.eq_1 @rpA.eq_1)))))
                      · simp only [addAt]
                        refine HV_order [] ty_ok [0, 1, 2, 3, 4, 5, 6, 7, 8, 10, 11, 12, 13, 14, 15, 16, 17, 9, 18, 19, 20, 21] (by kernel_rfl) rfl _ rfl ?_
                        simp only [opl_nil', opl_cons', oplC_some, List.getElem?_toArray, List.getElem?_cons_zero, List.getElem?_cons_succ]
                        refine rn0 ?_
                        first
                          | refine HO_callX ty_ok [0, 1, 2] (k1) (rg_hand _ _ _ _ _ _ _ rfl rfl rfl) (rg_wf _ _ _) ?_
                          | refine HO_callX ty_ok [3, 4] (k2) (rq_hand _ _ _ _ _ _ rfl rfl) (rq_wf _ _ _) ?_
                        rintro v r' ⟨rfl, rfl⟩ _
                        refine rn1 (jn @rg.eq_1 (jn @rgO.eq_1 (jn @rq.eq_1 @rqO.eq_1))) ?_
                        first
                          | refine HO_callX ty_ok [0, 1, 2] (k1) (rg_hand _ _ _ _ _ _ _ rfl rfl rfl) (rg_wf _ _ _) ?_
                          | refine HO_callX ty_ok [3, 4] (k2) (rq_hand _ _ _ _ _ _ rfl rfl) (rq_wf _ _ _) ?_
                        rintro v r' ⟨rfl, rfl⟩ _
                        refine rn1 (jn @rg.eq_1 (jn @rgO.eq_1 (jn @rq.eq_1 @rqO.eq_1))) ?_
                        refine ⟨[0, 1, 2, 3, 4, 5], [], ?_⟩
                        exact ft1 (jn @rpSt.eq_1 (jn @rpRe.eq_1 (jn @rgO.eq_1 (jn @rqO.eq_1 (jn @rpJ.eq_1 @rpA.eq_1)))))
                    · simp only [addAt]
                      refine HV_split 18 9 (by decide) ?_ ?_
                      · simp only [addAt]
                        refine HV_order [] ty_ok [0, 1, 2, 3, 4, 5, 6, 7, 8, 10, 11, 12, 13, 14, 15, 17, 18, 9, 16, 19, 20, 21] (by kernel_rfl) rfl _ rfl ?_
                        simp only [opl_nil', opl_cons', oplC_some, List.getElem?_toArray, List.getElem?_cons_zero, List.getElem?_cons_succ]
                        refine rn0 ?_
                        first
                          | refine HO_callX ty_ok [0, 1, 2] (k1) (rg_hand _ _ _ _ _ _ _ rfl rfl rfl) (rg_wf _ _ _) ?_
                          | refine HO_callX ty_ok [3, 4] (k2) (rq_hand _ _ _ _ _ _ rfl rfl) (rq_wf _ _ _) ?_
                        rintro v r' ⟨rfl, rfl⟩ _
                        refine rn1 (jn @rg.eq_1 (jn @rgO.eq_1 (jn @rq.eq_1 @rqO.eq_1))) ?_
                        first
                          | refine HO_callX ty_ok [0, 1, 2] (k1) (rg_hand _ _ _ _ _ _ _ rfl rfl rfl) (rg_wf _ _ _) ?_
                          | refine HO_callX ty_ok [3, 4] (k2) (rq_hand _ _ _ _ _ _ rfl rfl) (rq_wf _ _ _) ?_
                        rintro v r' ⟨rfl, rfl⟩ _
                        refine rn1 (jn @rg.eq_1 (jn @rgO.eq_1 (jn @rq.eq_1 @rqO.eq_1))) ?_
                        refine ⟨[0, 1, 2, 3, 4, 5], [], ?_⟩
                        exact ft1 (jn @rpSt.eq_1 (jn @rpRe.eq_1 (jn @rgO.eq_1 (jn @rqO.eq_1 (jn @rpJ.eq_1 @rpA.eq_1)))))
                      · simp only [addAt]
                        refine HV_order [] ty_ok [0, 1, 2, 3, 4, 5, 6, 7, 8, 10, 11, 12, 13, 14, 15, 17, 9, 16, 18, 19, 20, 21] (by kernel_rfl) rfl _ rfl ?_
                        simp only [opl_nil', opl_cons', oplC_some, List.getElem?_toArray, List.getElem?_cons_zero, List.getElem?_cons_succ]
                        refine rn0 ?_
                        first
                          | refine HO_callX ty_ok [0, 1, 2] (k1) (rg_hand _ _ _ _ _ _ _ rfl rfl rfl) (rg_wf _ _ _) ?_
                          | refine HO_callX ty_ok [3, 4] (k2) (rq_hand _ _ _ _ _ _ rfl rfl) (rq_wf _ _ _) ?_
                        rintro v r' ⟨rfl, rfl⟩ _
                        refine rn1 (jn @rg.eq_1 (jn @rgO.eq_1 (jn @rq.eq_1 @rqO.eq_1))) ?_
                        first
                          | refine HO_callX ty_ok [0, 1, 2] (k1) (rg_hand _ _ _ _ _ _ _ rfl rfl rfl) (rg_wf _ _ _) ?_
                          | refine HO_callX ty_ok [3, 4] (k2) (rq_hand _ _ _ _ _ _ rfl rfl) (rq_wf _ _ _) ?_
                        rintro v r' ⟨rfl, rfl⟩ _
                        refine rn1 (jn @rg.eq_1 (jn @rgO.eq_1 (jn @rq.eq_1 @rqO.eq_1))) ?_
                        refine ⟨[0, 1, 2, 3, 4, 5], [], ?_⟩
                        exact ft1 (jn @rpSt.eq_1 (jn @rpRe.eq_1 (jn @rgO.eq_1 (jn @rqO.eq_1 (jn @rpJ.eq_1 @rpA.eq_1)))))
                  · simp only [addAt]
                    refine HV_split 16 9 (by decide) ?_ ?_
                    · simp only [addAt]
                      refine HV_split 18 9 (by decide) ?_ ?_
                      · simp only [addAt]
                        refine HV_order [] ty_ok [0, 1, 2, 3, 4, 5, 6, 7, 8, 10, 11, 12, 13, 15, 16, 17, 18, 9, 14, 19, 20, 21] (by kernel_rfl) rfl _ rfl ?_
                        simp only [opl_nil', opl_cons', oplC_some, List.getElem?_toArray, List.getElem?_cons_zero, List.getElem?_cons_succ]
                        refine rn0 ?_
                        first
                          | refine HO_callX ty_ok [0, 1, 2] (k1) (rg_hand _ _ _ _ _ _ _ rfl rfl rfl) (rg_wf _ _ _) ?_
                          | refine HO_callX ty_ok [3, 4] (k2) (rq_hand _ _ _ _ _ _ rfl rfl) (rq_wf _ _ _) ?_
                        rintro v r' ⟨rfl, rfl⟩ _
                        refine rn1 (jn @rg.eq_1 (jn @rgO.eq_1 (jn @rq.eq_1 @rqO.eq_1))) ?_
                        first
                          | refine HO_callX ty_ok [0, 1, 2] (k1) (rg_hand _ _ _ _ _ _ _ rfl rfl rfl) (rg_wf _ _ _) ?_
                          | refine HO_callX ty_ok [3, 4] (k2) (rq_hand _ _ _ _ _ _ rfl rfl) (rq_wf _ _ _) ?_
                        rintro v r' ⟨rfl, rfl⟩ _
                        refine rn1 (jn @rg.eq_1 (jn @rgO.eq_1 (jn @rq.eq_1 @rqO.eq_1))) ?_
                        refine ⟨[0, 1, 2, 3, 4, 5], [], ?_⟩
                        exact ft1 (jn @rpSt.eq_1 (jn @rpRe.eq_1 (jn @rgO.eq_1 (jn @rqO.eq_1 (jn @rpJ.eq_1 @rpA.eq_1)))))
                      · simp only [addAt]
                        refine HV_order [] ty_ok [0, 1, 2, 3, 4, 5, 6, 7, 8, 10, 11, 12, 13, 15, 16, 17, 9, 14, 18, 19, 20, 21] (by kernel_rfl) rfl _ rfl ?_
                        simp only [opl_nil', opl_cons', oplC_some, List.getElem?_toArray, List.getElem?_cons_zero, List.getElem?_cons_succ]
                        refine rn0 ?_
                        first
                          | refine HO_callX ty_ok [0, 1, 2] (k1) (rg_hand _ _ _ _ _ _ _ rfl rfl rfl) (rg_wf _ _ _) ?_
                          | refine HO_callX ty_ok [3, 4] (k2) (rq_hand _ _ _ _ _ _ rfl rfl) (rq_wf _ _ _) ?_
                        rintro v r' ⟨rfl, rfl⟩ _
                        refine rn1 (jn @rg.eq_1 (jn @rgO.eq_1 (jn @rq.eq_1 @rqO.eq_1))) ?_
                        first
                          | refine HO_callX ty_ok [0, 1, 2] (k1) (rg_hand _ _ _ _ _ _ _ rfl rfl rfl) (rg_wf _ _ _) ?_
                          | refine HO_callX ty_ok [3, 4] (k2) (rq_hand _ _ _ _ _ _ rfl rfl) (rq_wf _ _ _) ?_
                        rintro v r' ⟨rfl, rfl⟩ _
                        refine rn1 (jn @rg.eq_1 (jn @rgO.eq_1 (jn @rq.eq_1 @rqO.eq_1))) ?_
                        refine ⟨[0, 1, 2, 3, 4, 5], [], ?_⟩
                        exact ft1 (jn @rpSt.eq_1 (jn @rpRe.eq_1 (jn @rgO.eq_1 (jn @rqO.eq_1 (jn @rpJ.eq_1 @rpA.eq_1)))))
                    · simp only [addAt]
                      refine HV_split 18 9 (by decide) ?_ ?_
                      · simp only [addAt]
                        refine HV_order [] ty_ok [0, 1, 2, 3, 4, 5, 6, 7, 8, 10, 11, 12, 13, 15, 17, 18, 9, 14, 16, 19, 20, 21] (by kernel_rfl) rfl _ rfl ?_
                        simp only [opl_nil', opl_cons', oplC_some, List.getElem?_toArray, List.getElem?_cons_zero, List.getElem?_cons_succ]
                        refine rn0 ?_
                        first
                          | refine HO_callX ty_ok [0, 1, 2] (k1) (rg_hand _ _ _ _ _ _ _ rfl rfl rfl) (rg_wf _ _ _) ?_
                          | refine HO_callX ty_ok [3, 4] (k2) (rq_hand _ _ _ _ _ _ rfl rfl) (rq_wf _ _ _) ?_
                        rintro v r' ⟨rfl, rfl⟩ _
                        refine rn1 (jn @rg.eq_1 (jn @rgO.eq_1 (jn @rq.eq_1 @rqO.eq_1))) ?_
                        first
                          | refine HO_callX ty_ok [0, 1, 2] (k1) (rg_hand _ _ _ _ _ _ _ rfl rfl rfl) (rg_wf _ _ _) ?_
                          | refine HO_callX ty_ok [3, 4] (k2) (rq_hand _ _ _ _ _ _ rfl rfl) (rq_wf _ _ _) ?_
                        rintro v r' ⟨rfl, rfl⟩ _
                        refine rn1 (jn @rg.eq_1 (jn @rgO.eq_1 (jn @rq.eq_1 @rqO.eq_1))) ?_
                        refine ⟨[0, 1, 2, 3, 4, 5], [], ?_⟩
                        exact ft1 (jn @rpSt.eq_1 (jn @rpRe.eq_1 (jn @rgO.eq_1 (jn @rqO.eq_1 (jn @rpJ.eq_1 @rpA.eq_1)))))
                      · simp only [addAt]
                        refine HV_order [] ty_ok [0, 1, 2, 3, 4, 5, 6, 7, 8, 10, 11, 12, 13, 15, 17, 9, 14, 16, 18, 19, 20, 21] (by kernel_rfl) rfl _ rfl ?_
                        simp only [opl_nil', opl_cons', oplC_some, List.getElem?_toArray, List.getElem?_cons_zero, List.getElem?_cons_succ]
                        refine rn0 ?_
                        first
                          | refine HO_callX ty_ok [0, 1, 2] (k1) (rg_hand _ _ _ _ _ _ _ rfl rfl rfl) (rg_wf _ _ _) ?_
                          | refine HO_callX ty_ok [3, 4] (k2) (rq_hand _ _ _ _ _ _ rfl rfl) (rq_wf _ _ _) ?_
                        rintro v r' ⟨rfl, rfl⟩ _
                        refine rn1 (jn @rg.eq_1 (jn @rgO.eq_1 (jn @rq.eq_1 @rqO.eq_1))) ?_
                        first
                          | refine HO_callX ty_ok [0, 1, 2] (k1) (rg_hand _ _ _ _ _ _ _ rfl rfl rfl) (rg_wf _ _ _) ?_
                          | refine HO_callX ty_ok [3, 4] (k2) (rq_hand _ _ _ _ _ _ rfl rfl) (rq_wf _ _ _) ?_
                        rintro v r' ⟨rfl, rfl⟩ _
                        refine rn1 (jn @rg.eq_1 (jn @rgO.eq_1 (jn @rq.eq_1 @rqO.eq_1))) ?_
                        refine ⟨[0, 1, 2, 3, 4, 5], [], ?_⟩
                        exact ft1 (jn @rpSt.eq_1 (jn @rpRe.eq_1 (jn @rgO.eq_1 (jn @rqO.eq_1 (jn @rpJ.eq_1 @rpA.eq_1)))))
                · simp only [addAt]
                  refine HV_split 14 9 (by decide) ?_ ?_
                  · simp only [addAt]
                    refine HV_split 16 9 (by decide) ?_ ?_
                    · simp only [addAt]
                      refine HV_split 18 9 (by decide) ?_ ?_
                      · simp only [addAt]
                        refine HV_order [] ty_ok [0, 1, 2, 3, 4, 5, 6, 7, 8, 10, 11, 13, 14, 15, 16, 17, 18, 9, 12, 19, 20, 21] (by kernel_rfl) rfl _ rfl ?_
                        simp only [opl_nil', opl_cons', oplC_some, List.getElem?_toArray, List.getElem?_cons_zero, List.getElem?_cons_succ]
                        refine rn0 ?_
                        first
                          | refine HO_callX ty_ok [0, 1, 2] (k1) (rg_hand _ _ _ _ _ _ _ rfl rfl rfl) (rg_wf _ _ _) ?_
                          | refine HO_callX ty_ok [3, 4] (k2) (rq_hand _ _ _ _ _ _ rfl rfl) (rq_wf _ _ _) ?_
                        rintro v r' ⟨rfl, rfl⟩ _
                        refine rn1 (jn @rg.eq_1 (jn @rgO.eq_1 (jn @rq.eq_1 @rqO.eq_1))) ?_
                        first
                          | refine HO_callX ty_ok [0, 1, 2] (k1) (rg_hand _ _ _ _ _ _ _ rfl rfl rfl) (rg_wf _ _ _) ?_
                          | refine HO_callX ty_ok [3, 4] (k2) (rq_hand _ _ _ _ _ _ rfl rfl) (rq_wf _ _ _) ?_
                        rintro v r' ⟨rfl, rfl⟩ _
                        refine rn1 (jn @rg.eq_1 (jn @rgO.eq_1 (jn @rq.eq_1 @rqO.eq_1))) ?_
                        refine ⟨[0, 1, 2, 3, 4, 5], [], ?_⟩
                        exact ft1 (jn @rpSt.eq_1 (jn @rpRe.eq_1 (jn @rgO.eq_1 (jn @rqO.eq_1 (jn @rpJ.eq_1 @rpA.eq_1)))))
                      · simp only [addAt]
                        refine HV_order [] ty_ok [0, 1, 2, 3, 4, 5, 6, 7, 8, 10, 11, 13, 14, 15, 16, 17, 9, 12, 18, 19, 20, 21] (by kernel_rfl) rfl _ rfl ?_
                        simp only [opl_nil', opl_cons', oplC_some, List.getElem?_toArray, List.getElem?_cons_zero, List.getElem?_cons_succ]
                        refine rn0 ?_
                        first
                          | refine HO_callX ty_ok [0, 1, 2] (k1) (rg_hand _ _ _ _ _ _ _ rfl rfl rfl) (rg_wf _ _ _) ?_
                          | refine HO_callX ty_ok [3, 4] (k2) (rq_hand _ _ _ _ _ _ rfl rfl) (rq_wf _ _ _) ?_
                        rintro v r' ⟨rfl, rfl⟩ _
                        refine rn1 (jn @rg.eq_1 (jn @rgO.eq_1 (jn @rq.eq_1 @rqO.eq_1))) ?_
                        first
                          | refine HO_callX ty_ok [0, 1, 2] (k1) (rg_hand _ _ _ _ _ _ _ rfl rfl rfl) (rg_wf _ _ _) ?_
                          | refine HO_callX ty_ok [3, 4] (k2) (rq_hand _ _ _ _ _ _ rfl rfl) (rq_wf _ _ _) ?_
                        rintro v r' ⟨rfl, rfl⟩ _
                        refine rn1 (jn @rg.eq_1 (jn @rgO.eq_1 (jn @rq.eq_1 @rqO.eq_1))) ?_
                        refine ⟨[0, 1, 2, 3, 4, 5], [], ?_⟩
                        exact ft1 (jn @rpSt.eq_1 (jn @rpRe.eq_1 (jn @rgO.eq_1 (jn @rqO.eq_1 (jn @rpJ.eq_1 @rpA.eq_1)))))
                    · simp only [addAt]
                      refine HV_split 18 9 (by decide) ?_ ?_
                      · simp only [addAt]
                        refine HV_order [] ty_ok [0, 1, 2, 3, 4, 5, 6, 7, 8, 10, 11, 13, 14, 15, 17, 18, 9, 12, 16, 19, 20, 21] (by kernel_rfl) rfl _ rfl ?_
                        simp only [opl_nil', opl_cons', oplC_some, List.getElem?_toArray, List.getElem?_cons_zero, List.getElem?_cons_succ]
                        refine rn0 ?_
                        first
                          | refine HO_callX ty_ok [0, 1, 2] (k1) (rg_hand _ _ _ _ _ _ _ rfl rfl rfl) (rg_wf _ _ _) ?_
                          | refine HO_callX ty_ok [3, 4] (k2) (rq_hand _ _ _ _ _ _ rfl rfl) (rq_wf _ _ _) ?_
                        rintro v r' ⟨rfl, rfl⟩ _
                        refine rn1 (jn @rg.eq_1 (jn @rgO.eq_1 (jn @rq.eq_1 @rqO.eq_1))) ?_
                        first
                          | refine HO_callX ty_ok [0, 1, 2] (k1) (rg_hand _ _ _ _ _ _ _ rfl rfl rfl) (rg_wf _ _ _) ?_
                          | refine HO_callX ty_ok [3, 4] (k2) (rq_hand _ _ _ _ _ _ rfl rfl) (rq_wf _ _ _) ?_
                        rintro v r' ⟨rfl, rfl⟩ _
                        refine rn1 (jn @rg.eq_1 (jn @rgO.eq_1 (jn @rq.eq_1 @rqO.eq_1))) ?_
                        refine ⟨[0, 1, 2, 3, 4, 5], [], ?_⟩
                        exact ft1 (jn @rpSt.eq_1 (jn @rpRe.eq_1 (jn @rgO.eq_1 (jn @rqO.eq_1 (jn @rpJ.eq_1 @rpA.eq_1)))))
                      · simp only [addAt]
                        refine HV_order [] ty_ok [0, 1, 2, 3, 4, 5, 6, 7, 8, 10, 11, 13, 14, 15, 17, 9, 12, 16, 18, 19, 20, 21] (by kernel_rfl) rfl _ rfl ?_
                        simp only [opl_nil', opl_cons', oplC_some, List.getElem?_toArray, List.getElem?_cons_zero, List.getElem?_cons_succ]
                        refine rn0 ?_
                        first
                          | refine HO_callX ty_ok [0, 1, 2] (k1) (rg_hand _ _ _ _ _ _ _ rfl rfl rfl) (rg_wf _ _ _) ?_
                          | refine HO_callX ty_ok [3, 4] (k2) (rq_hand _ _ _ _ _ _ rfl rfl) (rq_wf _ _ _) ?_
                        rintro v r' ⟨rfl, rfl⟩ _
                        refine rn1 (jn @rg.eq_1 (jn @rgO.eq_1 (jn @rq.eq_1 @rqO.eq_1))) ?_
                        first
                          | refine HO_callX ty_ok [0, 1, 2] (k1) (rg_hand _ _ _ _ _ _ _ rfl rfl rfl) (rg_wf _ _ _) ?_
                          | refine HO_callX ty_ok [3, 4] (k2) (rq_hand _ _ _ _ _ _ rfl rfl) (rq_wf _ _ _) ?_
                        rintro v r' ⟨rfl, rfl⟩ _
                        refine rn1 (jn @rg.eq_1 (jn @rgO.eq_1 (jn @rq.eq_1 @rqO.eq_1))) ?_
                        refine ⟨[0, 1, 2, 3, 4, 5], [], ?_⟩
                        exact ft1 (jn @rpSt.eq_1 (jn @rpRe.eq_1 (jn @rgO.eq_1 (jn @rqO.eq_1 (jn @rpJ.eq_1 @rpA.eq_1)))))
                  · simp only [addAt]
                    refine HV_split 16 9 (by decide) ?_ ?_
                    · simp only [addAt]
                      refine HV_split 18 9 (by decide) ?_ ?_
                      · simp only [addAt]
                        refine HV_order [] ty_ok [0, 1, 2, 3, 4, 5, 6, 7, 8, 10, 11, 13, 15, 16, 17, 18, 9, 12, 14, 19, 20, 21] (by kernel_rfl) rfl _ rfl ?_
                        simp only [opl_nil', opl_cons', oplC_some, List.getElem?_toArray, List.getElem?_cons_zero, List.getElem?_cons_succ]
                        refine rn0 ?_
                        first
                          | refine HO_callX ty_ok [0, 1, 2] (k1) (rg_hand _ _ _ _ _ _ _ rfl rfl rfl) (rg_wf _ _ _) ?_
                          | refine HO_callX ty_ok [3, 4] (k2) (rq_hand _ _ _ _ _ _ rfl rfl) (rq_wf _ _ _) ?_
                        rintro v r' ⟨rfl, rfl⟩ _
                        refine rn1 (jn @rg.eq_1 (jn @rgO.eq_1 (jn @rq.eq_1 @rqO.eq_1))) ?_
                        first
                          | refine HO_callX ty_ok [0, 1, 2] (k1) (rg_hand _ _ _ _ _ _ _ rfl rfl rfl) (rg_wf _ _ _) ?_
                          | refine HO_callX ty_ok [3, 4] (k2) (rq_hand _ _ _ _ _ _ rfl rfl) (rq_wf _ _ _) ?_
                        rintro v r' ⟨rfl, rfl⟩ _
                        refine rn1 (jn @rg.eq_1 (jn @rgO.eq_1 (jn @rq.eq_1 @rqO.eq_1))) ?_
                        refine ⟨[0, 1, 2, 3, 4, 5], [], ?_⟩
                        exact ft1 (jn @rpSt.eq_1 (jn @rpRe.eq_1 (jn @rgO.eq_1 (jn @rqO.eq_1 (jn @rpJ.eq_1 @rpA.eq_1)))))
                      · simp only [addAt]
                        refine HV_order [] ty_ok [0, 1, 2, 3, 4, 5, 6, 7, 8, 10, 11, 13, 15, 16, 17, 9, 12, 14, 18, 19, 20, 21] (by kernel_rfl) rfl _ rfl ?_
                        simp only [opl_nil', opl_cons', oplC_some, List.getElem?_toArray, List.getElem?_cons_zero, List.getElem?_cons_succ]
                        refine rn0 ?_
                        first
                          | refine HO_callX ty_ok [0, 1, 2] (k1) (rg_hand _ _ _ _ _ _ _ rfl rfl rfl) (rg_wf _ _ _) ?_
                          | refine HO_callX ty_ok [3, 4] (k2) (rq_hand _ _ _ _ _ _ rfl rfl) (rq_wf _ _ _) ?_
                        rintro v r' ⟨rfl, rfl⟩ _
                        refine rn1 (jn @rg.eq_1 (jn @rgO.eq_1 (jn @rq.eq_1 @rqO.eq_1))) ?_
                        first
                          | refine HO_callX ty_ok [0, 1, 2] (k1) (rg_hand _ _ _ _ _ _ _ rfl rfl rfl) (rg_wf _ _ _) ?_
                          | refine HO_callX ty_ok [3, 4] (k2) (rq_hand _ _ _ _ _ _ rfl rfl) (rq_wf _ _ _) ?_
                        rintro v r' ⟨rfl, rfl⟩ _
                        refine rn1 (jn @rg.eq_1 (jn @rgO.eq_1 (jn @rq.eq_1 @rqO.eq_1))) ?_
                        refine ⟨[0, 1, 2, 3, 4, 5], [], ?_⟩
                        exact ft1 (jn @rpSt.eq_1 (jn @rpRe.eq_1 (jn @rgO.eq_1 (jn @rqO.eq_1 (jn @rpJ.eq_1 @rpA.eq_1)))))
                    · simp only [addAt]
                      refine HV_split 18 9 (by decide) ?_ ?_
                      · simp only [addAt]
                        refine HV_order [] ty_ok [0, 1, 2, 3, 4, 5, 6, 7, 8, 10, 11, 13, 15, 17, 18, 9, 12, 14, 16, 19, 20, 21] (by kernel_rfl) rfl _ rfl ?_
                        simp only [opl_nil', opl_cons', oplC_some, List.getElem?_toArray, List.getElem?_cons_zero, List.getElem?_cons_succ]
                        refine rn0 ?_
                        first
                          | refine HO_callX ty_ok [0, 1, 2] (k1) (rg_hand _ _ _ _ _ _ _ rfl rfl rfl) (rg_wf _ _ _) ?_
                          | refine HO_callX ty_ok [3, 4] (k2) (rq_hand _ _ _ _ _ _ rfl rfl) (rq_wf _ _ _) ?_
                        rintro v r' ⟨rfl, rfl⟩ _
                        refine rn1 (jn @rg.eq_1 (jn @rgO.eq_1 (jn @rq.eq_1 @rqO.eq_1))) ?_
                        first
                          | refine HO_callX ty_ok [0, 1, 2] (k1) (rg_hand _ _ _ _ _ _ _ rfl rfl rfl) (rg_wf _ _ _) ?_
                          | refine HO_callX ty_ok [3, 4] (k2) (rq_hand _ _ _ _ _ _ rfl rfl) (rq_wf _ _ _) ?_
                        rintro v r' ⟨rfl, rfl⟩ _
                        refine rn1 (jn @rg.eq_1 (jn @rgO.eq_1 (jn @rq.eq_1 @rqO.eq_1))) ?_
                        refine ⟨[0, 1, 2, 3, 4, 5], [], ?_⟩
                        exact ft1 (jn @rpSt.eq_1 (jn @rpRe.eq_1 (jn @rgO.eq_1 (jn @rqO.eq_1 (jn @rpJ.eq_1 @rpA.eq_1)))))
                      · simp only [addAt]
                        refine HV_order [] ty_ok [0, 1, 2, 3, 4, 5, 6, 7, 8, 10, 11, 13, 15, 17, 9, 12, 14, 16, 18, 19, 20, 21] (by kernel_rfl) rfl _ rfl ?_
                        simp only [opl_nil', opl_cons', oplC_some, List.getElem?_toArray, List.getElem?_cons_zero, List.getElem?_cons_succ]
                        refine rn0 ?_
                        first
                          | refine HO_callX ty_ok [0, 1, 2] (k1) (rg_hand _ _ _ _ _ _ _ rfl rfl rfl) (rg_wf _ _ _) ?_
                          | refine HO_callX ty_ok [3, 4] (k2) (rq_hand _ _ _ _ _ _ rfl rfl) (rq_wf _ _ _) ?_
                        rintro v r' ⟨rfl, rfl⟩ _
                        refine rn1 (jn @rg.eq_1 (jn @rgO.eq_1 (jn @rq.eq_1 @rqO.eq_1))) ?_
                        first
                          | refine HO_callX ty_ok [0, 1, 2] (k1) (rg_hand _ _ _ _ _ _ _ rfl rfl rfl) (rg_wf _ _ _) ?_
                          | refine HO_callX ty_ok [3, 4] (k2) (rq_hand _ _ _ _ _ _ rfl rfl) (rq_wf _ _ _) ?_
                        rintro v r' ⟨rfl, rfl⟩ _
                        refine rn1 (jn @rg.eq_1 (jn @rgO.eq_1 (jn @rq.eq_1 @rqO.eq_1))) ?_
                        refine ⟨[0, 1, 2, 3, 4, 5], [], ?_⟩
                        exact ft1 (jn @rpSt.eq_1 (jn @rpRe.eq_1 (jn @rgO.eq_1 (jn @rqO.eq_1 (jn @rpJ.eq_1 @rpA.eq_1)))))
            refine rn1 (jn @rpSt.eq_1 (jn @rpRe.eq_1 (jn @rpJ.eq_1 (jn @rpA.eq_1 (jn @rgO.eq_1 @rqO.eq_1))))) ?_
            clear k1 k2
            refine HC_fitR (rpSt l i ++ rpJ) (rpRe n s bk ++ [some (.obj (rpA 1 aw_ ad ab at_)), none, none]) [0, 1, 2, 3, 4, 5, 0, 0] [] ?_ (r22 i bk 1 aw_ ad ab at_ _ (by omega) ?_)
            · skip
              exact ft1 (jn @rpSt.eq_1 (jn @rpRe.eq_1 (jn @rgO.eq_1 (jn @rqO.eq_1 (jn @rpA.eq_1 @rpJ.eq_1)))))
            refine rn1 (jn @rpSt.eq_1 (jn @rpRe.eq_1 (jn @rgO.eq_1 @rqO.eq_1))) ?_
            (repeat (refine And.intro (by omega) ?_))
            refine ⟨(i + 1, bk), ⟨by simp only; omega, by simp only; omega⟩, by simp only; omega, [0, 1, 2, 3, 4], [], ?_⟩
            exact ft1 (jn @rpSt.eq_1 (jn @rpRe.eq_1 (jn @rgO.eq_1 @rqO.eq_1)))
          by_cases a2 : ak = 2
          · subst a2
            have hZ := rtag_len n aw_ ad ab
            have k1 := rtagr_ac n s bk aw_ ad ab h0 h1 (by omega) (by omega)
            have k2 := verifyO_ac n s bk aw_ ad ab (rtag n aw_ ad ab) (by omega) hZ
            have k3 := ris_ac n s bk aw_ (by omega)
            rw [decide_eq_true rfl, Bool.and_true] at k2
            generalize rtag n aw_ ad ab = Z at *
            generalize memB aw_ s = w at *
            obtain ⟨hl1, hb1, ht1, hm1, hsp⟩ := dig32 Z hZ
            refine rn1 (jn @rpSt.eq_1 (jn @rpRe.eq_1 (jn @rgO.eq_1 (jn @rqO.eq_1 (jn @hi (jn @hd @hle)))))) ?_
            refine ⟨by omega, ?_⟩
            refine HO_callX ty_ok [3, 4] (k1) (rq_hand _ _ _ _ _ _ rfl rfl) (rq_wf _ _ _) ?_
            rintro v r' ⟨rfl, rfl⟩ _
            refine rn1 (jn @rq.eq_1 (jn @rgO.eq_1 (jn @rqO.eq_1 (jn @hl1 (jn @hb1 (jn @ht1 (jn @hm1 (jn @hsp @bA_allD)))))))) ?_
            clear hsp
            refine HC_cutR (rpSt l i ++ rpJ) (rpRe n s bk ++ [some (.obj (rpA 2 aw_ ad ab at_)), none]) ?_ ?_
            · skip
              as_aux_lemma =>
                refine HC_of_HV mix ?_
                refine HV_split 11 8 (by decide) ?_ ?_
                · simp only [addAt]
                  refine HV_order [] ty_ok [0, 1, 2, 3, 4, 5, 6, 7, 9, 10, 11, 8, 12, 13, 14] (by kernel_rfl) rfl _ rfl ?_
                  simp only [opl_nil', opl_cons', oplC_some, List.getElem?_toArray, List.getElem?_cons_zero, List.getElem?_cons_succ]
                  refine rn1 (jn @hl1 (jn @hb1 (jn @ht1 @bA_allD))) ?_
                  (repeat (refine And.intro (by omega) ?_))
                  first
                    | refine HO_callX ty_ok [0, 1, 2, 6] (k2) (rgT_hand _ _ _ _ _ _ _ _ _ rfl rfl rfl rfl) (rgT_wf _ _ _ _) ?_
                    | refine HO_callX ty_ok [3, 4] (k3) (rq_hand _ _ _ _ _ _ rfl rfl) (rq_wf _ _ _) ?_
                  rintro v r' ⟨rfl, rfl⟩ _
                  refine rn1 (jn @rgT.eq_1 (jn @rg.eq_1 (jn @rgO.eq_1 (jn @rq.eq_1 (jn @rqO.eq_1 (jn @hl1 (jn @hb1 (jn @ht1 @bA_allD)))))))) ?_
                  (repeat (refine And.intro (by omega) ?_))
                  first
                    | refine HO_callX ty_ok [0, 1, 2, 6] (k2) (rgT_hand _ _ _ _ _ _ _ _ _ rfl rfl rfl rfl) (rgT_wf _ _ _ _) ?_
                    | refine HO_callX ty_ok [3, 4] (k3) (rq_hand _ _ _ _ _ _ rfl rfl) (rq_wf _ _ _) ?_
                  rintro v r' ⟨rfl, rfl⟩ _
                  refine rn1 (jn @rgT.eq_1 (jn @rg.eq_1 (jn @rgO.eq_1 (jn @rq.eq_1 (jn @rqO.eq_1 (jn @hl1 (jn @hb1 (jn @ht1 @bA_allD)))))))) ?_
                  (repeat (refine And.intro (by omega) ?_))
                  refine ⟨[0, 1, 2, 3, 4, 5, 0], [], ?_⟩
                  exact ft1 (jn @rpSt.eq_1 (jn @rpRe.eq_1 (jn @rgO.eq_1 (jn @rqO.eq_1 (jn @rpJ.eq_1 @rpA.eq_1)))))
                · simp only [addAt]
                  refine HV_order [] ty_ok [0, 1, 2, 3, 4, 5, 6, 7, 9, 10, 8, 11, 12, 13, 14] (by kernel_rfl) rfl _ rfl ?_
                  simp only [opl_nil', opl_cons', oplC_some, List.getElem?_toArray, List.getElem?_cons_zero, List.getElem?_cons_succ]
                  refine rn1 (jn @hl1 (jn @hb1 (jn @ht1 @bA_allD))) ?_
                  (repeat (refine And.intro (by omega) ?_))
                  first
                    | refine HO_callX ty_ok [0, 1, 2, 6] (k2) (rgT_hand _ _ _ _ _ _ _ _ _ rfl rfl rfl rfl) (rgT_wf _ _ _ _) ?_
                    | refine HO_callX ty_ok [3, 4] (k3) (rq_hand _ _ _ _ _ _ rfl rfl) (rq_wf _ _ _) ?_
                  rintro v r' ⟨rfl, rfl⟩ _
                  refine rn1 (jn @rgT.eq_1 (jn @rg.eq_1 (jn @rgO.eq_1 (jn @rq.eq_1 (jn @rqO.eq_1 (jn @hl1 (jn @hb1 (jn @ht1 @bA_allD)))))))) ?_
                  (repeat (refine And.intro (by omega) ?_))
                  first
                    | refine HO_callX ty_ok [0, 1, 2, 6] (k2) (rgT_hand _ _ _ _ _ _ _ _ _ rfl rfl rfl rfl) (rgT_wf _ _ _ _) ?_
                    | refine HO_callX ty_ok [3, 4] (k3) (rq_hand _ _ _ _ _ _ rfl rfl) (rq_wf _ _ _) ?_
                  rintro v r' ⟨rfl, rfl⟩ _
                  refine rn1 (jn @rgT.eq_1 (jn @rg.eq_1 (jn @rgO.eq_1 (jn @rq.eq_1 (jn @rqO.eq_1 (jn @hl1 (jn @hb1 (jn @ht1 @bA_allD)))))))) ?_
                  (repeat (refine And.intro (by omega) ?_))
                  refine ⟨[0, 1, 2, 3, 4, 5, 0], [], ?_⟩
                  exact ft1 (jn @rpSt.eq_1 (jn @rpRe.eq_1 (jn @rgO.eq_1 (jn @rqO.eq_1 (jn @rpJ.eq_1 @rpA.eq_1)))))
            refine rn1 (jn @rpSt.eq_1 (jn @rpRe.eq_1 (jn @rpJ.eq_1 (jn @rpA.eq_1 (jn @rgO.eq_1 @rqO.eq_1))))) ?_
            clear k1 k2 k3
            refine HC_fitR (rpSt l i ++ rpJ) (rpRe n s bk ++ [some (.obj (rpA 2 aw_ ad ab at_)), none, none]) [0, 1, 2, 3, 4, 5, 0, 0] [] ?_ (r22 i bk 2 aw_ ad ab at_ _ (by omega) ?_)
            · skip
              exact ft1 (jn @rpSt.eq_1 (jn @rpRe.eq_1 (jn @rgO.eq_1 (jn @rqO.eq_1 (jn @rpA.eq_1 @rpJ.eq_1)))))
            refine rn1 (jn @rpSt.eq_1 (jn @rpRe.eq_1 (jn @rgO.eq_1 @rqO.eq_1))) ?_
            (repeat (refine And.intro (by omega) ?_))
            refine ⟨(i + 1, bk), ⟨by simp only; omega, by simp only; omega⟩, by simp only; omega, [0, 1, 2, 3, 4], [], ?_⟩
            exact ft1 (jn @rpSt.eq_1 (jn @rpRe.eq_1 (jn @rgO.eq_1 @rqO.eq_1)))
          refine rn1 (jn @rpSt.eq_1 (jn @rpRe.eq_1 (jn @rgO.eq_1 (jn @rqO.eq_1 (jn @hi (jn @hd (jn @hle (jn @a0 (jn @a1 @a2))))))))) ?_
          refine ⟨by omega, ?_⟩
          refine HC_fitR (rpSt l i ++ rpJ) (rpRe n s bk ++ [some (.obj (rpA ak aw_ ad ab at_)), none, none]) [0, 1, 2, 3, 4, 5, 0, 0] [] ?_ (r22 i bk ak aw_ ad ab at_ _ (by omega) ?_)
          · skip
            exact ft1 (jn @rpSt.eq_1 (jn @rpRe.eq_1 (jn @rgO.eq_1 (jn @rqO.eq_1 (jn @rpA.eq_1 @rpJ.eq_1)))))
          refine rn1 (jn @rpSt.eq_1 (jn @rpRe.eq_1 (jn @rgO.eq_1 @rqO.eq_1))) ?_
          (repeat (refine And.intro (by omega) ?_))
          refine ⟨(i + 1, bk), ⟨by simp only; omega, by simp only; omega⟩, by simp only; omega, [0, 1, 2, 3, 4], [], ?_⟩
          exact ft1 (jn @rpSt.eq_1 (jn @rpRe.eq_1 (jn @rgO.eq_1 @rqO.eq_1)))
        · have hi : ¬ (i : Int) < l.length := by omega
          refine rn1 (jn @rpSt.eq_1 (jn @rpRe.eq_1 (jn @rgO.eq_1 (jn @rqO.eq_1 @hi)))) ?_
          refine HO_pureA ty_ok rlive_ac ?_
          exact rz0
      · refine HO_callX ty_ok [] (new_bad n s h0 h1 hn) (trivial) rfl ?_
        rintro v r' ⟨rfl, rfl⟩ _
        refine rn1 @hn ?_
        refine HO_callX ty_ok [] (rnew_bad n s hn) (trivial) rfl ?_
        rintro v r' ⟨rfl, rfl⟩ _
        refine rn1 @hn ?_
        refine HC_loopR (fun _ : Nat => [(2, .d (.sl 5 l.length (actL l))), (9, .d (.c (.pointer none))), (11, .d (.c (.int .i64 0)))]) (fun _ => []) (fun _ => True) (fun _ => 0) 0 [] [] trivial ?_ ?_
        · exact ft0
        intro i _
        refine HC_of_R ty_ok ?_
        by_cases hi : (0 : Int) < l.length
        · refine rn1 @hi ?_
          refine HO_pureA ty_ok rlive_ac ?_
          exact rz0
        · refine rn1 @hi ?_
          refine HO_pureA ty_ok rlive_ac ?_
          exact rz0
    · intro i B k aw_ ad ab at_ K hB hA
      have m1 := made_ac n s B aw_ ad ab
      have m2 := rmade_ac n s B aw_ ad ab hB
      have m3 := rlen_ac n s B
      generalize memP (pr aw_ ad ab) B = m at *
      simp only [rpSt, rpRe, rgO, rqO, rpA, rpJ, List.cons_append, List.nil_append]
      refine HC_cutR (rpSt l i ++ [(170, .d (.c (.bool false)))]) (rpRe n s B ++ [none, none, none]) ?_ hA
      refine HC_of_HV mix ?_
      refine HV_split 13 10 (by decide) ?_ ?_
      · simp only [addAt]
        refine HV_split 15 10 (by decide) ?_ ?_
        · simp only [addAt]
          refine HV_split 17 10 (by decide) ?_ ?_
          · simp only [addAt]
            refine HV_split 27 23 (by decide) ?_ ?_
            · simp only [addAt]
              refine HV_order [] ty_ok [0, 1, 2, 3, 4, 5, 6, 7, 8, 9, 11, 12, 13, 14, 15, 16, 17, 10, 18, 19, 20, 21, 22, 24, 25, 26, 27, 28, 23, 29, 30] (by kernel_rfl) rfl _ rfl ?_
              simp only [opl_nil', opl_cons', oplC_some, List.getElem?_toArray, List.getElem?_cons_zero, List.getElem?_cons_succ]
              refine rn0 ?_
              first
                | refine HO_callX ty_ok [0, 1, 2] (m1) (rg_hand _ _ _ _ _ _ _ rfl rfl rfl) (rg_wf _ _ _) ?_
                | refine HO_callX ty_ok [3, 4] (m2) (rq_hand _ _ _ _ _ _ rfl rfl) (rq_wf _ _ _) ?_
                | refine HO_callX ty_ok [0, 1, 2] (m3) (rg_hand _ _ _ _ _ _ _ rfl rfl rfl) (rg_wf _ _ _) ?_
              rintro v r' ⟨rfl, rfl⟩ _
              refine rn1 (jn @rg.eq_1 (jn @rgO.eq_1 (jn @rq.eq_1 @rqO.eq_1))) ?_
              first
                | refine HO_callX ty_ok [0, 1, 2] (m1) (rg_hand _ _ _ _ _ _ _ rfl rfl rfl) (rg_wf _ _ _) ?_
                | refine HO_callX ty_ok [3, 4] (m2) (rq_hand _ _ _ _ _ _ rfl rfl) (rq_wf _ _ _) ?_
                | refine HO_callX ty_ok [0, 1, 2] (m3) (rg_hand _ _ _ _ _ _ _ rfl rfl rfl) (rg_wf _ _ _) ?_
              rintro v r' ⟨rfl, rfl⟩ _
              refine rn1 (jn @rg.eq_1 (jn @rgO.eq_1 (jn @rq.eq_1 @rqO.eq_1))) ?_
              first
                | refine HO_callX ty_ok [0, 1, 2] (m1) (rg_hand _ _ _ _ _ _ _ rfl rfl rfl) (rg_wf _ _ _) ?_
                | refine HO_callX ty_ok [3, 4] (m2) (rq_hand _ _ _ _ _ _ rfl rfl) (rq_wf _ _ _) ?_
                | refine HO_callX ty_ok [0, 1, 2] (m3) (rg_hand _ _ _ _ _ _ _ rfl rfl rfl) (rg_wf _ _ _) ?_
              rintro v r' ⟨rfl, rfl⟩ _
              refine rn1 (jn @rg.eq_1 (jn @rgO.eq_1 (jn @rq.eq_1 @rqO.eq_1))) ?_
              refine ⟨[0,1,2,3,4,0,0,0], [], ?_⟩
              exact ft1 (jn @rpSt.eq_1 (jn @rpRe.eq_1 (jn @rgO.eq_1 @rqO.eq_1)))
            · simp only [addAt]
              refine HV_order [] ty_ok [0, 1, 2, 3, 4, 5, 6, 7, 8, 9, 11, 12, 13, 14, 15, 16, 17, 10, 18, 19, 20, 21, 22, 24, 25, 26, 23, 27, 28, 29, 30] (by kernel_rfl) rfl _ rfl ?_
              simp only [opl_nil', opl_cons', oplC_some, List.getElem?_toArray, List.getElem?_cons_zero, List.getElem?_cons_succ]
              refine rn0 ?_
              first
                | refine HO_callX ty_ok [0, 1, 2] (m1) (rg_hand _ _ _ _ _ _ _ rfl rfl rfl) (rg_wf _ _ _) ?_
                | refine HO_callX ty_ok [3, 4] (m2) (rq_hand _ _ _ _ _ _ rfl rfl) (rq_wf _ _ _) ?_
                | refine HO_callX ty_ok [0, 1, 2] (m3) (rg_hand _ _ _ _ _ _ _ rfl rfl rfl) (rg_wf _ _ _) ?_
              rintro v r' ⟨rfl, rfl⟩ _
              refine rn1 (jn @rg.eq_1 (jn @rgO.eq_1 (jn @rq.eq_1 @rqO.eq_1))) ?_
              first
                | refine HO_callX ty_ok [0, 1, 2] (m1) (rg_hand _ _ _ _ _ _ _ rfl rfl rfl) (rg_wf _ _ _) ?_
                | refine HO_callX ty_ok [3, 4] (m2) (rq_hand _ _ _ _ _ _ rfl rfl) (rq_wf _ _ _) ?_
                | refine HO_callX ty_ok [0, 1, 2] (m3) (rg_hand _ _ _ _ _ _ _ rfl rfl rfl) (rg_wf _ _ _) ?_
              rintro v r' ⟨rfl, rfl⟩ _
              refine rn1 (jn @rg.eq_1 (jn @rgO.eq_1 (jn @rq.eq_1 @rqO.eq_1))) ?_
              first
                | refine HO_callX ty_ok [0, 1, 2] (m1) (rg_hand _ _ _ _ _ _ _ rfl rfl rfl) (rg_wf _ _ _) ?_
                | refine HO_callX ty_ok [3, 4] (m2) (rq_hand _ _ _ _ _ _ rfl rfl) (rq_wf _ _ _) ?_
                | refine HO_callX ty_ok [0, 1, 2] (m3) (rg_hand _ _ _ _ _ _ _ rfl rfl rfl) (rg_wf _ _ _) ?_
              rintro v r' ⟨rfl, rfl⟩ _
              refine rn1 (jn @rg.eq_1 (jn @rgO.eq_1 (jn @rq.eq_1 @rqO.eq_1))) ?_
              refine ⟨[0,1,2,3,4,0,0,0], [], ?_⟩
              exact ft1 (jn @rpSt.eq_1 (jn @rpRe.eq_1 (jn @rgO.eq_1 @rqO.eq_1)))
          · simp only [addAt]
            refine HV_split 27 23 (by decide) ?_ ?_
            · simp only [addAt]
              refine HV_order [] ty_ok [0, 1, 2, 3, 4, 5, 6, 7, 8, 9, 11, 12, 13, 14, 15, 16, 10, 17, 18, 19, 20, 21, 22, 24, 25, 26, 27, 28, 23, 29, 30] (by kernel_rfl) rfl _ rfl ?_
              simp only [opl_nil', opl_cons', oplC_some, List.getElem?_toArray, List.getElem?_cons_zero, List.getElem?_cons_succ]
              refine rn0 ?_
              first
                | refine HO_callX ty_ok [0, 1, 2] (m1) (rg_hand _ _ _ _ _ _ _ rfl rfl rfl) (rg_wf _ _ _) ?_
                | refine HO_callX ty_ok [3, 4] (m2) (rq_hand _ _ _ _ _ _ rfl rfl) (rq_wf _ _ _) ?_
                | refine HO_callX ty_ok [0, 1, 2] (m3) (rg_hand _ _ _ _ _ _ _ rfl rfl rfl) (rg_wf _ _ _) ?_
              rintro v r' ⟨rfl, rfl⟩ _
              refine rn1 (jn @rg.eq_1 (jn @rgO.eq_1 (jn @rq.eq_1 @rqO.eq_1))) ?_
              first
                | refine HO_callX ty_ok [0, 1, 2] (m1) (rg_hand _ _ _ _ _ _ _ rfl rfl rfl) (rg_wf _ _ _) ?_
                | refine HO_callX ty_ok [3, 4] (m2) (rq_hand _ _ _ _ _ _ rfl rfl) (rq_wf _ _ _) ?_
                | refine HO_callX ty_ok [0, 1, 2] (m3) (rg_hand _ _ _ _ _ _ _ rfl rfl rfl) (rg_wf _ _ _) ?_
              rintro v r' ⟨rfl, rfl⟩ _
              refine rn1 (jn @rg.eq_1 (jn @rgO.eq_1 (jn @rq.eq_1 @rqO.eq_1))) ?_
              first
                | refine HO_callX ty_ok [0, 1, 2] (m1) (rg_hand _ _ _ _ _ _ _ rfl rfl rfl) (rg_wf _ _ _) ?_
                | refine HO_callX ty_ok [3, 4] (m2) (rq_hand _ _ _ _ _ _ rfl rfl) (rq_wf _ _ _) ?_
                | refine HO_callX ty_ok [0, 1, 2] (m3) (rg_hand _ _ _ _ _ _ _ rfl rfl rfl) (rg_wf _ _ _) ?_
              rintro v r' ⟨rfl, rfl⟩ _
              refine rn1 (jn @rg.eq_1 (jn @rgO.eq_1 (jn @rq.eq_1 @rqO.eq_1))) ?_
              refine ⟨[0,1,2,3,4,0,0,0], [], ?_⟩
              exact ft1 (jn @rpSt.eq_1 (jn @rpRe.eq_1 (jn @rgO.eq_1 @rqO.eq_1)))
            · simp only [addAt]
              refine HV_order [] ty_ok [0, 1, 2, 3, 4, 5, 6, 7, 8, 9, 11, 12, 13, 14, 15, 16, 10, 17, 18, 19, 20, 21, 22, 24, 25, 26, 23, 27, 28, 29, 30] (by kernel_rfl) rfl _ rfl ?_
              simp only [opl_nil', opl_cons', oplC_some, List.getElem?_toArray, List.getElem?_cons_zero, List.getElem?_cons_succ]
              refine rn0 ?_
              first
                | refine HO_callX ty_ok [0, 1, 2] (m1) (rg_hand _ _ _ _ _ _ _ rfl rfl rfl) (rg_wf _ _ _) ?_
                | refine HO_callX ty_ok [3, 4] (m2) (rq_hand _ _ _ _ _ _ rfl rfl) (rq_wf _ _ _) ?_
                | refine HO_callX ty_ok [0, 1, 2] (m3) (rg_hand _ _ _ _ _ _ _ rfl rfl rfl) (rg_wf _ _ _) ?_
              rintro v r' ⟨rfl, rfl⟩ _
              refine rn1 (jn @rg.eq_1 (jn @rgO.eq_1 (jn @rq.eq_1 @rqO.eq_1))) ?_
              first
                | refine HO_callX ty_ok [0, 1, 2] (m1) (rg_hand _ _ _ _ _ _ _ rfl rfl rfl) (rg_wf _ _ _) ?_
                | refine HO_callX ty_ok [3, 4] (m2) (rq_hand _ _ _ _ _ _ rfl rfl) (rq_wf _ _ _) ?_
                | refine HO_callX ty_ok [0, 1, 2] (m3) (rg_hand _ _ _ _ _ _ _ rfl rfl rfl) (rg_wf _ _ _) ?_
              rintro v r' ⟨rfl, rfl⟩ _
              refine rn1 (jn @rg.eq_1 (jn @rgO.eq_1 (jn @rq.eq_1 @rqO.eq_1))) ?_
              first
                | refine HO_callX ty_ok [0, 1, 2] (m1) (rg_hand _ _ _ _ _ _ _ rfl rfl rfl) (rg_wf _ _ _) ?_
                | refine HO_callX ty_ok [3, 4] (m2) (rq_hand _ _ _ _ _ _ rfl rfl) (rq_wf _ _ _) ?_
                | refine HO_callX ty_ok [0, 1, 2] (m3) (rg_hand _ _ _ _ _ _ _ rfl rfl rfl) (rg_wf _ _ _) ?_
              rintro v r' ⟨rfl, rfl⟩ _
              refine rn1 (jn @rg.eq_1 (jn @rgO.eq_1 (jn @rq.eq_1 @rqO.eq_1))) ?_
              refine ⟨[0,1,2,3,4,0,0,0], [], ?_⟩
              exact ft1 (jn @rpSt.eq_1 (jn @rpRe.eq_1 (jn @rgO.eq_1 @rqO.eq_1)))
        · simp only [addAt]
          refine HV_split 17 10 (by decide) ?_ ?_
          · simp only [addAt]
            refine HV_split 27 23 (by decide) ?_ ?_
            · simp only [addAt]
              refine HV_order [] ty_ok [0, 1, 2, 3, 4, 5, 6, 7, 8, 9, 11, 12, 13, 14, 16, 17, 10, 15, 18, 19, 20, 21, 22, 24, 25, 26, 27, 28, 23, 29, 30] (by kernel_rfl) rfl _ rfl ?_
              simp only [opl_nil', opl_cons', oplC_some, List.getElem?_toArray, List.getElem?_cons_zero, List.getElem?_cons_succ]
              refine rn0 ?_
              first
                | refine HO_callX ty_ok [0, 1, 2] (m1) (rg_hand _ _ _ _ _ _ _ rfl rfl rfl) (rg_wf _ _ _) ?_
                | refine HO_callX ty_ok [3, 4] (m2) (rq_hand _ _ _ _ _ _ rfl rfl) (rq_wf _ _ _) ?_
                | refine HO_callX ty_ok [0, 1, 2] (m3) (rg_hand _ _ _ _ _ _ _ rfl rfl rfl) (rg_wf _ _ _) ?_
              rintro v r' ⟨rfl, rfl⟩ _
              refine rn1 (jn @rg.eq_1 (jn @rgO.eq_1 (jn @rq.eq_1 @rqO.eq_1))) ?_
              first
                | refine HO_callX ty_ok [0, 1, 2] (m1) (rg_hand _ _ _ _ _ _ _ rfl rfl rfl) (rg_wf _ _ _) ?_
                | refine HO_callX ty_ok [3, 4] (m2) (rq_hand _ _ _ _ _ _ rfl rfl) (rq_wf _ _ _) ?_
                | refine HO_callX ty_ok [0, 1, 2] (m3) (rg_hand _ _ _ _ _ _ _ rfl rfl rfl) (rg_wf _ _ _) ?_
              rintro v r' ⟨rfl, rfl⟩ _
              refine rn1 (jn @rg.eq_1 (jn @rgO.eq_1 (jn @rq.eq_1 @rqO.eq_1))) ?_
              first
                | refine HO_callX ty_ok [0, 1, 2] (m1) (rg_hand _ _ _ _ _ _ _ rfl rfl rfl) (rg_wf _ _ _) ?_
                | refine HO_callX ty_ok [3, 4] (m2) (rq_hand _ _ _ _ _ _ rfl rfl) (rq_wf _ _ _) ?_
                | refine HO_callX ty_ok [0, 1, 2] (m3) (rg_hand _ _ _ _ _ _ _ rfl rfl rfl) (rg_wf _ _ _) ?_
              rintro v r' ⟨rfl, rfl⟩ _
              refine rn1 (jn @rg.eq_1 (jn @rgO.eq_1 (jn @rq.eq_1 @rqO.eq_1))) ?_
              refine ⟨[0,1,2,3,4,0,0,0], [], ?_⟩
              exact ft1 (jn @rpSt.eq_1 (jn @rpRe.eq_1 (jn @rgO.eq_1 @rqO.eq_1)))
            · simp only [addAt]
              refine HV_order [] ty_ok [0, 1, 2, 3, 4, 5, 6, 7, 8, 9, 11, 12, 13, 14, 16, 17, 10, 15, 18, 19, 20, 21, 22, 24, 25, 26, 23, 27, 28, 29, 30] (by kernel_rfl) rfl _ rfl ?_
              simp only [opl_nil', opl_cons', oplC_some, List.getElem?_toArray, List.getElem?_cons_zero, List.getElem?_cons_succ]
              refine rn0 ?_
              first
                | refine HO_callX ty_ok [0, 1, 2] (m1) (rg_hand _ _ _ _ _ _ _ rfl rfl rfl) (rg_wf _ _ _) ?_
                | refine HO_callX ty_ok [3, 4] (m2) (rq_hand _ _ _ _ _ _ rfl rfl) (rq_wf _ _ _) ?_
                | refine HO_callX ty_ok [0, 1, 2] (m3) (rg_hand _ _ _ _ _ _ _ rfl rfl rfl) (rg_wf _ _ _) ?_
              rintro v r' ⟨rfl, rfl⟩ _
              refine rn1 (jn @rg.eq_1 (jn @rgO.eq_1 (jn @rq.eq_1 @rqO.eq_1))) ?_
              first
                | refine HO_callX ty_ok [0, 1, 2] (m1) (rg_hand _ _ _ _ _ _ _ rfl rfl rfl) (rg_wf _ _ _) ?_
                | refine HO_callX ty_ok [3, 4] (m2) (rq_hand _ _ _ _ _ _ rfl rfl) (rq_wf _ _ _) ?_
                | refine HO_callX ty_ok [0, 1, 2] (m3) (rg_hand _ _ _ _ _ _ _ rfl rfl rfl) (rg_wf _ _ _) ?_
              rintro v r' ⟨rfl, rfl⟩ _
              refine rn1 (jn @rg.eq_1 (jn @rgO.eq_1 (jn @rq.eq_1 @rqO.eq_1))) ?_
              first
                | refine HO_callX ty_ok [0, 1, 2] (m1) (rg_hand _ _ _ _ _ _ _ rfl rfl rfl) (rg_wf _ _ _) ?_
                | refine HO_callX ty_ok [3, 4] (m2) (rq_hand _ _ _ _ _ _ rfl rfl) (rq_wf _ _ _) ?_
                | refine HO_callX ty_ok [0, 1, 2] (m3) (rg_hand _ _ _ _ _ _ _ rfl rfl rfl) (rg_wf _ _ _) ?_
              rintro v r' ⟨rfl, rfl⟩ _
              refine rn1 (jn @rg.eq_1 (jn @rgO.eq_1 (jn @rq.eq_1 @rqO.eq_1))) ?_
              refine ⟨[0,1,2,3,4,0,0,0], [], ?_⟩
              exact ft1 (jn @rpSt.eq_1 (jn @rpRe.eq_1 (jn @rgO.eq_1 @rqO.eq_1)))
          · simp only [addAt]
            refine HV_split 27 23 (by decide) ?_ ?_
            · simp only [addAt]
              refine HV_order [] ty_ok [0, 1, 2, 3, 4, 5, 6, 7, 8, 9, 11, 12, 13, 14, 16, 10, 15, 17, 18, 19, 20, 21, 22, 24, 25, 26, 27, 28, 23, 29, 30] (by kernel_rfl) rfl _ rfl ?_
              simp only [opl_nil', opl_cons', oplC_some, List.getElem?_toArray, List.getElem?_cons_zero, List.getElem?_cons_succ]
              refine rn0 ?_
              first
                | refine HO_callX ty_ok [0, 1, 2] (m1) (rg_hand _ _ _ _ _ _ _ rfl rfl rfl) (rg_wf _ _ _) ?_
                | refine HO_callX ty_ok [3, 4] (m2) (rq_hand _ _ _ _ _ _ rfl rfl) (rq_wf _ _ _) ?_
                | refine HO_callX ty_ok [0, 1, 2] (m3) (rg_hand _ _ _ _ _ _ _ rfl rfl rfl) (rg_wf _ _ _) ?_
              rintro v r' ⟨rfl, rfl⟩ _
              refine rn1 (jn @rg.eq_1 (jn @rgO.eq_1 (jn @rq.eq_1 @rqO.eq_1))) ?_
              first
                | refine HO_callX ty_ok [0, 1, 2] (m1) (rg_hand _ _ _ _ _ _ _ rfl rfl rfl) (rg_wf _ _ _) ?_
                | refine HO_callX ty_ok [3, 4] (m2) (rq_hand _ _ _ _ _ _ rfl rfl) (rq_wf _ _ _) ?_
                | refine HO_callX ty_ok [0, 1, 2] (m3) (rg_hand _ _ _ _ _ _ _ rfl rfl rfl) (rg_wf _ _ _) ?_
              rintro v r' ⟨rfl, rfl⟩ _
              refine rn1 (jn @rg.eq_1 (jn @rgO.eq_1 (jn @rq.eq_1 @rqO.eq_1))) ?_
              first
                | refine HO_callX ty_ok [0, 1, 2] (m1) (rg_hand _ _ _ _ _ _ _ rfl rfl rfl) (rg_wf _ _ _) ?_
                | refine HO_callX ty_ok [3, 4] (m2) (rq_hand _ _ _ _ _ _ rfl rfl) (rq_wf _ _ _) ?_
                | refine HO_callX ty_ok [0, 1, 2] (m3) (rg_hand _ _ _ _ _ _ _ rfl rfl rfl) (rg_wf _ _ _) ?_
              rintro v r' ⟨rfl, rfl⟩ _
              refine rn1 (jn @rg.eq_1 (jn @rgO.eq_1 (jn @rq.eq_1 @rqO.eq_1))) ?_
              refine ⟨[0,1,2,3,4,0,0,0], [], ?_⟩
              exact ft1 (jn @rpSt.eq_1 (jn @rpRe.eq_1 (jn @rgO.eq_1 @rqO.eq_1)))
            · simp only [addAt]
              refine HV_order [] ty_ok [0, 1, 2, 3, 4, 5, 6, 7, 8, 9, 11, 12, 13, 14, 16, 10, 15, 17, 18, 19, 20, 21, 22, 24, 25, 26, 23, 27, 28, 29, 30] (by kernel_rfl) rfl _ rfl ?_
              simp only [opl_nil', opl_cons', oplC_some, List.getElem?_toArray, List.getElem?_cons_zero, List.getElem?_cons_succ]
              refine rn0 ?_
              first
                | refine HO_callX ty_ok [0, 1, 2] (m1) (rg_hand _ _ _ _ _ _ _ rfl rfl rfl) (rg_wf _ _ _) ?_
                | refine HO_callX ty_ok [3, 4] (m2) (rq_hand _ _ _ _ _ _ rfl rfl) (rq_wf _ _ _) ?_
                | refine HO_callX ty_ok [0, 1, 2] (m3) (rg_hand _ _ _ _ _ _ _ rfl rfl rfl) (rg_wf _ _ _) ?_
              rintro v r' ⟨rfl, rfl⟩ _
              refine rn1 (jn @rg.eq_1 (jn @rgO.eq_1 (jn @rq.eq_1 @rqO.eq_1))) ?_
              first
                | refine HO_callX ty_ok [0, 1, 2] (m1) (rg_hand _ _ _ _ _ _ _ rfl rfl rfl) (rg_wf _ _ _) ?_
                | refine HO_callX ty_ok [3, 4] (m2) (rq_hand _ _ _ _ _ _ rfl rfl) (rq_wf _ _ _) ?_
                | refine HO_callX ty_ok [0, 1, 2] (m3) (rg_hand _ _ _ _ _ _ _ rfl rfl rfl) (rg_wf _ _ _) ?_
              rintro v r' ⟨rfl, rfl⟩ _
              refine rn1 (jn @rg.eq_1 (jn @rgO.eq_1 (jn @rq.eq_1 @rqO.eq_1))) ?_
              first
                | refine HO_callX ty_ok [0, 1, 2] (m1) (rg_hand _ _ _ _ _ _ _ rfl rfl rfl) (rg_wf _ _ _) ?_
                | refine HO_callX ty_ok [3, 4] (m2) (rq_hand _ _ _ _ _ _ rfl rfl) (rq_wf _ _ _) ?_
                | refine HO_callX ty_ok [0, 1, 2] (m3) (rg_hand _ _ _ _ _ _ _ rfl rfl rfl) (rg_wf _ _ _) ?_
              rintro v r' ⟨rfl, rfl⟩ _
              refine rn1 (jn @rg.eq_1 (jn @rgO.eq_1 (jn @rq.eq_1 @rqO.eq_1))) ?_
              refine ⟨[0,1,2,3,4,0,0,0], [], ?_⟩
              exact ft1 (jn @rpSt.eq_1 (jn @rpRe.eq_1 (jn @rgO.eq_1 @rqO.eq_1)))
      · simp only [addAt]
        refine HV_split 15 10 (by decide) ?_ ?_
        · simp only [addAt]
          refine HV_split 17 10 (by decide) ?_ ?_
          · simp only [addAt]
            refine HV_split 27 23 (by decide) ?_ ?_
            · simp only [addAt]
              refine HV_order [] ty_ok [0, 1, 2, 3, 4, 5, 6, 7, 8, 9, 11, 12, 14, 15, 16, 17, 10, 13, 18, 19, 20, 21, 22, 24, 25, 26, 27, 28, 23, 29, 30] (by kernel_rfl) rfl _ rfl ?_
              simp only [opl_nil', opl_cons', oplC_some, List.getElem?_toArray, List.getElem?_cons_zero, List.getElem?_cons_succ]
              refine rn0 ?_
              first
                | refine HO_callX ty_ok [0, 1, 2] (m1) (rg_hand _ _ _ _ _ _ _ rfl rfl rfl) (rg_wf _ _ _) ?_
                | refine HO_callX ty_ok [3, 4] (m2) (rq_hand _ _ _ _ _ _ rfl rfl) (rq_wf _ _ _) ?_
                | refine HO_callX ty_ok [0, 1, 2] (m3) (rg_hand _ _ _ _ _ _ _ rfl rfl rfl) (rg_wf _ _ _) ?_
              rintro v r' ⟨rfl, rfl⟩ _
              refine rn1 (jn @rg.eq_1 (jn @rgO.eq_1 (jn @rq.eq_1 @rqO.eq_1))) ?_
              first
                | refine HO_callX ty_ok [0, 1, 2] (m1) (rg_hand _ _ _ _ _ _ _ rfl rfl rfl) (rg_wf _ _ _) ?_
                | refine HO_callX ty_ok [3, 4] (m2) (rq_hand _ _ _ _ _ _ rfl rfl) (rq_wf _ _ _) ?_
                | refine HO_callX ty_ok [0, 1, 2] (m3) (rg_hand _ _ _ _ _ _ _ rfl rfl rfl) (rg_wf _ _ _) ?_
              rintro v r' ⟨rfl, rfl⟩ _
              refine rn1 (jn @rg.eq_1 (jn @rgO.eq_1 (jn @rq.eq_1 @rqO.eq_1))) ?_
              first
                | refine HO_callX ty_ok [0, 1, 2] (m1) (rg_hand _ _ _ _ _ _ _ rfl rfl rfl) (rg_wf _ _ _) ?_
                | refine HO_callX ty_ok [3, 4] (m2) (rq_hand _ _ _ _ _ _ rfl rfl) (rq_wf _ _ _) ?_
                | refine HO_callX ty_ok [0, 1, 2] (m3) (rg_hand _ _ _ _ _ _ _ rfl rfl rfl) (rg_wf _ _ _) ?_
              rintro v r' ⟨rfl, rfl⟩ _
              refine rn1 (jn @rg.eq_1 (jn @rgO.eq_1 (jn @rq.eq_1 @rqO.eq_1))) ?_
              refine ⟨[0,1,2,3,4,0,0,0], [], ?_⟩
              exact ft1 (jn @rpSt.eq_1 (jn @rpRe.eq_1 (jn @rgO.eq_1 @rqO.eq_1)))
            · simp only [addAt]
              refine HV_order [] ty_ok [0, 1, 2, 3, 4, 5, 6, 7, 8, 9, 11, 12, 14, 15, 16, 17, 10, 13, 18, 19, 20, 21, 22, 24, 25, 26, 23, 27, 28, 29, 30] (by kernel_rfl) rfl _ rfl ?_
              simp only [opl_nil', opl_cons', oplC_some, List.getElem?_toArray, List.getElem?_cons_zero, List.getElem?_cons_succ]
              refine rn0 ?_
              first
                | refine HO_callX ty_ok [0, 1, 2] (m1) (rg_hand _ _ _ _ _ _ _ rfl rfl rfl) (rg_wf _ _ _) ?_
                | refine HO_callX ty_ok [3, 4] (m2) (rq_hand _ _ _ _ _ _ rfl rfl) (rq_wf _ _ _) ?_
                | refine HO_callX ty_ok [0, 1, 2] (m3) (rg_hand _ _ _ _ _ _ _ rfl rfl rfl) (rg_wf _ _ _) ?_
              rintro v r' ⟨rfl, rfl⟩ _
              refine rn1 (jn @rg.eq_1 (jn @rgO.eq_1 (jn @rq.eq_1 @rqO.eq_1))) ?_
              first
                | refine HO_callX ty_ok [0, 1, 2] (m1) (rg_hand _ _ _ _ _ _ _ rfl rfl rfl) (rg_wf _ _ _) ?_
                | refine HO_callX ty_ok [3, 4] (m2) (rq_hand _ _ _ _ _ _ rfl rfl) (rq_wf _ _ _) ?_
                | refine HO_callX ty_ok [0, 1, 2] (m3) (rg_hand _ _ _ _ _ _ _ rfl rfl rfl) (rg_wf _ _ _) ?_
              rintro v r' ⟨rfl, rfl⟩ _
              refine rn1 (jn @rg.eq_1 (jn @rgO.eq_1 (jn @rq.eq_1 @rqO.eq_1))) ?_
              first
                | refine HO_callX ty_ok [0, 1, 2] (m1) (rg_hand _ _ _ _ _ _ _ rfl rfl rfl) (rg_wf _ _ _) ?_
                | refine HO_callX ty_ok [3, 4] (m2) (rq_hand _ _ _ _ _ _ rfl rfl) (rq_wf _ _ _) ?_
                | refine HO_callX ty_ok [0, 1, 2] (m3) (rg_hand _ _ _ _ _ _ _ rfl rfl rfl) (rg_wf _ _ _) ?_
              rintro v r' ⟨rfl, rfl⟩ _
              refine rn1 (jn @rg.eq_1 (jn @rgO.eq_1 (jn @rq.eq_1 @rqO.eq_1))) ?_
              refine ⟨[0,1,2,3,4,0,0,0], [], ?_⟩
              exact ft1 (jn @rpSt.eq_1 (jn @rpRe.eq_1 (jn @rgO.eq_1 @rqO.eq_1)))
          · simp only [addAt]
            refine HV_split 27 23 (by decide) ?_ ?_
            · simp only [addAt]
              refine HV_order [] ty_ok [0, 1, 2, 3, 4, 5, 6, 7, 8, 9, 11, 12, 14, 15, 16, 10, 13, 17, 18, 19, 20, 21, 22, 24, 25, 26, 27, 28, 23, 29, 30] (by kernel_rfl) rfl _ rfl ?_
              simp only [opl_nil', opl_cons', oplC_some, List.getElem?_toArray, List.getElem?_cons_zero, List.getElem?_cons_succ]
              refine rn0 ?_
              first
                | refine HO_callX ty_ok [0, 1, 2] (m1) (rg_hand _ _ _ _ _ _ _ rfl rfl rfl) (rg_wf _ _ _) ?_
                | refine HO_callX ty_ok [3, 4] (m2) (rq_hand _ _ _ _ _ _ rfl rfl) (rq_wf _ _ _) ?_
                | refine HO_callX ty_ok [0, 1, 2] (m3) (rg_hand _ _ _ _ _ _ _ rfl rfl rfl) (rg_wf _ _ _) ?_
              rintro v r' ⟨rfl, rfl⟩ _
              refine rn1 (jn @rg.eq_1 (jn @rgO.eq_1 (jn @rq.eq_1 @rqO.eq_1))) ?_
              first
                | refine HO_callX ty_ok [0, 1, 2] (m1) (rg_hand _ _ _ _ _ _ _ rfl rfl rfl) (rg_wf _ _ _) ?_
                | refine HO_callX ty_ok [3, 4] (m2) (rq_hand _ _ _ _ _ _ rfl rfl) (rq_wf _ _ _) ?_
                | refine HO_callX ty_ok [0, 1, 2] (m3) (rg_hand _ _ _ _ _ _ _ rfl rfl rfl) (rg_wf _ _ _) ?_
              rintro v r' ⟨rfl, rfl⟩ _
              refine rn1 (jn @rg.eq_1 (jn @rgO.eq_1 (jn @rq.eq_1 @rqO.eq_1))) ?_
              first
                | refine HO_callX ty_ok [0, 1, 2] (m1) (rg_hand _ _ _ _ _ _ _ rfl rfl rfl) (rg_wf _ _ _) ?_
                | refine HO_callX ty_ok [3, 4] (m2) (rq_hand _ _ _ _ _ _ rfl rfl) (rq_wf _ _ _) ?_
                | refine HO_callX ty_ok [0, 1, 2] (m3) (rg_hand _ _ _ _ _ _ _ rfl rfl rfl) (rg_wf _ _ _) ?_
              rintro v r' ⟨rfl, rfl⟩ _
              refine rn1 (jn @rg.eq_1 (jn @rgO.eq_1 (jn @rq.eq_1 @rqO.eq_1))) ?_
              refine ⟨[0,1,2,3,4,0,0,0], [], ?_⟩
              exact ft1 (jn @rpSt.eq_1 (jn @rpRe.eq_1 (jn @rgO.eq_1 @rqO.eq_1)))
            · simp only [addAt]
              refine HV_order [] ty_ok [0, 1, 2, 3, 4, 5, 6, 7, 8, 9, 11, 12, 14, 15, 16, 10, 13, 17, 18, 19, 20, 21, 22, 24, 25, 26, 23, 27, 28, 29, 30] (by kernel_rfl) rfl _ rfl ?_
              simp only [opl_nil', opl_cons', oplC_some, List.getElem?_toArray, List.getElem?_cons_zero, List.getElem?_cons_succ]
              refine rn0 ?_
              first
                | refine HO_callX ty_ok [0, 1, 2] (m1) (rg_hand _ _ _ _ _ _ _ rfl rfl rfl) (rg_wf _ _ _) ?_
                | refine HO_callX ty_ok [3, 4] (m2) (rq_hand _ _ _ _ _ _ rfl rfl) (rq_wf _ _ _) ?_
                | refine HO_callX ty_ok [0, 1, 2] (m3) (rg_hand _ _ _ _ _ _ _ rfl rfl rfl) (rg_wf _ _ _) ?_
              rintro v r' ⟨rfl, rfl⟩ _
              refine rn1 (jn @rg.eq_1 (jn @rgO.eq_1 (jn @rq.eq_1 @rqO.eq_1))) ?_
              first
                | refine HO_callX ty_ok [0, 1, 2] (m1) (rg_hand _ _ _ _ _ _ _ rfl rfl rfl) (rg_wf _ _ _) ?_
                | refine HO_callX ty_ok [3, 4] (m2) (rq_hand _ _ _ _ _ _ rfl rfl) (rq_wf _ _ _) ?_
                | refine HO_callX ty_ok [0, 1, 2] (m3) (rg_hand _ _ _ _ _ _ _ rfl rfl rfl) (rg_wf _ _ _) ?_
              rintro v r' ⟨rfl, rfl⟩ _
              refine rn1 (jn @rg.eq_1 (jn @rgO.eq_1 (jn @rq.eq_1 @rqO.eq_1))) ?_
              first
                | refine HO_callX ty_ok [0, 1, 2] (m1) (rg_hand _ _ _ _ _ _ _ rfl rfl rfl) (rg_wf _ _ _) ?_
                | refine HO_callX ty_ok [3, 4] (m2) (rq_hand _ _ _ _ _ _ rfl rfl) (rq_wf _ _ _) ?_
                | refine HO_callX ty_ok [0, 1, 2] (m3) (rg_hand _ _ _ _ _ _ _ rfl rfl rfl) (rg_wf _ _ _) ?_
              rintro v r' ⟨rfl, rfl⟩ _
              refine rn1 (jn @rg.eq_1 (jn @rgO.eq_1 (jn @rq.eq_1 @rqO.eq_1))) ?_
              refine ⟨[0,1,2,3,4,0,0,0], [], ?_⟩
              exact ft1 (jn @rpSt.eq_1 (jn @rpRe.eq_1 (jn @rgO.eq_1 @rqO.eq_1)))
        · simp only [addAt]
          refine HV_split 17 10 (by decide) ?_ ?_
          · simp only [addAt]
            refine HV_split 27 23 (by decide) ?_ ?_
            · simp only [addAt]
              refine HV_order [] ty_ok [0, 1, 2, 3, 4, 5, 6, 7, 8, 9, 11, 12, 14, 16, 17, 10, 13, 15, 18, 19, 20, 21, 22, 24, 25, 26, 27, 28, 23, 29, 30] (by kernel_rfl) rfl _ rfl ?_
              simp only [opl_nil', opl_cons', oplC_some, List.getElem?_toArray, List.getElem?_cons_zero, List.getElem?_cons_succ]
              refine rn0 ?_
              first
                | refine HO_callX ty_ok [0, 1, 2] (m1) (rg_hand _ _ _ _ _ _ _ rfl rfl rfl) (rg_wf _ _ _) ?_
                | refine HO_callX ty_ok [3, 4] (m2) (rq_hand _ _ _ _ _ _ rfl rfl) (rq_wf _ _ _) ?_
                | refine HO_callX ty_ok [0, 1, 2] (m3) (rg_hand _ _ _ _ _ _ _ rfl rfl rfl) (rg_wf _ _ _) ?_
              rintro v r' ⟨rfl, rfl⟩ _
              refine rn1 (jn @rg.eq_1 (jn @rgO.eq_1 (jn @rq.eq_1 @rqO.eq_1))) ?_
              first
                | refine HO_callX ty_ok [0, 1, 2] (m1) (rg_hand _ _ _ _ _ _ _ rfl rfl rfl) (rg_wf _ _ _) ?_
                | refine HO_callX ty_ok [3, 4] (m2) (rq_hand _ _ _ _ _ _ rfl rfl) (rq_wf _ _ _) ?_
                | refine HO_callX ty_ok [0, 1, 2] (m3) (rg_hand _ _ _ _ _ _ _ rfl rfl rfl) (rg_wf _ _ _) ?_
              rintro v r' ⟨rfl, rfl⟩ _
              refine rn1 (jn @rg.eq_1 (jn @rgO.eq_1 (jn @rq.eq_1 @rqO.eq_1))) ?_
              first
                | refine HO_callX ty_ok [0, 1, 2] (m1) (rg_hand _ _ _ _ _ _ _ rfl rfl rfl) (rg_wf _ _ _) ?_
                | refine HO_callX ty_ok [3, 4] (m2) (rq_hand _ _ _ _ _ _ rfl rfl) (rq_wf _ _ _) ?_
                | refine HO_callX ty_ok [0, 1, 2] (m3) (rg_hand _ _ _ _ _ _ _ rfl rfl rfl) (rg_wf _ _ _) ?_
              rintro v r' ⟨rfl, rfl⟩ _
              refine rn1 (jn @rg.eq_1 (jn @rgO.eq_1 (jn @rq.eq_1 @rqO.eq_1))) ?_
              refine ⟨[0,1,2,3,4,0,0,0], [], ?_⟩
              exact ft1 (jn @rpSt.eq_1 (jn @rpRe.eq_1 (jn @rgO.eq_1 @rqO.eq_1)))
            · simp only [addAt]
              refine HV_order [] ty_ok [0, 1, 2, 3, 4, 5, 6, 7, 8, 9, 11, 12, 14, 16, 17, 10, 13, 15, 18, 19, 20, 21, 22, 24, 25, 26, 23, 27, 28, 29, 30] (by kernel_rfl) rfl _ rfl ?_
              simp only [opl_nil', opl_cons', oplC_some, List.getElem?_toArray, List.getElem?_cons_zero, List.getElem?_cons_succ]
              refine rn0 ?_
              first
                | refine HO_callX ty_ok [0, 1, 2] (m1) (rg_hand _ _ _ _ _ _ _ rfl rfl rfl) (rg_wf _ _ _) ?_
                | refine HO_callX ty_ok [3, 4] (m2) (rq_hand _ _ _ _ _ _ rfl rfl) (rq_wf _ _ _) ?_
                | refine HO_callX ty_ok [0, 1, 2] (m3) (rg_hand _ _ _ _ _ _ _ rfl rfl rfl) (rg_wf _ _ _) ?_
              rintro v r' ⟨rfl, rfl⟩ _
              refine rn1 (jn @rg.eq_1 (jn @rgO.eq_1 (jn @rq.eq_1 @rqO.eq_1))) ?_
              first
                | refine HO_callX ty_ok [0, 1, 2] (m1) (rg_hand _ _ _ _ _ _ _ rfl rfl rfl) (rg_wf _ _ _) ?_
                | refine HO_callX ty_ok [3, 4] (m2) (rq_hand _ _ _ _ _ _ rfl rfl) (rq_wf _ _ _) ?_
                | refine HO_callX ty_ok [0, 1, 2] (m3) (rg_hand _ _ _ _ _ _ _ rfl rfl rfl) (rg_wf _ _ _) ?_
              rintro v r' ⟨rfl, rfl⟩ _
              refine rn1 (jn @rg.eq_1 (jn @rgO.eq_1 (jn @rq.eq_1 @rqO.eq_1))) ?_
              first
                | refine HO_callX ty_ok [0, 1, 2] (m1) (rg_hand _ _ _ _ _ _ _ rfl rfl rfl) (rg_wf _ _ _) ?_
                | refine HO_callX ty_ok [3, 4] (m2) (rq_hand _ _ _ _ _ _ rfl rfl) (rq_wf _ _ _) ?_
                | refine HO_callX ty_ok [0, 1, 2] (m3) (rg_hand _ _ _ _ _ _ _ rfl rfl rfl) (rg_wf _ _ _) ?_
              rintro v r' ⟨rfl, rfl⟩ _
              refine rn1 (jn @rg.eq_1 (jn @rgO.eq_1 (jn @rq.eq_1 @rqO.eq_1))) ?_
              refine ⟨[0,1,2,3,4,0,0,0], [], ?_⟩
              exact ft1 (jn @rpSt.eq_1 (jn @rpRe.eq_1 (jn @rgO.eq_1 @rqO.eq_1)))
          · simp only [addAt]
            refine HV_split 27 23 (by decide) ?_ ?_
            · simp only [addAt]
              refine HV_order [] ty_ok [0, 1, 2, 3, 4, 5, 6, 7, 8, 9, 11, 12, 14, 16, 10, 13, 15, 17, 18, 19, 20, 21, 22, 24, 25, 26, 27, 28, 23, 29, 30] (by kernel_rfl) rfl _ rfl ?_
              simp only [opl_nil', opl_cons', oplC_some, List.getElem?_toArray, List.getElem?_cons_zero, List.getElem?_cons_succ]
              refine rn0 ?_
              first
                | refine HO_callX ty_ok [0, 1, 2] (m1) (rg_hand _ _ _ _ _ _ _ rfl rfl rfl) (rg_wf _ _ _) ?_
                | refine HO_callX ty_ok [3, 4] (m2) (rq_hand _ _ _ _ _ _ rfl rfl) (rq_wf _ _ _) ?_
                | refine HO_callX ty_ok [0, 1, 2] (m3) (rg_hand _ _ _ _ _ _ _ rfl rfl rfl) (rg_wf _ _ _) ?_
              rintro v r' ⟨rfl, rfl⟩ _
              refine rn1 (jn @rg.eq_1 (jn @rgO.eq_1 (jn @rq.eq_1 @rqO.eq_1))) ?_
              first
                | refine HO_callX ty_ok [0, 1, 2] (m1) (rg_hand _ _ _ _ _ _ _ rfl rfl rfl) (rg_wf _ _ _) ?_
                | refine HO_callX ty_ok [3, 4] (m2) (rq_hand _ _ _ _ _ _ rfl rfl) (rq_wf _ _ _) ?_
                | refine HO_callX ty_ok [0, 1, 2] (m3) (rg_hand _ _ _ _ _ _ _ rfl rfl rfl) (rg_wf _ _ _) ?_
              rintro v r' ⟨rfl, rfl⟩ _
              refine rn1 (jn @rg.eq_1 (jn @rgO.eq_1 (jn @rq.eq_1 @rqO.eq_1))) ?_
              first
                | refine HO_callX ty_ok [0, 1, 2] (m1) (rg_hand _ _ _ _ _ _ _ rfl rfl rfl) (rg_wf _ _ _) ?_
                | refine HO_callX ty_ok [3, 4] (m2) (rq_hand _ _ _ _ _ _ rfl rfl) (rq_wf _ _ _) ?_
                | refine HO_callX ty_ok [0, 1, 2] (m3) (rg_hand _ _ _ _ _ _ _ rfl rfl rfl) (rg_wf _ _ _) ?_
              rintro v r' ⟨rfl, rfl⟩ _
              refine rn1 (jn @rg.eq_1 (jn @rgO.eq_1 (jn @rq.eq_1 @rqO.eq_1))) ?_
              refine ⟨[0,1,2,3,4,0,0,0], [], ?_⟩
              exact ft1 (jn @rpSt.eq_1 (jn @rpRe.eq_1 (jn @rgO.eq_1 @rqO.eq_1)))
            · simp only [addAt]
              refine HV_order [] ty_ok [0, 1, 2, 3, 4, 5, 6, 7, 8, 9, 11, 12, 14, 16, 10, 13, 15, 17, 18, 19, 20, 21, 22, 24, 25, 26, 23, 27, 28, 29, 30] (by kernel_rfl) rfl _ rfl ?_
              simp only [opl_nil', opl_cons', oplC_some, List.getElem?_toArray, List.getElem?_cons_zero, List.getElem?_cons_succ]
              refine rn0 ?_
              first
                | refine HO_callX ty_ok [0, 1, 2] (m1) (rg_hand _ _ _ _ _ _ _ rfl rfl rfl) (rg_wf _ _ _) ?_
                | refine HO_callX ty_ok [3, 4] (m2) (rq_hand _ _ _ _ _ _ rfl rfl) (rq_wf _ _ _) ?_
                | refine HO_callX ty_ok [0, 1, 2] (m3) (rg_hand _ _ _ _ _ _ _ rfl rfl rfl) (rg_wf _ _ _) ?_
              rintro v r' ⟨rfl, rfl⟩ _
              refine rn1 (jn @rg.eq_1 (jn @rgO.eq_1 (jn @rq.eq_1 @rqO.eq_1))) ?_
              first
                | refine HO_callX ty_ok [0, 1, 2] (m1) (rg_hand _ _ _ _ _ _ _ rfl rfl rfl) (rg_wf _ _ _) ?_
                | refine HO_callX ty_ok [3, 4] (m2) (rq_hand _ _ _ _ _ _ rfl rfl) (rq_wf _ _ _) ?_
                | refine HO_callX ty_ok [0, 1, 2] (m3) (rg_hand _ _ _ _ _ _ _ rfl rfl rfl) (rg_wf _ _ _) ?_
              rintro v r' ⟨rfl, rfl⟩ _
              refine rn1 (jn @rg.eq_1 (jn @rgO.eq_1 (jn @rq.eq_1 @rqO.eq_1))) ?_
              first
                | refine HO_callX ty_ok [0, 1, 2] (m1) (rg_hand _ _ _ _ _ _ _ rfl rfl rfl) (rg_wf _ _ _) ?_
                | refine HO_callX ty_ok [3, 4] (m2) (rq_hand _ _ _ _ _ _ rfl rfl) (rq_wf _ _ _) ?_
                | refine HO_callX ty_ok [0, 1, 2] (m3) (rg_hand _ _ _ _ _ _ _ rfl rfl rfl) (rg_wf _ _ _) ?_
              rintro v r' ⟨rfl, rfl⟩ _
              refine rn1 (jn @rg.eq_1 (jn @rgO.eq_1 (jn @rq.eq_1 @rqO.eq_1))) ?_
              refine ⟨[0,1,2,3,4,0,0,0], [], ?_⟩
              exact ft1 (jn @rpSt.eq_1 (jn @rpRe.eq_1 (jn @rgO.eq_1 @rqO.eq_1)))
end Go.Proofs.YtjpjnhljmloofaaDoor
