import Derived.Test.YthdjblfiiogmgaaCJ7
import Derived.Test.YthdjblfiiogmgaaCJ4
set_option linter.unusedVariables false
set_option linter.unusedSimpArgs false
set_option maxRecDepth 100000
namespace Go.Proofs.Ythdjblfiiogmgaa
open Go Go.ChangeShapes Go.WideShapes
/-! TrailDoes. -/
theorem named18_ac (x : Ntr) (hx : x.tg.length = 32) : AC Try.prog noG 36 [.d (.agg (entE x))] [] (fun v r' => v = .d (.c (.bool (named x))) ∧ r' = []) := by
  refine AC.fit ?_
  refine AC_of_R (N := 16) (res := [.tmp 2]) ty_ok Try.call36 Try.func36 rfl rfl rfl (Nat.le_of_ble_eq_true rfl) ?_
  obtain ⟨t1, t2, t3, t4, t5, t6⟩ := tg32 x.tg hx
  rw [named]
  by_cases h1 : x.why = 1
  · rw [decide_eq_true (by omega)]
    refine rn1 (jn @entE.eq_1 (jn @fctE.eq_1 (jn @h1 (jn @t1 (jn @t2 (jn @t3 (jn @t4 (jn @t5 (jn @t6 @tA_allD))))))))) ?_
    exact fv0 [] []
  by_cases h3 : x.why = 3
  · rw [decide_eq_true (by omega)]
    refine rn1 (jn @entE.eq_1 (jn @fctE.eq_1 (jn @h3 (jn @t1 (jn @t2 (jn @t3 (jn @t4 (jn @t5 (jn @t6 @tA_allD))))))))) ?_
    exact fv0 [] []
  by_cases h2 : x.why = 2
  · rw [decide_eq_true (by omega)]
    refine rn1 (jn @entE.eq_1 (jn @fctE.eq_1 (jn @h2 (jn @t1 (jn @t2 (jn @t3 (jn @t4 (jn @t5 (jn @t6 @tA_allD))))))))) ?_
    exact fv0 [] []
  · rw [decide_eq_false (by omega)]
    refine rn1 (jn @entE.eq_1 (jn @fctE.eq_1 (jn @h1 (jn @h2 (jn @h3 (jn @t1 (jn @t2 (jn @t3 (jn @t4 (jn @t5 (jn @t6 @tA_allD))))))))))) ?_
    exact fv0 [] []
theorem trN_ex {L : List Ntr} {O : List Nat} (hL : okL L) (hI : TInv L O) (hn : L.length ≤ 100000) {x : Ntr} (hx : okE x) : ∃ L' O', trN L O x = tr L' O' ∧ okL L' ∧ TInv L' O' ∧ L'.length ≤ L.length + 1 := by
  by_cases he : errT L x = 0
  · refine ⟨L ++ [x], insT L O x.f, by rw [trN, if_pos he], ⟨by rw [List.length_append, List.length_singleton]; omega, fun y hy => ?_⟩, hI.enter (err_has he), by simp⟩
    rcases List.mem_append.1 hy with h | h
    · exact hL.2 y h
    · rw [List.mem_singleton] at h; rw [h]; exact hx
  · exact ⟨L, O, by rw [trN, if_neg he], hL, hI, by omega⟩
def tg9 : List UInt8 := 9 :: List.replicate 31 0
def tdS (l : List Ntr) (cl : Int) (i T : Nat) : List (Nat × AV) := [(0, .d (.sl 39 l.length (flE l))), (1, .d (.c (.int .i64 cl))), (5, .ptr T 0), (6, .ptr 1 0), (7, .d (.c (.int .i64 i)))]
def tdB (l : List Ntr) (cl : Int) (i T : Nat) : List (Nat × AV) := (88, .d (.c (.bool false))) :: tdS l cl i T
def tdR0 (L : List Ntr) (O : List Nat) : Rs := [some (.obj (tpC L O)), some (.obj [.sl (.own 2) 39 L.length (flE L)]), some (.tok (flE L).length), none]
def tdR3 (L : List Ntr) (O : List Nat) : Rs := [none, some (.obj [.sl (.own 2) 39 L.length (flE L)]), some (.tok (flE L).length), some (.obj (tpC L O))]
def tdR5 (L : List Ntr) (O : List Nat) : Rs := [none, some (.obj [.sl (.own 2) 39 L.length (flE L)]), some (.tok (flE L).length), none, some (.obj (tpC L O))]
def tdP (l : List Ntr) (i : Nat) : List Ntr × List Nat := (l.take i).foldl stT ([], [])
def tdSz (l : List Ntr) (cl : Int) (z : Nat × Bool) : List (Nat × AV) := bif z.2 then tdS l cl z.1 3 else tdS l cl z.1 0
def tdRz (l : List Ntr) (z : Nat × Bool) : Rs := bif z.2 then tdR3 (tdP l z.1).1 (tdP l z.1).2 else tdR0 (tdP l z.1).1 (tdP l z.1).2
def tdI (l : List Ntr) (cl : Int) (z : Nat × Bool) : Prop := z.1 ≤ l.length ∧ (z.2 = true → cl < z.1)
set_option maxHeartbeats 4000000 in
theorem trailDoes_ac (l : List Ntr) (cl : Int) (hl : l.length ≤ 140737488352000) (hs : ∀ x ∈ l, szE x) : AC Try.prog noG 8 [.d (.sl 39 l.length (flE l)), .d (.c (.int .i64 cl))] [] (fun v r' => v = .d (.c (.bool true)) ∧ r' = []) := by
  refine AC.pure ?_ (by rintro v rfl; rfl)
  refine AC_of_R (N := 136) (res := [.tmp 4]) ty_ok Try.call8 Try.func8 rfl rfl rfl (Nat.le_of_ble_eq_true rfl) ?_
  have kw := wE_ac l 400 hl hs (by decide) (by decide)
  refine rn0 ?_
  refine HO_callX ty_ok [] kw (trivial) rfl ?_
  rintro v r' ⟨⟨n, rfl, _, hn⟩, rfl⟩ _
  by_cases hg : n > 400
  · refine rn1 @hg ?_
    refine HO_pureA ty_ok tlive_ac ?_
    exact rz0
  obtain ⟨hl4, hlt4⟩ := hn (by omega)
  have hok : ∀ x ∈ l, okE x := fun x hx => okE_sz (by decide) (hs x hx) (hlt4 x hx)
  have h9 : (9 :: [UInt8.ofNat 0, UInt8.ofNat 0, UInt8.ofNat 0, UInt8.ofNat 0, UInt8.ofNat 0, UInt8.ofNat 0, UInt8.ofNat 0, UInt8.ofNat 0, UInt8.ofNat 0, UInt8.ofNat 0, UInt8.ofNat 0, UInt8.ofNat 0, UInt8.ofNat 0, UInt8.ofNat 0, UInt8.ofNat 0, UInt8.ofNat 0, UInt8.ofNat 0, UInt8.ofNat 0, UInt8.ofNat 0, UInt8.ofNat 0, UInt8.ofNat 0, UInt8.ofNat 0, UInt8.ofNat 0, UInt8.ofNat 0, UInt8.ofNat 0, UInt8.ofNat 0, UInt8.ofNat 0, UInt8.ofNat 0, UInt8.ofNat 0, UInt8.ofNat 0, UInt8.ofNat 0, UInt8.ofNat 0].tail : List UInt8) = tg9 := rfl
  obtain ⟨y1, y2, y3, y4, y5, y6⟩ := tg32 tg9 rfl
  refine rn1 @hg ?_
  refine HO_callX ty_ok [] tnew_ac (trivial) rfl ?_
  rintro v r' ⟨rfl, rfl⟩ _
  refine rn1 (jn @tr.eq_1 @tpC.eq_1) ?_
  refine HC_loopR (tdSz l cl) (tdRz l) (tdI l cl) (fun z => l.length - z.1) (0, false) [0, 1, 2, 0] [0] ⟨Nat.zero_le _, by simp⟩ ?_ ?_
  · have e1 : tdRz l (0, false) = tdR0 [] [] := rfl
    have e2 : tdSz l cl (0, false) = tdS l cl 0 0 := rfl
    have e3 : flE [] = [] := rfl
    rw [e1, e2]
    exact ft1 (jn @tdS.eq_1 (jn @tdR0.eq_1 (jn @tpC.eq_1 @e3)))
  intro ⟨i, c⟩ ⟨hi1, hci⟩
  simp only at hi1 hci
  refine HC_of_R ty_ok ?_
  by_cases hlt : i < l.length
  · have hi : (i : Int) < l.length := by omega
    obtain ⟨hd, hle⟩ := flE_drop' (fun x hx => (hs x hx).1) i hlt
    have hox := hok _ (List.getElem_mem hlt)
    have hstp := fold_snoc hlt
    have hT := fold_ok (l.take i) ([], []) 0 TOk.nil fun x hx => hok x (List.mem_of_mem_take hx)
    rw [List.length_take, Nat.zero_add] at hT
    have htl := hT.len
    have hrz : ∀ c, tdRz l (i, c) = bif c then tdR3 (tdP l i).1 (tdP l i).2 else tdR0 (tdP l i).1 (tdP l i).2 := fun _ => rfl
    have hrz1 : ∀ c, tdRz l (i + 1, c) = bif c then tdR3 (tdP l (i + 1)).1 (tdP l (i + 1)).2 else tdR0 (tdP l (i + 1)).1 (tdP l (i + 1)).2 := fun _ => rfl
    have hp1 : tdP l (i + 1) = stT (tdP l i) l[i] := hstp
    rw [hrz]
    rw [hp1] at hrz1
    rw [show (l.take i).foldl stT ([], []) = tdP l i from rfl] at hT htl
    clear hrz hp1 hstp
    generalize l[i] = x at *
    generalize tdP l i = p at *
    obtain ⟨L, O⟩ := p
    simp only at htl hT hrz1 ⊢
    have hL := hT.okL (by omega)
    have hI := hT.inv
    simp only at hL hI
    have hT2 := stT_ok hT hox
    have hL2 := hT2.okL (by omega)
    have hI2 := hT2.inv
    have hl2 := hT2.len
    simp only [stT] at hL2 hI2 hl2 hrz1
    have kn := named18_ac x hox.1
    obtain ⟨t1, t2, t3, t4, t5, t6⟩ := tg32 x.tg hox.1
    have htk : (bD x.tg ++ flE (l.drop (i + 1))).take 32 = bD x.tg := by rw [← t2]; exact List.take_left
    have kE := lenter_ac L O hL hI (by omega) x hox
    have kR := renter_ac L hL (by omega) x hox
    have kL := tlen_ac (leL L x) (leO L O x)
    have kP := tplace_ac _ _ hL2 hI2 x.f hox.2.1
    have kQ := rplace_ac _ hL2 x.f (Nat.le_trans hox.2.1 (by decide))
    have kG := tget_ac _ _ hL2 hI2 x.f hox.2.1
    have hgt := get_idx hI2 (f := x.f)
    have hno := plc_none (L := leL L x) (f := x.f)
    have hogt := okE_getT hL2 x.f
    generalize getT (leL L x) x.f = y at *
    obtain ⟨u1, u2, u3, u4, u5, u6⟩ := tg32 y.tg hogt.1
    simp only [entE, fctE, List.cons_append, List.nil_append] at hd kn kE kR kP kQ kG
    cases c with
    | false =>
      show R _ _ _ _ _ _ ⟨fun _ => AV.top, tdS l cl i 0, tdR0 L O⟩
      by_cases hcl : (i : Int) = cl
      · have hin : tdI l cl (i + 1, true) := ⟨by simp only; omega, fun _ => by simp only; omega⟩
        have hx9 : okE ⟨x.f, 1, 0, [], tg9⟩ := ⟨rfl, hox.2.1, by simp, by simp⟩
        obtain ⟨L1, O1, q1, hL1, hI1, hl1⟩ := trN_ex hL hI (by omega) hx9
        have hx7 : okE ⟨fT 77, 1, 0, [], tg9⟩ := ⟨rfl, by simp [fT], by simp, by simp⟩
        obtain ⟨L3, O3, q3, _, _, _⟩ := trN_ex hL1 hI1 (by omega) hx7
        have kc := tclone_ac L O hL hI
        have k7 := at18_ac 77
        have kb1 := base_ac L O hL hI (by omega) x.f tg9 rfl hox.2.1
        have kb3 := base_ac L1 O1 hL1 hI1 (by omega) (fT 77) tg9 rfl (by decide)
        rw [q1] at kb1
        rw [q3] at kb3
        simp only [fT, fctE, flatE_cons, flatE_nil, cstE, List.cons_append, List.nil_append, List.length_cons, List.length_nil] at k7 kb1 kb3
        have hcl' : ((i : Int) = cl) = True := eq_true hcl
        refine rn1 (jn @tdS.eq_1 (jn @tdR0.eq_1 (jn @tpC.eq_1 (jn @hi (jn @hcl' (jn @hd @hle)))))) ?_
        refine HO_callX ty_ok [0] kc (tr_hand _ _ _ _ rfl) (tr_wf _ _) ?_
        rintro v r' ⟨rfl, rfl⟩ _
        refine rn1 (jn @tr.eq_1 (jn @tpC.eq_1 (jn @hi (jn @hd (jn @hle (jn @h9 (jn @y1 (jn @y2 (jn @y3 (jn @y4 (jn @y5 (jn @y6 @tA_allD)))))))))))) ?_
        (repeat (refine And.intro (by omega) ?_))
        refine HO_callX ty_ok [0] kb1 (tr_hand _ _ _ _ rfl) (tr_wf _ _) ?_
        rintro v r' ⟨rfl, rfl⟩ _
        refine rn1 (jn @tr.eq_1 @tpC.eq_1) ?_
        refine HO_pureA ty_ok k7 ?_
        refine rn1 (jn @h9 (jn @y1 (jn @y2 (jn @y3 (jn @y4 (jn @y5 (jn @y6 @tA_allD))))))) ?_
        refine HO_callX ty_ok [0] kb3 (tr_hand _ _ _ _ rfl) (tr_wf _ _) ?_
        rintro v r' ⟨rfl, rfl⟩ _
        refine rn1 (jn @tr.eq_1 (jn @tpC.eq_1 (jn @hi (jn @hd (jn @hle (jn @htk (jn @t1 (jn @t2 (jn @t3 (jn @t4 (jn @t5 @t6))))))))))) ?_
        (repeat (refine And.intro (by omega) ?_))
        refine HO_pureA ty_ok kn ?_
        have e4 : tdSz l cl (i + 1, true) = tdS l cl (i + 1) 3 := rfl
        cases hnm : named x with
        | false =>
          have e1 : leL L x = L := by rw [leL, if_neg (by rw [hnm]; decide)]
          have e2 : leO L O x = O := by rw [leO, if_neg (by rw [hnm]; decide)]
          refine rn0 ?_
          refine ⟨(i + 1, true), hin, by simp only; omega, [0,1,2,4], [], ?_⟩
          rw [hrz1, e1, e2, e4, cond_true]
          exact ft1 (jn @tdS.eq_1 (jn @tdR0.eq_1 (jn @tdR3.eq_1 (jn @tdR5.eq_1 @tpC.eq_1))))
        | true =>
          have e1 : leV L x = errT L x := by rw [leV, if_pos hnm]
          have e2 : rL L x = leL L x := by rw [leL, if_pos hnm]
          rw [e1] at kE
          rw [e2] at kR
          refine rn0 ?_
          refine HC_fitR (tdS l cl i 4) (tdR5 L O) [0,1,2,0,4] [] ?_ ?_
          · exact ft1 (jn @tdS.eq_1 (jn @tdR0.eq_1 (jn @tdR3.eq_1 (jn @tdR5.eq_1 @tpC.eq_1))))
          refine HC_cutR (tdB l cl i 4) (tdR5 (leL L x) (leO L O x)) ?_ ?_
          · refine rn1 (jn @tdS.eq_1 (jn @tdR5.eq_1 @tpC.eq_1)) ?_
            refine HC_of_HV mix ?_
            refine HV_split 10 5 (by decide) ?_ ?_
            · simp only [addAt]
              refine HV_split 19 15 (by decide) ?_ ?_
              · simp only [addAt]
                refine HV_split 36 30 (by decide) ?_ ?_
                · simp only [addAt]
                  refine HV_order [] ty_ok (0 :: 1 :: 2 :: 3 :: 4 :: 6 :: 7 :: 8 :: 9 :: 10 :: 5 :: 11 :: 12 :: 13 :: 14 :: 16 :: 17 :: 18 :: 19 :: 20 :: 15 :: 21 :: 22 :: 23 :: 24 :: 25 :: 26 :: 27 :: 28 :: 29 :: 31 :: 32 :: 33 :: 34 :: 35 :: 36 :: 30 :: 37 :: 38 :: 39 :: []) (by kernel_rfl) rfl _ rfl ?_
                  simp only [opl_nil', opl_cons', oplC_some, List.getElem?_toArray, List.getElem?_cons_zero, List.getElem?_cons_succ]
                  refine rn1 (jn @hi (jn @hd (jn @hle (jn @htk (jn @t1 (jn @t2 (jn @t3 (jn @t4 (jn @t5 @t6))))))))) ?_
                  (repeat (refine And.intro (by omega) ?_))
                  refine HO_callX ty_ok [4] kE (tr_hand _ _ _ _ rfl) (tr_wf _ _) ?_
                  rintro v r' ⟨rfl, rfl⟩ _
                  refine rn1 (jn @tr.eq_1 (jn @tpC.eq_1 (jn @hi (jn @hd (jn @hle (jn @htk (jn @t1 (jn @t2 (jn @t3 (jn @t4 (jn @t5 @t6))))))))))) ?_
                  (repeat (refine And.intro (by omega) ?_))
                  refine HO_callX ty_ok [1, 2] kR (tl_hand _ _ _ _ rfl rfl) (tl_wf _) ?_
                  rintro v r' ⟨rfl, rfl⟩ _
                  refine rn1 @tl.eq_1 ?_
                  refine HO_callX ty_ok [4] kL (tr_hand _ _ _ _ rfl) (tr_wf _ _) ?_
                  rintro v r' ⟨rfl, rfl⟩ _
                  refine rn1 (jn @tr.eq_1 (jn @tpC.eq_1 (jn @hi (jn @hd @hle)))) ?_
                  (repeat (refine And.intro (by omega) ?_))
                  refine HO_callX ty_ok [4] kP (tr_hand _ _ _ _ rfl) (tr_wf _ _) ?_
                  rintro v r' ⟨rfl, rfl⟩ _
                  refine rn1 (jn @tr.eq_1 (jn @tpC.eq_1 (jn @hi (jn @hd @hle)))) ?_
                  (repeat (refine And.intro (by omega) ?_))
                  refine HO_lend ty_ok (kQ) (rfl) rfl rfl rfl (by kernel_rfl) ⟨BwA.ptr0 rfl rfl, BwA.val (.refl _) rfl, trivial⟩ ?_
                  refine rn0 ?_
                  refine ⟨[0,1,2,0,4], [], ?_⟩
                  exact ft1 (jn @tdB.eq_1 (jn @tdS.eq_1 (jn @tdR0.eq_1 (jn @tdR3.eq_1 (jn @tdR5.eq_1 @tpC.eq_1)))))
                · simp only [addAt]
                  refine HV_order [] ty_ok (0 :: 1 :: 2 :: 3 :: 4 :: 6 :: 7 :: 8 :: 9 :: 10 :: 5 :: 11 :: 12 :: 13 :: 14 :: 16 :: 17 :: 18 :: 19 :: 20 :: 15 :: 21 :: 22 :: 23 :: 24 :: 25 :: 26 :: 27 :: 28 :: 29 :: 31 :: 32 :: 33 :: 34 :: 35 :: 30 :: 36 :: 37 :: 38 :: 39 :: []) (by kernel_rfl) rfl _ rfl ?_
                  simp only [opl_nil', opl_cons', oplC_some, List.getElem?_toArray, List.getElem?_cons_zero, List.getElem?_cons_succ]
                  refine rn1 (jn @hi (jn @hd (jn @hle (jn @htk (jn @t1 (jn @t2 (jn @t3 (jn @t4 (jn @t5 @t6))))))))) ?_
                  (repeat (refine And.intro (by omega) ?_))
                  refine HO_callX ty_ok [4] kE (tr_hand _ _ _ _ rfl) (tr_wf _ _) ?_
                  rintro v r' ⟨rfl, rfl⟩ _
                  refine rn1 (jn @tr.eq_1 (jn @tpC.eq_1 (jn @hi (jn @hd (jn @hle (jn @htk (jn @t1 (jn @t2 (jn @t3 (jn @t4 (jn @t5 @t6))))))))))) ?_
                  (repeat (refine And.intro (by omega) ?_))
                  refine HO_callX ty_ok [1, 2] kR (tl_hand _ _ _ _ rfl rfl) (tl_wf _) ?_
                  rintro v r' ⟨rfl, rfl⟩ _
                  refine rn1 @tl.eq_1 ?_
                  refine HO_callX ty_ok [4] kL (tr_hand _ _ _ _ rfl) (tr_wf _ _) ?_
                  rintro v r' ⟨rfl, rfl⟩ _
                  refine rn1 (jn @tr.eq_1 (jn @tpC.eq_1 (jn @hi (jn @hd @hle)))) ?_
                  (repeat (refine And.intro (by omega) ?_))
                  refine HO_callX ty_ok [4] kP (tr_hand _ _ _ _ rfl) (tr_wf _ _) ?_
                  rintro v r' ⟨rfl, rfl⟩ _
                  refine rn1 (jn @tr.eq_1 (jn @tpC.eq_1 (jn @hi (jn @hd @hle)))) ?_
                  (repeat (refine And.intro (by omega) ?_))
                  refine HO_lend ty_ok (kQ) (rfl) rfl rfl rfl (by kernel_rfl) ⟨BwA.ptr0 rfl rfl, BwA.val (.refl _) rfl, trivial⟩ ?_
                  refine rn0 ?_
                  refine ⟨[0,1,2,0,4], [], ?_⟩
                  exact ft1 (jn @tdB.eq_1 (jn @tdS.eq_1 (jn @tdR0.eq_1 (jn @tdR3.eq_1 (jn @tdR5.eq_1 @tpC.eq_1)))))
              · simp only [addAt]
                refine HV_split 36 30 (by decide) ?_ ?_
                · simp only [addAt]
                  refine HV_order [] ty_ok (0 :: 1 :: 2 :: 3 :: 4 :: 6 :: 7 :: 8 :: 9 :: 10 :: 5 :: 11 :: 12 :: 13 :: 14 :: 16 :: 17 :: 18 :: 15 :: 19 :: 20 :: 21 :: 22 :: 23 :: 24 :: 25 :: 26 :: 27 :: 28 :: 29 :: 31 :: 32 :: 33 :: 34 :: 35 :: 36 :: 30 :: 37 :: 38 :: 39 :: []) (by kernel_rfl) rfl _ rfl ?_
                  simp only [opl_nil', opl_cons', oplC_some, List.getElem?_toArray, List.getElem?_cons_zero, List.getElem?_cons_succ]
                  refine rn1 (jn @hi (jn @hd (jn @hle (jn @htk (jn @t1 (jn @t2 (jn @t3 (jn @t4 (jn @t5 @t6))))))))) ?_
                  (repeat (refine And.intro (by omega) ?_))
                  refine HO_callX ty_ok [4] kE (tr_hand _ _ _ _ rfl) (tr_wf _ _) ?_
                  rintro v r' ⟨rfl, rfl⟩ _
                  refine rn1 (jn @tr.eq_1 (jn @tpC.eq_1 (jn @hi (jn @hd (jn @hle (jn @htk (jn @t1 (jn @t2 (jn @t3 (jn @t4 (jn @t5 @t6))))))))))) ?_
                  (repeat (refine And.intro (by omega) ?_))
                  refine HO_callX ty_ok [1, 2] kR (tl_hand _ _ _ _ rfl rfl) (tl_wf _) ?_
                  rintro v r' ⟨rfl, rfl⟩ _
                  refine rn1 @tl.eq_1 ?_
                  refine HO_callX ty_ok [4] kL (tr_hand _ _ _ _ rfl) (tr_wf _ _) ?_
                  rintro v r' ⟨rfl, rfl⟩ _
                  refine rn1 (jn @tr.eq_1 (jn @tpC.eq_1 (jn @hi (jn @hd @hle)))) ?_
                  (repeat (refine And.intro (by omega) ?_))
                  refine HO_callX ty_ok [4] kP (tr_hand _ _ _ _ rfl) (tr_wf _ _) ?_
                  rintro v r' ⟨rfl, rfl⟩ _
                  refine rn1 (jn @tr.eq_1 (jn @tpC.eq_1 (jn @hi (jn @hd @hle)))) ?_
                  (repeat (refine And.intro (by omega) ?_))
                  refine HO_lend ty_ok (kQ) (rfl) rfl rfl rfl (by kernel_rfl) ⟨BwA.ptr0 rfl rfl, BwA.val (.refl _) rfl, trivial⟩ ?_
                  refine rn0 ?_
                  refine ⟨[0,1,2,0,4], [], ?_⟩
                  exact ft1 (jn @tdB.eq_1 (jn @tdS.eq_1 (jn @tdR0.eq_1 (jn @tdR3.eq_1 (jn @tdR5.eq_1 @tpC.eq_1)))))
                · simp only [addAt]
                  refine HV_order [] ty_ok (0 :: 1 :: 2 :: 3 :: 4 :: 6 :: 7 :: 8 :: 9 :: 10 :: 5 :: 11 :: 12 :: 13 :: 14 :: 16 :: 17 :: 18 :: 15 :: 19 :: 20 :: 21 :: 22 :: 23 :: 24 :: 25 :: 26 :: 27 :: 28 :: 29 :: 31 :: 32 :: 33 :: 34 :: 35 :: 30 :: 36 :: 37 :: 38 :: 39 :: []) (by kernel_rfl) rfl _ rfl ?_
                  simp only [opl_nil', opl_cons', oplC_some, List.getElem?_toArray, List.getElem?_cons_zero, List.getElem?_cons_succ]
                  refine rn1 (jn @hi (jn @hd (jn @hle (jn @htk (jn @t1 (jn @t2 (jn @t3 (jn @t4 (jn @t5 @t6))))))))) ?_
                  (repeat (refine And.intro (by omega) ?_))
                  refine HO_callX ty_ok [4] kE (tr_hand _ _ _ _ rfl) (tr_wf _ _) ?_
                  rintro v r' ⟨rfl, rfl⟩ _
                  refine rn1 (jn @tr.eq_1 (jn @tpC.eq_1 (jn @hi (jn @hd (jn @hle (jn @htk (jn @t1 (jn @t2 (jn @t3 (jn @t4 (jn @t5 @t6))))))))))) ?_
                  (repeat (refine And.intro (by omega) ?_))
                  refine HO_callX ty_ok [1, 2] kR (tl_hand _ _ _ _ rfl rfl) (tl_wf _) ?_
                  rintro v r' ⟨rfl, rfl⟩ _
                  refine rn1 @tl.eq_1 ?_
                  refine HO_callX ty_ok [4] kL (tr_hand _ _ _ _ rfl) (tr_wf _ _) ?_
                  rintro v r' ⟨rfl, rfl⟩ _
                  refine rn1 (jn @tr.eq_1 (jn @tpC.eq_1 (jn @hi (jn @hd @hle)))) ?_
                  (repeat (refine And.intro (by omega) ?_))
                  refine HO_callX ty_ok [4] kP (tr_hand _ _ _ _ rfl) (tr_wf _ _) ?_
                  rintro v r' ⟨rfl, rfl⟩ _
                  refine rn1 (jn @tr.eq_1 (jn @tpC.eq_1 (jn @hi (jn @hd @hle)))) ?_
                  (repeat (refine And.intro (by omega) ?_))
                  refine HO_lend ty_ok (kQ) (rfl) rfl rfl rfl (by kernel_rfl) ⟨BwA.ptr0 rfl rfl, BwA.val (.refl _) rfl, trivial⟩ ?_
                  refine rn0 ?_
                  refine ⟨[0,1,2,0,4], [], ?_⟩
                  exact ft1 (jn @tdB.eq_1 (jn @tdS.eq_1 (jn @tdR0.eq_1 (jn @tdR3.eq_1 (jn @tdR5.eq_1 @tpC.eq_1)))))
            · simp only [addAt]
              refine HV_split 19 15 (by decide) ?_ ?_
              · simp only [addAt]
                refine HV_split 36 30 (by decide) ?_ ?_
                · simp only [addAt]
                  refine HV_order [] ty_ok (0 :: 1 :: 2 :: 3 :: 4 :: 6 :: 7 :: 8 :: 9 :: 5 :: 10 :: 11 :: 12 :: 13 :: 14 :: 16 :: 17 :: 18 :: 19 :: 20 :: 15 :: 21 :: 22 :: 23 :: 24 :: 25 :: 26 :: 27 :: 28 :: 29 :: 31 :: 32 :: 33 :: 34 :: 35 :: 36 :: 30 :: 37 :: 38 :: 39 :: []) (by kernel_rfl) rfl _ rfl ?_
                  simp only [opl_nil', opl_cons', oplC_some, List.getElem?_toArray, List.getElem?_cons_zero, List.getElem?_cons_succ]
                  refine rn1 (jn @hi (jn @hd (jn @hle (jn @htk (jn @t1 (jn @t2 (jn @t3 (jn @t4 (jn @t5 @t6))))))))) ?_
                  (repeat (refine And.intro (by omega) ?_))
                  refine HO_callX ty_ok [4] kE (tr_hand _ _ _ _ rfl) (tr_wf _ _) ?_
                  rintro v r' ⟨rfl, rfl⟩ _
                  refine rn1 (jn @tr.eq_1 (jn @tpC.eq_1 (jn @hi (jn @hd (jn @hle (jn @htk (jn @t1 (jn @t2 (jn @t3 (jn @t4 (jn @t5 @t6))))))))))) ?_
                  (repeat (refine And.intro (by omega) ?_))
                  refine HO_callX ty_ok [1, 2] kR (tl_hand _ _ _ _ rfl rfl) (tl_wf _) ?_
                  rintro v r' ⟨rfl, rfl⟩ _
                  refine rn1 @tl.eq_1 ?_
                  refine HO_callX ty_ok [4] kL (tr_hand _ _ _ _ rfl) (tr_wf _ _) ?_
                  rintro v r' ⟨rfl, rfl⟩ _
                  refine rn1 (jn @tr.eq_1 (jn @tpC.eq_1 (jn @hi (jn @hd @hle)))) ?_
                  (repeat (refine And.intro (by omega) ?_))
                  refine HO_callX ty_ok [4] kP (tr_hand _ _ _ _ rfl) (tr_wf _ _) ?_
                  rintro v r' ⟨rfl, rfl⟩ _
                  refine rn1 (jn @tr.eq_1 (jn @tpC.eq_1 (jn @hi (jn @hd @hle)))) ?_
                  (repeat (refine And.intro (by omega) ?_))
                  refine HO_lend ty_ok (kQ) (rfl) rfl rfl rfl (by kernel_rfl) ⟨BwA.ptr0 rfl rfl, BwA.val (.refl _) rfl, trivial⟩ ?_
                  refine rn0 ?_
                  refine ⟨[0,1,2,0,4], [], ?_⟩
                  exact ft1 (jn @tdB.eq_1 (jn @tdS.eq_1 (jn @tdR0.eq_1 (jn @tdR3.eq_1 (jn @tdR5.eq_1 @tpC.eq_1)))))
                · simp only [addAt]
                  refine HV_order [] ty_ok (0 :: 1 :: 2 :: 3 :: 4 :: 6 :: 7 :: 8 :: 9 :: 5 :: 10 :: 11 :: 12 :: 13 :: 14 :: 16 :: 17 :: 18 :: 19 :: 20 :: 15 :: 21 :: 22 :: 23 :: 24 :: 25 :: 26 :: 27 :: 28 :: 29 :: 31 :: 32 :: 33 :: 34 :: 35 :: 30 :: 36 :: 37 :: 38 :: 39 :: []) (by kernel_rfl) rfl _ rfl ?_
                  simp only [opl_nil', opl_cons', oplC_some, List.getElem?_toArray, List.getElem?_cons_zero, List.getElem?_cons_succ]
                  refine rn1 (jn @hi (jn @hd (jn @hle (jn @htk (jn @t1 (jn @t2 (jn @t3 (jn @t4 (jn @t5 @t6))))))))) ?_
                  (repeat (refine And.intro (by omega) ?_))
                  refine HO_callX ty_ok [4] kE (tr_hand _ _ _ _ rfl) (tr_wf _ _) ?_
                  rintro v r' ⟨rfl, rfl⟩ _
                  refine rn1 (jn @tr.eq_1 (jn @tpC.eq_1 (jn @hi (jn @hd (jn @hle (jn @htk (jn @t1 (jn @t2 (jn @t3 (jn @t4 (jn @t5 @t6))))))))))) ?_
                  (repeat (refine And.intro (by omega) ?_))
                  refine HO_callX ty_ok [1, 2] kR (tl_hand _ _ _ _ rfl rfl) (tl_wf _) ?_
                  rintro v r' ⟨rfl, rfl⟩ _
                  refine rn1 @tl.eq_1 ?_
                  refine HO_callX ty_ok [4] kL (tr_hand _ _ _ _ rfl) (tr_wf _ _) ?_
                  rintro v r' ⟨rfl, rfl⟩ _
                  refine rn1 (jn @tr.eq_1 (jn @tpC.eq_1 (jn @hi (jn @hd @hle)))) ?_
                  (repeat (refine And.intro (by omega) ?_))
                  refine HO_callX ty_ok [4] kP (tr_hand _ _ _ _ rfl) (tr_wf _ _) ?_
                  rintro v r' ⟨rfl, rfl⟩ _
                  refine rn1 (jn @tr.eq_1 (jn @tpC.eq_1 (jn @hi (jn @hd @hle)))) ?_
                  (repeat (refine And.intro (by omega) ?_))
                  refine HO_lend ty_ok (kQ) (rfl) rfl rfl rfl (by kernel_rfl) ⟨BwA.ptr0 rfl rfl, BwA.val (.refl _) rfl, trivial⟩ ?_
                  refine rn0 ?_
                  refine ⟨[0,1,2,0,4], [], ?_⟩
                  exact ft1 (jn @tdB.eq_1 (jn @tdS.eq_1 (jn @tdR0.eq_1 (jn @tdR3.eq_1 (jn @tdR5.eq_1 @tpC.eq_1)))))
              · simp only [addAt]
                refine HV_split 36 30 (by decide) ?_ ?_
                · simp only [addAt]
                  refine HV_order [] ty_ok (0 :: 1 :: 2 :: 3 :: 4 :: 6 :: 7 :: 8 :: 9 :: 5 :: 10 :: 11 :: 12 :: 13 :: 14 :: 16 :: 17 :: 18 :: 15 :: 19 :: 20 :: 21 :: 22 :: 23 :: 24 :: 25 :: 26 :: 27 :: 28 :: 29 :: 31 :: 32 :: 33 :: 34 :: 35 :: 36 :: 30 :: 37 :: 38 :: 39 :: []) (by kernel_rfl) rfl _ rfl ?_
                  simp only [opl_nil', opl_cons', oplC_some, List.getElem?_toArray, List.getElem?_cons_zero, List.getElem?_cons_succ]
                  refine rn1 (jn @hi (jn @hd (jn @hle (jn @htk (jn @t1 (jn @t2 (jn @t3 (jn @t4 (jn @t5 @t6))))))))) ?_
                  (repeat (refine And.intro (by omega) ?_))
                  refine HO_callX ty_ok [4] kE (tr_hand _ _ _ _ rfl) (tr_wf _ _) ?_
                  rintro v r' ⟨rfl, rfl⟩ _
                  refine rn1 (jn @tr.eq_1 (jn @tpC.eq_1 (jn @hi (jn @hd (jn @hle (jn @htk (jn @t1 (jn @t2 (jn @t3 (jn @t4 (jn @t5 @t6))))))))))) ?_
                  (repeat (refine And.intro (by omega) ?_))
                  refine HO_callX ty_ok [1, 2] kR (tl_hand _ _ _ _ rfl rfl) (tl_wf _) ?_
                  rintro v r' ⟨rfl, rfl⟩ _
                  refine rn1 @tl.eq_1 ?_
                  refine HO_callX ty_ok [4] kL (tr_hand _ _ _ _ rfl) (tr_wf _ _) ?_
                  rintro v r' ⟨rfl, rfl⟩ _
                  refine rn1 (jn @tr.eq_1 (jn @tpC.eq_1 (jn @hi (jn @hd @hle)))) ?_
                  (repeat (refine And.intro (by omega) ?_))
                  refine HO_callX ty_ok [4] kP (tr_hand _ _ _ _ rfl) (tr_wf _ _) ?_
                  rintro v r' ⟨rfl, rfl⟩ _
                  refine rn1 (jn @tr.eq_1 (jn @tpC.eq_1 (jn @hi (jn @hd @hle)))) ?_
                  (repeat (refine And.intro (by omega) ?_))
                  refine HO_lend ty_ok (kQ) (rfl) rfl rfl rfl (by kernel_rfl) ⟨BwA.ptr0 rfl rfl, BwA.val (.refl _) rfl, trivial⟩ ?_
                  refine rn0 ?_
                  refine ⟨[0,1,2,0,4], [], ?_⟩
                  exact ft1 (jn @tdB.eq_1 (jn @tdS.eq_1 (jn @tdR0.eq_1 (jn @tdR3.eq_1 (jn @tdR5.eq_1 @tpC.eq_1)))))
                · simp only [addAt]
                  refine HV_order [] ty_ok (0 :: 1 :: 2 :: 3 :: 4 :: 6 :: 7 :: 8 :: 9 :: 5 :: 10 :: 11 :: 12 :: 13 :: 14 :: 16 :: 17 :: 18 :: 15 :: 19 :: 20 :: 21 :: 22 :: 23 :: 24 :: 25 :: 26 :: 27 :: 28 :: 29 :: 31 :: 32 :: 33 :: 34 :: 35 :: 30 :: 36 :: 37 :: 38 :: 39 :: []) (by kernel_rfl) rfl _ rfl ?_
                  simp only [opl_nil', opl_cons', oplC_some, List.getElem?_toArray, List.getElem?_cons_zero, List.getElem?_cons_succ]
                  refine rn1 (jn @hi (jn @hd (jn @hle (jn @htk (jn @t1 (jn @t2 (jn @t3 (jn @t4 (jn @t5 @t6))))))))) ?_
                  (repeat (refine And.intro (by omega) ?_))
                  refine HO_callX ty_ok [4] kE (tr_hand _ _ _ _ rfl) (tr_wf _ _) ?_
                  rintro v r' ⟨rfl, rfl⟩ _
                  refine rn1 (jn @tr.eq_1 (jn @tpC.eq_1 (jn @hi (jn @hd (jn @hle (jn @htk (jn @t1 (jn @t2 (jn @t3 (jn @t4 (jn @t5 @t6))))))))))) ?_
                  (repeat (refine And.intro (by omega) ?_))
                  refine HO_callX ty_ok [1, 2] kR (tl_hand _ _ _ _ rfl rfl) (tl_wf _) ?_
                  rintro v r' ⟨rfl, rfl⟩ _
                  refine rn1 @tl.eq_1 ?_
                  refine HO_callX ty_ok [4] kL (tr_hand _ _ _ _ rfl) (tr_wf _ _) ?_
                  rintro v r' ⟨rfl, rfl⟩ _
                  refine rn1 (jn @tr.eq_1 (jn @tpC.eq_1 (jn @hi (jn @hd @hle)))) ?_
                  (repeat (refine And.intro (by omega) ?_))
                  refine HO_callX ty_ok [4] kP (tr_hand _ _ _ _ rfl) (tr_wf _ _) ?_
                  rintro v r' ⟨rfl, rfl⟩ _
                  refine rn1 (jn @tr.eq_1 (jn @tpC.eq_1 (jn @hi (jn @hd @hle)))) ?_
                  (repeat (refine And.intro (by omega) ?_))
                  refine HO_lend ty_ok (kQ) (rfl) rfl rfl rfl (by kernel_rfl) ⟨BwA.ptr0 rfl rfl, BwA.val (.refl _) rfl, trivial⟩ ?_
                  refine rn0 ?_
                  refine ⟨[0,1,2,0,4], [], ?_⟩
                  exact ft1 (jn @tdB.eq_1 (jn @tdS.eq_1 (jn @tdR0.eq_1 (jn @tdR3.eq_1 (jn @tdR5.eq_1 @tpC.eq_1)))))
          · skip
            refine rn1 (jn @tdB.eq_1 (jn @tdS.eq_1 (jn @tdR5.eq_1 (jn @tpC.eq_1 (jn @hi (jn @hd @hle)))))) ?_
            (repeat (refine And.intro (by omega) ?_))
            refine HO_callX ty_ok [4] kG (tr_hand _ _ _ _ rfl) (tr_wf _ _) ?_
            rintro v r' ⟨rfl, rfl⟩ _
            refine rn1 (jn @tr.eq_1 (jn @tpC.eq_1 (jn @hi (jn @hd (jn @hle (jn @u1 (jn @u2 (jn @u3 (jn @u4 (jn @u5 (jn @u6 @tA_allD))))))))))) ?_
            (repeat (refine And.intro (by omega) ?_))
            refine HO_lend ty_ok (kQ) (rfl) rfl rfl rfl (by kernel_rfl) ⟨BwA.ptr0 rfl rfl, BwA.val (.refl _) rfl, trivial⟩ ?_
            cases hq : hasT (leL L x) x.f with
            | false =>
              rw [hno hq]
              refine rn1 (jn @u1 (jn @u2 (jn @u3 (jn @u4 (jn @u5 (jn @u6 @tA_allD)))))) ?_
              refine HC_plan [] ty_ok mix (by kernel_rfl) ?_
              refine rn0 ?_
              refine ⟨(i + 1, true), hin, by simp only; omega, [0,1,2,4], [], ?_⟩
              rw [hrz1, e4]
              exact ft1 (jn @tdS.eq_1 (jn @tdR0.eq_1 (jn @tdR3.eq_1 @tpC.eq_1)))
            | true =>
              obtain ⟨k, hk, g1, g2, g3⟩ := hgt hq
              have hkI : (k : Int) < (leL L x).length := by omega
              have hd2 := flE_drop hL2 k hk
              have hle2 := flE_len hL2
              rw [← g3] at hd2
              have htk2 : (bD y.tg ++ flE ((leL L x).drop (k + 1))).take 32 = bD y.tg := by rw [← u2]; exact List.take_left
              have kS := rsameE_ac y y hogt hogt
              rw [decide_eq_true rfl] at kS
              simp only [entE, fctE, List.cons_append, List.nil_append] at hd2 kS
              rw [g1]
              refine rn1 (jn @u1 (jn @u2 (jn @u3 (jn @u4 (jn @u5 (jn @u6 @tA_allD)))))) ?_
              refine HC_plan [] ty_ok mix (by kernel_rfl) ?_
              refine rn1 (jn @hkI (jn @hd2 (jn @hle2 (jn @htk2 (jn @u1 (jn @u2 (jn @u3 (jn @u4 (jn @u5 (jn @u6 @tA_allD)))))))))) ?_
              (repeat (refine And.intro (by omega) ?_))
              refine HO_pureA ty_ok kS ?_
              refine rn0 ?_
              refine ⟨(i + 1, true), hin, by simp only; omega, [0,1,2,4], [], ?_⟩
              rw [hrz1, e4]
              exact ft1 (jn @tdS.eq_1 (jn @tdR0.eq_1 (jn @tdR3.eq_1 (jn @tpC.eq_1 @hle2))))
      · have hin : tdI l cl (i + 1, false) := ⟨by simp only; omega, by simp⟩
        refine rn1 (jn @tdS.eq_1 (jn @tdR0.eq_1 (jn @tpC.eq_1 (jn @hi (jn @hcl (jn @hd (jn @hle (jn @htk (jn @t1 (jn @t2 (jn @t3 (jn @t4 (jn @t5 @t6))))))))))))) ?_
        (repeat (refine And.intro (by omega) ?_))
        refine HO_pureA ty_ok kn ?_
        have e4 : tdSz l cl (i + 1, false) = tdS l cl (i + 1) 0 := rfl
        cases hnm : named x with
        | false =>
          have e1 : leL L x = L := by rw [leL, if_neg (by rw [hnm]; decide)]
          have e2 : leO L O x = O := by rw [leO, if_neg (by rw [hnm]; decide)]
          refine rn0 ?_
          refine ⟨(i + 1, false), hin, by simp only; omega, [0,1,2,0], [], ?_⟩
          rw [hrz1, e1, e2, e4, cond_false]
          exact ft1 (jn @tdS.eq_1 (jn @tdR0.eq_1 (jn @tdR3.eq_1 (jn @tdR5.eq_1 @tpC.eq_1))))
        | true =>
          have e1 : leV L x = errT L x := by rw [leV, if_pos hnm]
          have e2 : rL L x = leL L x := by rw [leL, if_pos hnm]
          rw [e1] at kE
          rw [e2] at kR
          refine rn0 ?_
          refine HC_fitR (tdS l cl i 0) (tdR0 L O) [0,1,2,0] [] ?_ ?_
          · exact ft1 (jn @tdS.eq_1 (jn @tdR0.eq_1 (jn @tdR3.eq_1 (jn @tdR5.eq_1 @tpC.eq_1))))
          refine HC_cutR (tdB l cl i 0) (tdR0 (leL L x) (leO L O x)) ?_ ?_
          · refine rn1 (jn @tdS.eq_1 (jn @tdR0.eq_1 @tpC.eq_1)) ?_
            refine HC_of_HV mix ?_
            refine HV_split 10 5 (by decide) ?_ ?_
            · simp only [addAt]
              refine HV_split 19 15 (by decide) ?_ ?_
              · simp only [addAt]
                refine HV_split 36 30 (by decide) ?_ ?_
                · simp only [addAt]
                  refine HV_order [] ty_ok (0 :: 1 :: 2 :: 3 :: 4 :: 6 :: 7 :: 8 :: 9 :: 10 :: 5 :: 11 :: 12 :: 13 :: 14 :: 16 :: 17 :: 18 :: 19 :: 20 :: 15 :: 21 :: 22 :: 23 :: 24 :: 25 :: 26 :: 27 :: 28 :: 29 :: 31 :: 32 :: 33 :: 34 :: 35 :: 36 :: 30 :: 37 :: 38 :: 39 :: []) (by kernel_rfl) rfl _ rfl ?_
                  simp only [opl_nil', opl_cons', oplC_some, List.getElem?_toArray, List.getElem?_cons_zero, List.getElem?_cons_succ]
                  refine rn1 (jn @hi (jn @hd (jn @hle (jn @htk (jn @t1 (jn @t2 (jn @t3 (jn @t4 (jn @t5 @t6))))))))) ?_
                  (repeat (refine And.intro (by omega) ?_))
                  refine HO_callX ty_ok [0] kE (tr_hand _ _ _ _ rfl) (tr_wf _ _) ?_
                  rintro v r' ⟨rfl, rfl⟩ _
                  refine rn1 (jn @tr.eq_1 (jn @tpC.eq_1 (jn @hi (jn @hd (jn @hle (jn @htk (jn @t1 (jn @t2 (jn @t3 (jn @t4 (jn @t5 @t6))))))))))) ?_
                  (repeat (refine And.intro (by omega) ?_))
                  refine HO_callX ty_ok [1, 2] kR (tl_hand _ _ _ _ rfl rfl) (tl_wf _) ?_
                  rintro v r' ⟨rfl, rfl⟩ _
                  refine rn1 @tl.eq_1 ?_
                  refine HO_callX ty_ok [0] kL (tr_hand _ _ _ _ rfl) (tr_wf _ _) ?_
                  rintro v r' ⟨rfl, rfl⟩ _
                  refine rn1 (jn @tr.eq_1 (jn @tpC.eq_1 (jn @hi (jn @hd @hle)))) ?_
                  (repeat (refine And.intro (by omega) ?_))
                  refine HO_callX ty_ok [0] kP (tr_hand _ _ _ _ rfl) (tr_wf _ _) ?_
                  rintro v r' ⟨rfl, rfl⟩ _
                  refine rn1 (jn @tr.eq_1 (jn @tpC.eq_1 (jn @hi (jn @hd @hle)))) ?_
                  (repeat (refine And.intro (by omega) ?_))
                  refine HO_lend ty_ok (kQ) (rfl) rfl rfl rfl (by kernel_rfl) ⟨BwA.ptr0 rfl rfl, BwA.val (.refl _) rfl, trivial⟩ ?_
                  refine rn0 ?_
                  refine ⟨[0,1,2,0], [], ?_⟩
                  exact ft1 (jn @tdB.eq_1 (jn @tdS.eq_1 (jn @tdR0.eq_1 (jn @tdR3.eq_1 (jn @tdR5.eq_1 @tpC.eq_1)))))
                · simp only [addAt]
                  refine HV_order [] ty_ok (0 :: 1 :: 2 :: 3 :: 4 :: 6 :: 7 :: 8 :: 9 :: 10 :: 5 :: 11 :: 12 :: 13 :: 14 :: 16 :: 17 :: 18 :: 19 :: 20 :: 15 :: 21 :: 22 :: 23 :: 24 :: 25 :: 26 :: 27 :: 28 :: 29 :: 31 :: 32 :: 33 :: 34 :: 35 :: 30 :: 36 :: 37 :: 38 :: 39 :: []) (by kernel_rfl) rfl _ rfl ?_
                  simp only [opl_nil', opl_cons', oplC_some, List.getElem?_toArray, List.getElem?_cons_zero, List.getElem?_cons_succ]
                  refine rn1 (jn @hi (jn @hd (jn @hle (jn @htk (jn @t1 (jn @t2 (jn @t3 (jn @t4 (jn @t5 @t6))))))))) ?_
                  (repeat (refine And.intro (by omega) ?_))
                  refine HO_callX ty_ok [0] kE (tr_hand _ _ _ _ rfl) (tr_wf _ _) ?_
                  rintro v r' ⟨rfl, rfl⟩ _
                  refine rn1 (jn @tr.eq_1 (jn @tpC.eq_1 (jn @hi (jn @hd (jn @hle (jn @htk (jn @t1 (jn @t2 (jn @t3 (jn @t4 (jn @t5 @t6))))))))))) ?_
                  (repeat (refine And.intro (by omega) ?_))
                  refine HO_callX ty_ok [1, 2] kR (tl_hand _ _ _ _ rfl rfl) (tl_wf _) ?_
                  rintro v r' ⟨rfl, rfl⟩ _
                  refine rn1 @tl.eq_1 ?_
                  refine HO_callX ty_ok [0] kL (tr_hand _ _ _ _ rfl) (tr_wf _ _) ?_
                  rintro v r' ⟨rfl, rfl⟩ _
                  refine rn1 (jn @tr.eq_1 (jn @tpC.eq_1 (jn @hi (jn @hd @hle)))) ?_
                  (repeat (refine And.intro (by omega) ?_))
                  refine HO_callX ty_ok [0] kP (tr_hand _ _ _ _ rfl) (tr_wf _ _) ?_
                  rintro v r' ⟨rfl, rfl⟩ _
                  refine rn1 (jn @tr.eq_1 (jn @tpC.eq_1 (jn @hi (jn @hd @hle)))) ?_
                  (repeat (refine And.intro (by omega) ?_))
                  refine HO_lend ty_ok (kQ) (rfl) rfl rfl rfl (by kernel_rfl) ⟨BwA.ptr0 rfl rfl, BwA.val (.refl _) rfl, trivial⟩ ?_
                  refine rn0 ?_
                  refine ⟨[0,1,2,0], [], ?_⟩
                  exact ft1 (jn @tdB.eq_1 (jn @tdS.eq_1 (jn @tdR0.eq_1 (jn @tdR3.eq_1 (jn @tdR5.eq_1 @tpC.eq_1)))))
              · simp only [addAt]
                refine HV_split 36 30 (by decide) ?_ ?_
                · simp only [addAt]
                  refine HV_order [] ty_ok (0 :: 1 :: 2 :: 3 :: 4 :: 6 :: 7 :: 8 :: 9 :: 10 :: 5 :: 11 :: 12 :: 13 :: 14 :: 16 :: 17 :: 18 :: 15 :: 19 :: 20 :: 21 :: 22 :: 23 :: 24 :: 25 :: 26 :: 27 :: 28 :: 29 :: 31 :: 32 :: 33 :: 34 :: 35 :: 36 :: 30 :: 37 :: 38 :: 39 :: []) (by kernel_rfl) rfl _ rfl ?_
                  simp only [opl_nil', opl_cons', oplC_some, List.getElem?_toArray, List.getElem?_cons_zero, List.getElem?_cons_succ]
                  refine rn1 (jn @hi (jn @hd (jn @hle (jn @htk (jn @t1 (jn @t2 (jn @t3 (jn @t4 (jn @t5 @t6))))))))) ?_
                  (repeat (refine And.intro (by omega) ?_))
                  refine HO_callX ty_ok [0] kE (tr_hand _ _ _ _ rfl) (tr_wf _ _) ?_
                  rintro v r' ⟨rfl, rfl⟩ _
                  refine rn1 (jn @tr.eq_1 (jn @tpC.eq_1 (jn @hi (jn @hd (jn @hle (jn @htk (jn @t1 (jn @t2 (jn @t3 (jn @t4 (jn @t5 @t6))))))))))) ?_
                  (repeat (refine And.intro (by omega) ?_))
                  refine HO_callX ty_ok [1, 2] kR (tl_hand _ _ _ _ rfl rfl) (tl_wf _) ?_
                  rintro v r' ⟨rfl, rfl⟩ _
                  refine rn1 @tl.eq_1 ?_
                  refine HO_callX ty_ok [0] kL (tr_hand _ _ _ _ rfl) (tr_wf _ _) ?_
                  rintro v r' ⟨rfl, rfl⟩ _
                  refine rn1 (jn @tr.eq_1 (jn @tpC.eq_1 (jn @hi (jn @hd @hle)))) ?_
                  (repeat (refine And.intro (by omega) ?_))
                  refine HO_callX ty_ok [0] kP (tr_hand _ _ _ _ rfl) (tr_wf _ _) ?_
                  rintro v r' ⟨rfl, rfl⟩ _
                  refine rn1 (jn @tr.eq_1 (jn @tpC.eq_1 (jn @hi (jn @hd @hle)))) ?_
                  (repeat (refine And.intro (by omega) ?_))
                  refine HO_lend ty_ok (kQ) (rfl) rfl rfl rfl (by kernel_rfl) ⟨BwA.ptr0 rfl rfl, BwA.val (.refl _) rfl, trivial⟩ ?_
                  refine rn0 ?_
                  refine ⟨[0,1,2,0], [], ?_⟩
                  exact ft1 (jn @tdB.eq_1 (jn @tdS.eq_1 (jn @tdR0.eq_1 (jn @tdR3.eq_1 (jn @tdR5.eq_1 @tpC.eq_1)))))
                · simp only [addAt]
                  refine HV_order [] ty_ok (0 :: 1 :: 2 :: 3 :: 4 :: 6 :: 7 :: 8 :: 9 :: 10 :: 5 :: 11 :: 12 :: 13 :: 14 :: 16 :: 17 :: 18 :: 15 :: 19 :: 20 :: 21 :: 22 :: 23 :: 24 :: 25 :: 26 :: 27 :: 28 :: 29 :: 31 :: 32 :: 33 :: 34 :: 35 :: 30 :: 36 :: 37 :: 38 :: 39 :: []) (by kernel_rfl) rfl _ rfl ?_
                  simp only [opl_nil', opl_cons', oplC_some, List.getElem?_toArray, List.getElem?_cons_zero, List.getElem?_cons_succ]
                  refine rn1 (jn @hi (jn @hd (jn @hle (jn @htk (jn @t1 (jn @t2 (jn @t3 (jn @t4 (jn @t5 @t6))))))))) ?_
                  (repeat (refine And.intro (by omega) ?_))
                  refine HO_callX ty_ok [0] kE (tr_hand _ _ _ _ rfl) (tr_wf _ _) ?_
                  rintro v r' ⟨rfl, rfl⟩ _
                  refine rn1 (jn @tr.eq_1 (jn @tpC.eq_1 (jn @hi (jn @hd (jn @hle (jn @htk (jn @t1 (jn @t2 (jn @t3 (jn @t4 (jn @t5 @t6))))))))))) ?_
                  (repeat (refine And.intro (by omega) ?_))
                  refine HO_callX ty_ok [1, 2] kR (tl_hand _ _ _ _ rfl rfl) (tl_wf _) ?_
                  rintro v r' ⟨rfl, rfl⟩ _
                  refine rn1 @tl.eq_1 ?_
                  refine HO_callX ty_ok [0] kL (tr_hand _ _ _ _ rfl) (tr_wf _ _) ?_
                  rintro v r' ⟨rfl, rfl⟩ _
                  refine rn1 (jn @tr.eq_1 (jn @tpC.eq_1 (jn @hi (jn @hd @hle)))) ?_
                  (repeat (refine And.intro (by omega) ?_))
                  refine HO_callX ty_ok [0] kP (tr_hand _ _ _ _ rfl) (tr_wf _ _) ?_
                  rintro v r' ⟨rfl, rfl⟩ _
                  refine rn1 (jn @tr.eq_1 (jn @tpC.eq_1 (jn @hi (jn @hd @hle)))) ?_
                  (repeat (refine And.intro (by omega) ?_))
                  refine HO_lend ty_ok (kQ) (rfl) rfl rfl rfl (by kernel_rfl) ⟨BwA.ptr0 rfl rfl, BwA.val (.refl _) rfl, trivial⟩ ?_
                  refine rn0 ?_
                  refine ⟨[0,1,2,0], [], ?_⟩
                  exact ft1 (jn @tdB.eq_1 (jn @tdS.eq_1 (jn @tdR0.eq_1 (jn @tdR3.eq_1 (jn @tdR5.eq_1 @tpC.eq_1)))))
            · simp only [addAt]
              refine HV_split 19 15 (by decide) ?_ ?_
              · simp only [addAt]
                refine HV_split 36 30 (by decide) ?_ ?_
                · simp only [addAt]
                  refine HV_order [] ty_ok (0 :: 1 :: 2 :: 3 :: 4 :: 6 :: 7 :: 8 :: 9 :: 5 :: 10 :: 11 :: 12 :: 13 :: 14 :: 16 :: 17 :: 18 :: 19 :: 20 :: 15 :: 21 :: 22 :: 23 :: 24 :: 25 :: 26 :: 27 :: 28 :: 29 :: 31 :: 32 :: 33 :: 34 :: 35 :: 36 :: 30 :: 37 :: 38 :: 39 :: []) (by kernel_rfl) rfl _ rfl ?_
                  simp only [opl_nil', opl_cons', oplC_some, List.getElem?_toArray, List.getElem?_cons_zero, List.getElem?_cons_succ]
                  refine rn1 (jn @hi (jn @hd (jn @hle (jn @htk (jn @t1 (jn @t2 (jn @t3 (jn @t4 (jn @t5 @t6))))))))) ?_
                  (repeat (refine And.intro (by omega) ?_))
                  refine HO_callX ty_ok [0] kE (tr_hand _ _ _ _ rfl) (tr_wf _ _) ?_
                  rintro v r' ⟨rfl, rfl⟩ _
                  refine rn1 (jn @tr.eq_1 (jn @tpC.eq_1 (jn @hi (jn @hd (jn @hle (jn @htk (jn @t1 (jn @t2 (jn @t3 (jn @t4 (jn @t5 @t6))))))))))) ?_
                  (repeat (refine And.intro (by omega) ?_))
                  refine HO_callX ty_ok [1, 2] kR (tl_hand _ _ _ _ rfl rfl) (tl_wf _) ?_
                  rintro v r' ⟨rfl, rfl⟩ _
                  refine rn1 @tl.eq_1 ?_
                  refine HO_callX ty_ok [0] kL (tr_hand _ _ _ _ rfl) (tr_wf _ _) ?_
                  rintro v r' ⟨rfl, rfl⟩ _
                  refine rn1 (jn @tr.eq_1 (jn @tpC.eq_1 (jn @hi (jn @hd @hle)))) ?_
                  (repeat (refine And.intro (by omega) ?_))
                  refine HO_callX ty_ok [0] kP (tr_hand _ _ _ _ rfl) (tr_wf _ _) ?_
                  rintro v r' ⟨rfl, rfl⟩ _
                  refine rn1 (jn @tr.eq_1 (jn @tpC.eq_1 (jn @hi (jn @hd @hle)))) ?_
                  (repeat (refine And.intro (by omega) ?_))
                  refine HO_lend ty_ok (kQ) (rfl) rfl rfl rfl (by kernel_rfl) ⟨BwA.ptr0 rfl rfl, BwA.val (.refl _) rfl, trivial⟩ ?_
                  refine rn0 ?_
                  refine ⟨[0,1,2,0], [], ?_⟩
                  exact ft1 (jn @tdB.eq_1 (jn @tdS.eq_1 (jn @tdR0.eq_1 (jn @tdR3.eq_1 (jn @tdR5.eq_1 @tpC.eq_1)))))
                · simp only [addAt]
                  refine HV_order [] ty_ok (0 :: 1 :: 2 :: 3 :: 4 :: 6 :: 7 :: 8 :: 9 :: 5 :: 10 :: 11 :: 12 :: 13 :: 14 :: 16 :: 17 :: 18 :: 19 :: 20 :: 15 :: 21 :: 22 :: 23 :: 24 :: 25 :: 26 :: 27 :: 28 :: 29 :: 31 :: 32 :: 33 :: 34 :: 35 :: 30 :: 36 :: 37 :: 38 :: 39 :: []) (by kernel_rfl) rfl _ rfl ?_
                  simp only [opl_nil', opl_cons', oplC_some, List.getElem?_toArray, List.getElem?_cons_zero, List.getElem?_cons_succ]
                  refine rn1 (jn @hi (jn @hd (jn @hle (jn @htk (jn @t1 (jn @t2 (jn @t3 (jn @t4 (jn @t5 @t6))))))))) ?_
                  (repeat (refine And.intro (by omega) ?_))
                  refine HO_callX ty_ok [0] kE (tr_hand _ _ _ _ rfl) (tr_wf _ _) ?_
                  rintro v r' ⟨rfl, rfl⟩ _
                  refine rn1 (jn @tr.eq_1 (jn @tpC.eq_1 (jn @hi (jn @hd (jn @hle (jn @htk (jn @t1 (jn @t2 (jn @t3 (jn @t4 (jn @t5 @t6))))))))))) ?_
                  (repeat (refine And.intro (by omega) ?_))
                  refine HO_callX ty_ok [1, 2] kR (tl_hand _ _ _ _ rfl rfl) (tl_wf _) ?_
                  rintro v r' ⟨rfl, rfl⟩ _
                  refine rn1 @tl.eq_1 ?_
                  refine HO_callX ty_ok [0] kL (tr_hand _ _ _ _ rfl) (tr_wf _ _) ?_
                  rintro v r' ⟨rfl, rfl⟩ _
                  refine rn1 (jn @tr.eq_1 (jn @tpC.eq_1 (jn @hi (jn @hd @hle)))) ?_
                  (repeat (refine And.intro (by omega) ?_))
                  refine HO_callX ty_ok [0] kP (tr_hand _ _ _ _ rfl) (tr_wf _ _) ?_
                  rintro v r' ⟨rfl, rfl⟩ _
                  refine rn1 (jn @tr.eq_1 (jn @tpC.eq_1 (jn @hi (jn @hd @hle)))) ?_
                  (repeat (refine And.intro (by omega) ?_))
                  refine HO_lend ty_ok (kQ) (rfl) rfl rfl rfl (by kernel_rfl) ⟨BwA.ptr0 rfl rfl, BwA.val (.refl _) rfl, trivial⟩ ?_
                  refine rn0 ?_
                  refine ⟨[0,1,2,0], [], ?_⟩
                  exact ft1 (jn @tdB.eq_1 (jn @tdS.eq_1 (jn @tdR0.eq_1 (jn @tdR3.eq_1 (jn @tdR5.eq_1 @tpC.eq_1)))))
              · simp only [addAt]
                refine HV_split 36 30 (by decide) ?_ ?_
                · simp only [addAt]
                  refine HV_order [] ty_ok (0 :: 1 :: 2 :: 3 :: 4 :: 6 :: 7 :: 8 :: 9 :: 5 :: 10 :: 11 :: 12 :: 13 :: 14 :: 16 :: 17 :: 18 :: 15 :: 19 :: 20 :: 21 :: 22 :: 23 :: 24 :: 25 :: 26 :: 27 :: 28 :: 29 :: 31 :: 32 :: 33 :: 34 :: 35 :: 36 :: 30 :: 37 :: 38 :: 39 :: []) (by kernel_rfl) rfl _ rfl ?_
                  simp only [opl_nil', opl_cons', oplC_some, List.getElem?_toArray, List.getElem?_cons_zero, List.getElem?_cons_succ]
                  refine rn1 (jn @hi (jn @hd (jn @hle (jn @htk (jn @t1 (jn @t2 (jn @t3 (jn @t4 (jn @t5 @t6))))))))) ?_
                  (repeat (refine And.intro (by omega) ?_))
                  refine HO_callX ty_ok [0] kE (tr_hand _ _ _ _ rfl) (tr_wf _ _) ?_
                  rintro v r' ⟨rfl, rfl⟩ _
                  refine rn1 (jn @tr.eq_1 (jn @tpC.eq_1 (jn @hi (jn @hd (jn @hle (jn @htk (jn @t1 (jn @t2 (jn @t3 (jn @t4 (jn @t5 @t6))))))))))) ?_
                  (repeat (refine And.intro (by omega) ?_))
                  refine HO_callX ty_ok [1, 2] kR (tl_hand _ _ _ _ rfl rfl) (tl_wf _) ?_
                  rintro v r' ⟨rfl, rfl⟩ _
                  refine rn1 @tl.eq_1 ?_
                  refine HO_callX ty_ok [0] kL (tr_hand _ _ _ _ rfl) (tr_wf _ _) ?_
                  rintro v r' ⟨rfl, rfl⟩ _
                  refine rn1 (jn @tr.eq_1 (jn @tpC.eq_1 (jn @hi (jn @hd @hle)))) ?_
                  (repeat (refine And.intro (by omega) ?_))
                  refine HO_callX ty_ok [0] kP (tr_hand _ _ _ _ rfl) (tr_wf _ _) ?_
                  rintro v r' ⟨rfl, rfl⟩ _
                  refine rn1 (jn @tr.eq_1 (jn @tpC.eq_1 (jn @hi (jn @hd @hle)))) ?_
                  (repeat (refine And.intro (by omega) ?_))
                  refine HO_lend ty_ok (kQ) (rfl) rfl rfl rfl (by kernel_rfl) ⟨BwA.ptr0 rfl rfl, BwA.val (.refl _) rfl, trivial⟩ ?_
                  refine rn0 ?_
                  refine ⟨[0,1,2,0], [], ?_⟩
                  exact ft1 (jn @tdB.eq_1 (jn @tdS.eq_1 (jn @tdR0.eq_1 (jn @tdR3.eq_1 (jn @tdR5.eq_1 @tpC.eq_1)))))
                · simp only [addAt]
                  refine HV_order [] ty_ok (0 :: 1 :: 2 :: 3 :: 4 :: 6 :: 7 :: 8 :: 9 :: 5 :: 10 :: 11 :: 12 :: 13 :: 14 :: 16 :: 17 :: 18 :: 15 :: 19 :: 20 :: 21 :: 22 :: 23 :: 24 :: 25 :: 26 :: 27 :: 28 :: 29 :: 31 :: 32 :: 33 :: 34 :: 35 :: 30 :: 36 :: 37 :: 38 :: 39 :: []) (by kernel_rfl) rfl _ rfl ?_
                  simp only [opl_nil', opl_cons', oplC_some, List.getElem?_toArray, List.getElem?_cons_zero, List.getElem?_cons_succ]
                  refine rn1 (jn @hi (jn @hd (jn @hle (jn @htk (jn @t1 (jn @t2 (jn @t3 (jn @t4 (jn @t5 @t6))))))))) ?_
                  (repeat (refine And.intro (by omega) ?_))
                  refine HO_callX ty_ok [0] kE (tr_hand _ _ _ _ rfl) (tr_wf _ _) ?_
                  rintro v r' ⟨rfl, rfl⟩ _
                  refine rn1 (jn @tr.eq_1 (jn @tpC.eq_1 (jn @hi (jn @hd (jn @hle (jn @htk (jn @t1 (jn @t2 (jn @t3 (jn @t4 (jn @t5 @t6))))))))))) ?_
                  (repeat (refine And.intro (by omega) ?_))
                  refine HO_callX ty_ok [1, 2] kR (tl_hand _ _ _ _ rfl rfl) (tl_wf _) ?_
                  rintro v r' ⟨rfl, rfl⟩ _
                  refine rn1 @tl.eq_1 ?_
                  refine HO_callX ty_ok [0] kL (tr_hand _ _ _ _ rfl) (tr_wf _ _) ?_
                  rintro v r' ⟨rfl, rfl⟩ _
                  refine rn1 (jn @tr.eq_1 (jn @tpC.eq_1 (jn @hi (jn @hd @hle)))) ?_
                  (repeat (refine And.intro (by omega) ?_))
                  refine HO_callX ty_ok [0] kP (tr_hand _ _ _ _ rfl) (tr_wf _ _) ?_
                  rintro v r' ⟨rfl, rfl⟩ _
                  refine rn1 (jn @tr.eq_1 (jn @tpC.eq_1 (jn @hi (jn @hd @hle)))) ?_
                  (repeat (refine And.intro (by omega) ?_))
                  refine HO_lend ty_ok (kQ) (rfl) rfl rfl rfl (by kernel_rfl) ⟨BwA.ptr0 rfl rfl, BwA.val (.refl _) rfl, trivial⟩ ?_
                  refine rn0 ?_
                  refine ⟨[0,1,2,0], [], ?_⟩
                  exact ft1 (jn @tdB.eq_1 (jn @tdS.eq_1 (jn @tdR0.eq_1 (jn @tdR3.eq_1 (jn @tdR5.eq_1 @tpC.eq_1)))))
          · skip
            refine rn1 (jn @tdB.eq_1 (jn @tdS.eq_1 (jn @tdR0.eq_1 (jn @tpC.eq_1 (jn @hi (jn @hd @hle)))))) ?_
            (repeat (refine And.intro (by omega) ?_))
            refine HO_callX ty_ok [0] kG (tr_hand _ _ _ _ rfl) (tr_wf _ _) ?_
            rintro v r' ⟨rfl, rfl⟩ _
            refine rn1 (jn @tr.eq_1 (jn @tpC.eq_1 (jn @hi (jn @hd (jn @hle (jn @u1 (jn @u2 (jn @u3 (jn @u4 (jn @u5 (jn @u6 @tA_allD))))))))))) ?_
            (repeat (refine And.intro (by omega) ?_))
            refine HO_lend ty_ok (kQ) (rfl) rfl rfl rfl (by kernel_rfl) ⟨BwA.ptr0 rfl rfl, BwA.val (.refl _) rfl, trivial⟩ ?_
            cases hq : hasT (leL L x) x.f with
            | false =>
              rw [hno hq]
              refine rn1 (jn @u1 (jn @u2 (jn @u3 (jn @u4 (jn @u5 (jn @u6 @tA_allD)))))) ?_
              refine HC_plan [] ty_ok mix (by kernel_rfl) ?_
              refine rn0 ?_
              refine ⟨(i + 1, false), hin, by simp only; omega, [0,1,2,0], [], ?_⟩
              rw [hrz1, e4]
              exact ft1 (jn @tdS.eq_1 (jn @tdR0.eq_1 (jn @tdR3.eq_1 @tpC.eq_1)))
            | true =>
              obtain ⟨k, hk, g1, g2, g3⟩ := hgt hq
              have hkI : (k : Int) < (leL L x).length := by omega
              have hd2 := flE_drop hL2 k hk
              have hle2 := flE_len hL2
              rw [← g3] at hd2
              have htk2 : (bD y.tg ++ flE ((leL L x).drop (k + 1))).take 32 = bD y.tg := by rw [← u2]; exact List.take_left
              have kS := rsameE_ac y y hogt hogt
              rw [decide_eq_true rfl] at kS
              simp only [entE, fctE, List.cons_append, List.nil_append] at hd2 kS
              rw [g1]
              refine rn1 (jn @u1 (jn @u2 (jn @u3 (jn @u4 (jn @u5 (jn @u6 @tA_allD)))))) ?_
              refine HC_plan [] ty_ok mix (by kernel_rfl) ?_
              refine rn1 (jn @hkI (jn @hd2 (jn @hle2 (jn @htk2 (jn @u1 (jn @u2 (jn @u3 (jn @u4 (jn @u5 (jn @u6 @tA_allD)))))))))) ?_
              (repeat (refine And.intro (by omega) ?_))
              refine HO_pureA ty_ok kS ?_
              refine rn0 ?_
              refine ⟨(i + 1, false), hin, by simp only; omega, [0,1,2,0], [], ?_⟩
              rw [hrz1, e4]
              exact ft1 (jn @tdS.eq_1 (jn @tdR0.eq_1 (jn @tdR3.eq_1 (jn @tpC.eq_1 @hle2))))
    | true =>
      show R _ _ _ _ _ _ ⟨fun _ => AV.top, tdS l cl i 3, tdR3 L O⟩
      have hcl : ¬ (i : Int) = cl := by have := hci rfl; omega
      have hin : tdI l cl (i + 1, true) := ⟨by simp only; omega, fun _ => by have := hci rfl; simp only; omega⟩
      refine rn1 (jn @tdS.eq_1 (jn @tdR3.eq_1 (jn @tpC.eq_1 (jn @hi (jn @hcl (jn @hd (jn @hle (jn @htk (jn @t1 (jn @t2 (jn @t3 (jn @t4 (jn @t5 @t6))))))))))))) ?_
      (repeat (refine And.intro (by omega) ?_))
      refine HO_pureA ty_ok kn ?_
      have e4 : tdSz l cl (i + 1, true) = tdS l cl (i + 1) 3 := rfl
      cases hnm : named x with
      | false =>
        have e1 : leL L x = L := by rw [leL, if_neg (by rw [hnm]; decide)]
        have e2 : leO L O x = O := by rw [leO, if_neg (by rw [hnm]; decide)]
        refine rn0 ?_
        refine ⟨(i + 1, true), hin, by simp only; omega, [0,1,2,3], [], ?_⟩
        rw [hrz1, e1, e2, e4, cond_true]
        exact ft1 (jn @tdS.eq_1 (jn @tdR0.eq_1 (jn @tdR3.eq_1 (jn @tdR5.eq_1 @tpC.eq_1))))
      | true =>
        have e1 : leV L x = errT L x := by rw [leV, if_pos hnm]
        have e2 : rL L x = leL L x := by rw [leL, if_pos hnm]
        rw [e1] at kE
        rw [e2] at kR
        refine rn0 ?_
        refine HC_fitR (tdS l cl i 3) (tdR3 L O) [0,1,2,3] [] ?_ ?_
        · exact ft1 (jn @tdS.eq_1 (jn @tdR0.eq_1 (jn @tdR3.eq_1 (jn @tdR5.eq_1 @tpC.eq_1))))
        refine HC_cutR (tdB l cl i 3) (tdR3 (leL L x) (leO L O x)) ?_ ?_
        · refine rn1 (jn @tdS.eq_1 (jn @tdR3.eq_1 @tpC.eq_1)) ?_
          refine HC_of_HV mix ?_
          refine HV_split 10 5 (by decide) ?_ ?_
          · simp only [addAt]
            refine HV_split 19 15 (by decide) ?_ ?_
            · simp only [addAt]
              refine HV_split 36 30 (by decide) ?_ ?_
              · simp only [addAt]
                refine HV_order [] ty_ok (0 :: 1 :: 2 :: 3 :: 4 :: 6 :: 7 :: 8 :: 9 :: 10 :: 5 :: 11 :: 12 :: 13 :: 14 :: 16 :: 17 :: 18 :: 19 :: 20 :: 15 :: 21 :: 22 :: 23 :: 24 :: 25 :: 26 :: 27 :: 28 :: 29 :: 31 :: 32 :: 33 :: 34 :: 35 :: 36 :: 30 :: 37 :: 38 :: 39 :: []) (by kernel_rfl) rfl _ rfl ?_
                simp only [opl_nil', opl_cons', oplC_some, List.getElem?_toArray, List.getElem?_cons_zero, List.getElem?_cons_succ]
                refine rn1 (jn @hi (jn @hd (jn @hle (jn @htk (jn @t1 (jn @t2 (jn @t3 (jn @t4 (jn @t5 @t6))))))))) ?_
                (repeat (refine And.intro (by omega) ?_))
                refine HO_callX ty_ok [3] kE (tr_hand _ _ _ _ rfl) (tr_wf _ _) ?_
                rintro v r' ⟨rfl, rfl⟩ _
                refine rn1 (jn @tr.eq_1 (jn @tpC.eq_1 (jn @hi (jn @hd (jn @hle (jn @htk (jn @t1 (jn @t2 (jn @t3 (jn @t4 (jn @t5 @t6))))))))))) ?_
                (repeat (refine And.intro (by omega) ?_))
                refine HO_callX ty_ok [1, 2] kR (tl_hand _ _ _ _ rfl rfl) (tl_wf _) ?_
                rintro v r' ⟨rfl, rfl⟩ _
                refine rn1 @tl.eq_1 ?_
                refine HO_callX ty_ok [3] kL (tr_hand _ _ _ _ rfl) (tr_wf _ _) ?_
                rintro v r' ⟨rfl, rfl⟩ _
                refine rn1 (jn @tr.eq_1 (jn @tpC.eq_1 (jn @hi (jn @hd @hle)))) ?_
                (repeat (refine And.intro (by omega) ?_))
                refine HO_callX ty_ok [3] kP (tr_hand _ _ _ _ rfl) (tr_wf _ _) ?_
                rintro v r' ⟨rfl, rfl⟩ _
                refine rn1 (jn @tr.eq_1 (jn @tpC.eq_1 (jn @hi (jn @hd @hle)))) ?_
                (repeat (refine And.intro (by omega) ?_))
                refine HO_lend ty_ok (kQ) (rfl) rfl rfl rfl (by kernel_rfl) ⟨BwA.ptr0 rfl rfl, BwA.val (.refl _) rfl, trivial⟩ ?_
                refine rn0 ?_
                refine ⟨[0,1,2,3], [], ?_⟩
                exact ft1 (jn @tdB.eq_1 (jn @tdS.eq_1 (jn @tdR0.eq_1 (jn @tdR3.eq_1 (jn @tdR5.eq_1 @tpC.eq_1)))))
              · simp only [addAt]
                refine HV_order [] ty_ok (0 :: 1 :: 2 :: 3 :: 4 :: 6 :: 7 :: 8 :: 9 :: 10 :: 5 :: 11 :: 12 :: 13 :: 14 :: 16 :: 17 :: 18 :: 19 :: 20 :: 15 :: 21 :: 22 :: 23 :: 24 :: 25 :: 26 :: 27 :: 28 :: 29 :: 31 :: 32 :: 33 :: 34 :: 35 :: 30 :: 36 :: 37 :: 38 :: 39 :: []) (by kernel_rfl) rfl _ rfl ?_
                simp only [opl_nil', opl_cons', oplC_some, List.getElem?_toArray, List.getElem?_cons_zero, List.getElem?_cons_succ]
                refine rn1 (jn @hi (jn @hd (jn @hle (jn @htk (jn @t1 (jn @t2 (jn @t3 (jn @t4 (jn @t5 @t6))))))))) ?_
                (repeat (refine And.intro (by omega) ?_))
                refine HO_callX ty_ok [3] kE (tr_hand _ _ _ _ rfl) (tr_wf _ _) ?_
                rintro v r' ⟨rfl, rfl⟩ _
                refine rn1 (jn @tr.eq_1 (jn @tpC.eq_1 (jn @hi (jn @hd (jn @hle (jn @htk (jn @t1 (jn @t2 (jn @t3 (jn @t4 (jn @t5 @t6))))))))))) ?_
                (repeat (refine And.intro (by omega) ?_))
                refine HO_callX ty_ok [1, 2] kR (tl_hand _ _ _ _ rfl rfl) (tl_wf _) ?_
                rintro v r' ⟨rfl, rfl⟩ _
                refine rn1 @tl.eq_1 ?_
                refine HO_callX ty_ok [3] kL (tr_hand _ _ _ _ rfl) (tr_wf _ _) ?_
                rintro v r' ⟨rfl, rfl⟩ _
                refine rn1 (jn @tr.eq_1 (jn @tpC.eq_1 (jn @hi (jn @hd @hle)))) ?_
                (repeat (refine And.intro (by omega) ?_))
                refine HO_callX ty_ok [3] kP (tr_hand _ _ _ _ rfl) (tr_wf _ _) ?_
                rintro v r' ⟨rfl, rfl⟩ _
                refine rn1 (jn @tr.eq_1 (jn @tpC.eq_1 (jn @hi (jn @hd @hle)))) ?_
                (repeat (refine And.intro (by omega) ?_))
                refine HO_lend ty_ok (kQ) (rfl) rfl rfl rfl (by kernel_rfl) ⟨BwA.ptr0 rfl rfl, BwA.val (.refl _) rfl, trivial⟩ ?_
                refine rn0 ?_
                refine ⟨[0,1,2,3], [], ?_⟩
                exact ft1 (jn @tdB.eq_1 (jn @tdS.eq_1 (jn @tdR0.eq_1 (jn @tdR3.eq_1 (jn @tdR5.eq_1 @tpC.eq_1)))))
            · simp only [addAt]
              refine HV_split 36 30 (by decide) ?_ ?_
              · simp only [addAt]
                refine HV_order [] ty_ok (0 :: 1 :: 2 :: 3 :: 4 :: 6 :: 7 :: 8 :: 9 :: 10 :: 5 :: 11 :: 12 :: 13 :: 14 :: 16 :: 17 :: 18 :: 15 :: 19 :: 20 :: 21 :: 22 :: 23 :: 24 :: 25 :: 26 :: 27 :: 28 :: 29 :: 31 :: 32 :: 33 :: 34 :: 35 :: 36 :: 30 :: 37 :: 38 :: 39 :: []) (by kernel_rfl) rfl _ rfl ?_
                simp only [opl_nil', opl_cons', oplC_some, List.getElem?_toArray, List.getElem?_cons_zero, List.getElem?_cons_succ]
                refine rn1 (jn @hi (jn @hd (jn @hle (jn @htk (jn @t1 (jn @t2 (jn @t3 (jn @t4 (jn @t5 @t6))))))))) ?_
                (repeat (refine And.intro (by omega) ?_))
                refine HO_callX ty_ok [3] kE (tr_hand _ _ _ _ rfl) (tr_wf _ _) ?_
                rintro v r' ⟨rfl, rfl⟩ _
                refine rn1 (jn @tr.eq_1 (jn @tpC.eq_1 (jn @hi (jn @hd (jn @hle (jn @htk (jn @t1 (jn @t2 (jn @t3 (jn @t4 (jn @t5 @t6))))))))))) ?_
                (repeat (refine And.intro (by omega) ?_))
                refine HO_callX ty_ok [1, 2] kR (tl_hand _ _ _ _ rfl rfl) (tl_wf _) ?_
                rintro v r' ⟨rfl, rfl⟩ _
                refine rn1 @tl.eq_1 ?_
                refine HO_callX ty_ok [3] kL (tr_hand _ _ _ _ rfl) (tr_wf _ _) ?_
                rintro v r' ⟨rfl, rfl⟩ _
                refine rn1 (jn @tr.eq_1 (jn @tpC.eq_1 (jn @hi (jn @hd @hle)))) ?_
                (repeat (refine And.intro (by omega) ?_))
                refine HO_callX ty_ok [3] kP (tr_hand _ _ _ _ rfl) (tr_wf _ _) ?_
                rintro v r' ⟨rfl, rfl⟩ _
                refine rn1 (jn @tr.eq_1 (jn @tpC.eq_1 (jn @hi (jn @hd @hle)))) ?_
                (repeat (refine And.intro (by omega) ?_))
                refine HO_lend ty_ok (kQ) (rfl) rfl rfl rfl (by kernel_rfl) ⟨BwA.ptr0 rfl rfl, BwA.val (.refl _) rfl, trivial⟩ ?_
                refine rn0 ?_
                refine ⟨[0,1,2,3], [], ?_⟩
                exact ft1 (jn @tdB.eq_1 (jn @tdS.eq_1 (jn @tdR0.eq_1 (jn @tdR3.eq_1 (jn @tdR5.eq_1 @tpC.eq_1)))))
              · simp only [addAt]
                refine HV_order [] ty_ok (0 :: 1 :: 2 :: 3 :: 4 :: 6 :: 7 :: 8 :: 9 :: 10 :: 5 :: 11 :: 12 :: 13 :: 14 :: 16 :: 17 :: 18 :: 15 :: 19 :: 20 :: 21 :: 22 :: 23 :: 24 :: 25 :: 26 :: 27 :: 28 :: 29 :: 31 :: 32 :: 33 :: 34 :: 35 :: 30 :: 36 :: 37 :: 38 :: 39 :: []) (by kernel_rfl) rfl _ rfl ?_
                simp only [opl_nil', opl_cons', oplC_some, List.getElem?_toArray, List.getElem?_cons_zero, List.getElem?_cons_succ]
                refine rn1 (jn @hi (jn @hd (jn @hle (jn @htk (jn @t1 (jn @t2 (jn @t3 (jn @t4 (jn @t5 @t6))))))))) ?_
                (repeat (refine And.intro (by omega) ?_))
                refine HO_callX ty_ok [3] kE (tr_hand _ _ _ _ rfl) (tr_wf _ _) ?_
                rintro v r' ⟨rfl, rfl⟩ _
                refine rn1 (jn @tr.eq_1 (jn @tpC.eq_1 (jn @hi (jn @hd (jn @hle (jn @htk (jn @t1 (jn @t2 (jn @t3 (jn @t4 (jn @t5 @t6))))))))))) ?_
                (repeat (refine And.intro (by omega) ?_))
                refine HO_callX ty_ok [1, 2] kR (tl_hand _ _ _ _ rfl rfl) (tl_wf _) ?_
                rintro v r' ⟨rfl, rfl⟩ _
                refine rn1 @tl.eq_1 ?_
                refine HO_callX ty_ok [3] kL (tr_hand _ _ _ _ rfl) (tr_wf _ _) ?_
                rintro v r' ⟨rfl, rfl⟩ _
                refine rn1 (jn @tr.eq_1 (jn @tpC.eq_1 (jn @hi (jn @hd @hle)))) ?_
                (repeat (refine And.intro (by omega) ?_))
                refine HO_callX ty_ok [3] kP (tr_hand _ _ _ _ rfl) (tr_wf _ _) ?_
                rintro v r' ⟨rfl, rfl⟩ _
                refine rn1 (jn @tr.eq_1 (jn @tpC.eq_1 (jn @hi (jn @hd @hle)))) ?_
                (repeat (refine And.intro (by omega) ?_))
                refine HO_lend ty_ok (kQ) (rfl) rfl rfl rfl (by kernel_rfl) ⟨BwA.ptr0 rfl rfl, BwA.val (.refl _) rfl, trivial⟩ ?_
                refine rn0 ?_
                refine ⟨[0,1,2,3], [], ?_⟩
                exact ft1 (jn @tdB.eq_1 (jn @tdS.eq_1 (jn @tdR0.eq_1 (jn @tdR3.eq_1 (jn @tdR5.eq_1 @tpC.eq_1)))))
          · simp only [addAt]
            refine HV_split 19 15 (by decide) ?_ ?_
            · simp only [addAt]
              refine HV_split 36 30 (by decide) ?_ ?_
              · simp only [addAt]
                refine HV_order [] ty_ok (0 :: 1 :: 2 :: 3 :: 4 :: 6 :: 7 :: 8 :: 9 :: 5 :: 10 :: 11 :: 12 :: 13 :: 14 :: 16 :: 17 :: 18 :: 19 :: 20 :: 15 :: 21 :: 22 :: 23 :: 24 :: 25 :: 26 :: 27 :: 28 :: 29 :: 31 :: 32 :: 33 :: 34 :: 35 :: 36 :: 30 :: 37 :: 38 :: 39 :: []) (by kernel_rfl) rfl _ rfl ?_
                simp only [opl_nil', opl_cons', oplC_some, List.getElem?_toArray, List.getElem?_cons_zero, List.getElem?_cons_succ]
                refine rn1 (jn @hi (jn @hd (jn @hle (jn @htk (jn @t1 (jn @t2 (jn @t3 (jn @t4 (jn @t5 @t6))))))))) ?_
                (repeat (refine And.intro (by omega) ?_))
                refine HO_callX ty_ok [3] kE (tr_hand _ _ _ _ rfl) (tr_wf _ _) ?_
                rintro v r' ⟨rfl, rfl⟩ _
                refine rn1 (jn @tr.eq_1 (jn @tpC.eq_1 (jn @hi (jn @hd (jn @hle (jn @htk (jn @t1 (jn @t2 (jn @t3 (jn @t4 (jn @t5 @t6))))))))))) ?_
                (repeat (refine And.intro (by omega) ?_))
                refine HO_callX ty_ok [1, 2] kR (tl_hand _ _ _ _ rfl rfl) (tl_wf _) ?_
                rintro v r' ⟨rfl, rfl⟩ _
                refine rn1 @tl.eq_1 ?_
                refine HO_callX ty_ok [3] kL (tr_hand _ _ _ _ rfl) (tr_wf _ _) ?_
                rintro v r' ⟨rfl, rfl⟩ _
                refine rn1 (jn @tr.eq_1 (jn @tpC.eq_1 (jn @hi (jn @hd @hle)))) ?_
                (repeat (refine And.intro (by omega) ?_))
                refine HO_callX ty_ok [3] kP (tr_hand _ _ _ _ rfl) (tr_wf _ _) ?_
                rintro v r' ⟨rfl, rfl⟩ _
                refine rn1 (jn @tr.eq_1 (jn @tpC.eq_1 (jn @hi (jn @hd @hle)))) ?_
                (repeat (refine And.intro (by omega) ?_))
                refine HO_lend ty_ok (kQ) (rfl) rfl rfl rfl (by kernel_rfl) ⟨BwA.ptr0 rfl rfl, BwA.val (.refl _) rfl, trivial⟩ ?_
                refine rn0 ?_
                refine ⟨[0,1,2,3], [], ?_⟩
                exact ft1 (jn @tdB.eq_1 (jn @tdS.eq_1 (jn @tdR0.eq_1 (jn @tdR3.eq_1 (jn @tdR5.eq_1 @tpC.eq_1)))))
              · simp only [addAt]
                refine HV_order [] ty_ok (0 :: 1 :: 2 :: 3 :: 4 :: 6 :: 7 :: 8 :: 9 :: 5 :: 10 :: 11 :: 12 :: 13 :: 14 :: 16 :: 17 :: 18 :: 19 :: 20 :: 15 :: 21 :: 22 :: 23 :: 24 :: 25 :: 26 :: 27 :: 28 :: 29 :: 31 :: 32 :: 33 :: 34 :: 35 :: 30 :: 36 :: 37 :: 38 :: 39 :: []) (by kernel_rfl) rfl _ rfl ?_
                simp only [opl_nil', opl_cons', oplC_some, List.getElem?_toArray, List.getElem?_cons_zero, List.getElem?_cons_succ]
                refine rn1 (jn @hi (jn @hd (jn @hle (jn @htk (jn @t1 (jn @t2 (jn @t3 (jn @t4 (jn @t5 @t6))))))))) ?_
                (repeat (refine And.intro (by omega) ?_))
                refine HO_callX ty_ok [3] kE (tr_hand _ _ _ _ rfl) (tr_wf _ _) ?_
                rintro v r' ⟨rfl, rfl⟩ _
                refine rn1 (jn @tr.eq_1 (jn @tpC.eq_1 (jn @hi (jn @hd (jn @hle (jn @htk (jn @t1 (jn @t2 (jn @t3 (jn @t4 (jn @t5 @t6))))))))))) ?_
                (repeat (refine And.intro (by omega) ?_))
                refine HO_callX ty_ok [1, 2] kR (tl_hand _ _ _ _ rfl rfl) (tl_wf _) ?_
                rintro v r' ⟨rfl, rfl⟩ _
                refine rn1 @tl.eq_1 ?_
                refine HO_callX ty_ok [3] kL (tr_hand _ _ _ _ rfl) (tr_wf _ _) ?_
                rintro v r' ⟨rfl, rfl⟩ _
                refine rn1 (jn @tr.eq_1 (jn @tpC.eq_1 (jn @hi (jn @hd @hle)))) ?_
                (repeat (refine And.intro (by omega) ?_))
                refine HO_callX ty_ok [3] kP (tr_hand _ _ _ _ rfl) (tr_wf _ _) ?_
                rintro v r' ⟨rfl, rfl⟩ _
                refine rn1 (jn @tr.eq_1 (jn @tpC.eq_1 (jn @hi (jn @hd @hle)))) ?_
                (repeat (refine And.intro (by omega) ?_))
                refine HO_lend ty_ok (kQ) (rfl) rfl rfl rfl (by kernel_rfl) ⟨BwA.ptr0 rfl rfl, BwA.val (.refl _) rfl, trivial⟩ ?_
                refine rn0 ?_
                refine ⟨[0,1,2,3], [], ?_⟩
                exact ft1 (jn @tdB.eq_1 (jn @tdS.eq_1 (jn @tdR0.eq_1 (jn @tdR3.eq_1 (jn @tdR5.eq_1 @tpC.eq_1)))))
            · simp only [addAt]
              refine HV_split 36 30 (by decide) ?_ ?_
              · simp only [addAt]
                refine HV_order [] ty_ok (0 :: 1 :: 2 :: 3 :: 4 :: 6 :: 7 :: 8 :: 9 :: 5 :: 10 :: 11 :: 12 :: 13 :: 14 :: 16 :: 17 :: 18 :: 15 :: 19 :: 20 :: 21 :: 22 :: 23 :: 24 :: 25 :: 26 :: 27 :: 28 :: 29 :: 31 :: 32 :: 33 :: 34 :: 35 :: 36 :: 30 :: 37 :: 38 :: 39 :: []) (by kernel_rfl) rfl _ rfl ?_
                simp only [opl_nil', opl_cons', oplC_some, List.getElem?_toArray, List.getElem?_cons_zero, List.getElem?_cons_succ]
                refine rn1 (jn @hi (jn @hd (jn @hle (jn @htk (jn @t1 (jn @t2 (jn @t3 (jn @t4 (jn @t5 @t6))))))))) ?_
                (repeat (refine And.intro (by omega) ?_))
                refine HO_callX ty_ok [3] kE (tr_hand _ _ _ _ rfl) (tr_wf _ _) ?_
                rintro v r' ⟨rfl, rfl⟩ _
                refine rn1 (jn @tr.eq_1 (jn @tpC.eq_1 (jn @hi (jn @hd (jn @hle (jn @htk (jn @t1 (jn @t2 (jn @t3 (jn @t4 (jn @t5 @t6))))))))))) ?_
                (repeat (refine And.intro (by omega) ?_))
                refine HO_callX ty_ok [1, 2] kR (tl_hand _ _ _ _ rfl rfl) (tl_wf _) ?_
                rintro v r' ⟨rfl, rfl⟩ _
                refine rn1 @tl.eq_1 ?_
                refine HO_callX ty_ok [3] kL (tr_hand _ _ _ _ rfl) (tr_wf _ _) ?_
                rintro v r' ⟨rfl, rfl⟩ _
                refine rn1 (jn @tr.eq_1 (jn @tpC.eq_1 (jn @hi (jn @hd @hle)))) ?_
                (repeat (refine And.intro (by omega) ?_))
                refine HO_callX ty_ok [3] kP (tr_hand _ _ _ _ rfl) (tr_wf _ _) ?_
                rintro v r' ⟨rfl, rfl⟩ _
                refine rn1 (jn @tr.eq_1 (jn @tpC.eq_1 (jn @hi (jn @hd @hle)))) ?_
                (repeat (refine And.intro (by omega) ?_))
                refine HO_lend ty_ok (kQ) (rfl) rfl rfl rfl (by kernel_rfl) ⟨BwA.ptr0 rfl rfl, BwA.val (.refl _) rfl, trivial⟩ ?_
                refine rn0 ?_
                refine ⟨[0,1,2,3], [], ?_⟩
                exact ft1 (jn @tdB.eq_1 (jn @tdS.eq_1 (jn @tdR0.eq_1 (jn @tdR3.eq_1 (jn @tdR5.eq_1 @tpC.eq_1)))))
              · simp only [addAt]
                refine HV_order [] ty_ok (0 :: 1 :: 2 :: 3 :: 4 :: 6 :: 7 :: 8 :: 9 :: 5 :: 10 :: 11 :: 12 :: 13 :: 14 :: 16 :: 17 :: 18 :: 15 :: 19 :: 20 :: 21 :: 22 :: 23 :: 24 :: 25 :: 26 :: 27 :: 28 :: 29 :: 31 :: 32 :: 33 :: 34 :: 35 :: 30 :: 36 :: 37 :: 38 :: 39 :: []) (by kernel_rfl) rfl _ rfl ?_
                simp only [opl_nil', opl_cons', oplC_some, List.getElem?_toArray, List.getElem?_cons_zero, List.getElem?_cons_succ]
                refine rn1 (jn @hi (jn @hd (jn @hle (jn @htk (jn @t1 (jn @t2 (jn @t3 (jn @t4 (jn @t5 @t6))))))))) ?_
                (repeat (refine And.intro (by omega) ?_))
                refine HO_callX ty_ok [3] kE (tr_hand _ _ _ _ rfl) (tr_wf _ _) ?_
                rintro v r' ⟨rfl, rfl⟩ _
                refine rn1 (jn @tr.eq_1 (jn @tpC.eq_1 (jn @hi (jn @hd (jn @hle (jn @htk (jn @t1 (jn @t2 (jn @t3 (jn @t4 (jn @t5 @t6))))))))))) ?_
                (repeat (refine And.intro (by omega) ?_))
                refine HO_callX ty_ok [1, 2] kR (tl_hand _ _ _ _ rfl rfl) (tl_wf _) ?_
                rintro v r' ⟨rfl, rfl⟩ _
                refine rn1 @tl.eq_1 ?_
                refine HO_callX ty_ok [3] kL (tr_hand _ _ _ _ rfl) (tr_wf _ _) ?_
                rintro v r' ⟨rfl, rfl⟩ _
                refine rn1 (jn @tr.eq_1 (jn @tpC.eq_1 (jn @hi (jn @hd @hle)))) ?_
                (repeat (refine And.intro (by omega) ?_))
                refine HO_callX ty_ok [3] kP (tr_hand _ _ _ _ rfl) (tr_wf _ _) ?_
                rintro v r' ⟨rfl, rfl⟩ _
                refine rn1 (jn @tr.eq_1 (jn @tpC.eq_1 (jn @hi (jn @hd @hle)))) ?_
                (repeat (refine And.intro (by omega) ?_))
                refine HO_lend ty_ok (kQ) (rfl) rfl rfl rfl (by kernel_rfl) ⟨BwA.ptr0 rfl rfl, BwA.val (.refl _) rfl, trivial⟩ ?_
                refine rn0 ?_
                refine ⟨[0,1,2,3], [], ?_⟩
                exact ft1 (jn @tdB.eq_1 (jn @tdS.eq_1 (jn @tdR0.eq_1 (jn @tdR3.eq_1 (jn @tdR5.eq_1 @tpC.eq_1)))))
        · skip
          refine rn1 (jn @tdB.eq_1 (jn @tdS.eq_1 (jn @tdR3.eq_1 (jn @tpC.eq_1 (jn @hi (jn @hd @hle)))))) ?_
          (repeat (refine And.intro (by omega) ?_))
          refine HO_callX ty_ok [3] kG (tr_hand _ _ _ _ rfl) (tr_wf _ _) ?_
          rintro v r' ⟨rfl, rfl⟩ _
          refine rn1 (jn @tr.eq_1 (jn @tpC.eq_1 (jn @hi (jn @hd (jn @hle (jn @u1 (jn @u2 (jn @u3 (jn @u4 (jn @u5 (jn @u6 @tA_allD))))))))))) ?_
          (repeat (refine And.intro (by omega) ?_))
          refine HO_lend ty_ok (kQ) (rfl) rfl rfl rfl (by kernel_rfl) ⟨BwA.ptr0 rfl rfl, BwA.val (.refl _) rfl, trivial⟩ ?_
          cases hq : hasT (leL L x) x.f with
          | false =>
            rw [hno hq]
            refine rn1 (jn @u1 (jn @u2 (jn @u3 (jn @u4 (jn @u5 (jn @u6 @tA_allD)))))) ?_
            refine HC_plan [] ty_ok mix (by kernel_rfl) ?_
            refine rn0 ?_
            refine ⟨(i + 1, true), hin, by simp only; omega, [0,1,2,3], [], ?_⟩
            rw [hrz1, e4]
            exact ft1 (jn @tdS.eq_1 (jn @tdR0.eq_1 (jn @tdR3.eq_1 @tpC.eq_1)))
          | true =>
            obtain ⟨k, hk, g1, g2, g3⟩ := hgt hq
            have hkI : (k : Int) < (leL L x).length := by omega
            have hd2 := flE_drop hL2 k hk
            have hle2 := flE_len hL2
            rw [← g3] at hd2
            have htk2 : (bD y.tg ++ flE ((leL L x).drop (k + 1))).take 32 = bD y.tg := by rw [← u2]; exact List.take_left
            have kS := rsameE_ac y y hogt hogt
            rw [decide_eq_true rfl] at kS
            simp only [entE, fctE, List.cons_append, List.nil_append] at hd2 kS
            rw [g1]
            refine rn1 (jn @u1 (jn @u2 (jn @u3 (jn @u4 (jn @u5 (jn @u6 @tA_allD)))))) ?_
            refine HC_plan [] ty_ok mix (by kernel_rfl) ?_
            refine rn1 (jn @hkI (jn @hd2 (jn @hle2 (jn @htk2 (jn @u1 (jn @u2 (jn @u3 (jn @u4 (jn @u5 (jn @u6 @tA_allD)))))))))) ?_
            (repeat (refine And.intro (by omega) ?_))
            refine HO_pureA ty_ok kS ?_
            refine rn0 ?_
            refine ⟨(i + 1, true), hin, by simp only; omega, [0,1,2,3], [], ?_⟩
            rw [hrz1, e4]
            exact ft1 (jn @tdS.eq_1 (jn @tdR0.eq_1 (jn @tdR3.eq_1 (jn @tpC.eq_1 @hle2))))
  · have hi : ¬ (i : Int) < l.length := by omega
    have hiL : i = l.length := by omega
    subst hiL
    have hT := trail_ok hok
    have htl := hT.len
    have hrz : tdRz l (l.length, c) = bif c then tdR3 (trailOf l).1 (trailOf l).2 else tdR0 (trailOf l).1 (trailOf l).2 := by simp only [tdRz, tdP, List.take_length]; rfl
    rw [hrz]
    clear hrz
    generalize trailOf l = p at *
    obtain ⟨L, O⟩ := p
    simp only at htl ⊢
    have hL := hT.okL (by omega)
    simp only at hL
    have ka := allT18_ac L O hL
    have kk := rlikeE_ac L L hL hL
    rw [decide_eq_true rfl] at kk
    cases c with
    | false =>
      show R _ _ _ _ _ _ ⟨fun _ => AV.top, tdS l cl l.length 0, tdR0 L O⟩
      refine rn1 (jn @tdS.eq_1 (jn @tdR0.eq_1 (jn @tpC.eq_1 @hi))) ?_
      refine HC_of_HV mix ?_
      refine HV_split 5 1 (by decide) ?_ ?_
      · simp only [addAt]
        refine HV_order [] ty_ok [0, 2, 3, 4, 5, 1, 6, 7, 8, 9, 10] (by kernel_rfl) rfl _ rfl ?_
        simp only [opl_nil', opl_cons', oplC_some, List.getElem?_toArray, List.getElem?_cons_zero, List.getElem?_cons_succ]
        refine rn1 (jn @tdS.eq_1 (jn @tdR0.eq_1 (jn @tdR3.eq_1 @tpC.eq_1))) ?_
        refine HO_callX ty_ok [0] ka (tr_hand _ _ _ _ rfl) (tr_wf _ _) ?_
        rintro v r' ⟨rfl, rfl⟩ _
        refine rn1 (jn @tr.eq_1 @tpC.eq_1) ?_
        refine HO_pureA ty_ok kk ?_
        refine rn0 ?_
        refine HO_pureA ty_ok tlive_ac ?_
        exact rz0
      · simp only [addAt]
        refine HV_order [] ty_ok [0, 2, 3, 4, 1, 5, 6, 7, 8, 9, 10] (by kernel_rfl) rfl _ rfl ?_
        simp only [opl_nil', opl_cons', oplC_some, List.getElem?_toArray, List.getElem?_cons_zero, List.getElem?_cons_succ]
        refine rn1 (jn @tdS.eq_1 (jn @tdR0.eq_1 (jn @tdR3.eq_1 @tpC.eq_1))) ?_
        refine HO_callX ty_ok [0] ka (tr_hand _ _ _ _ rfl) (tr_wf _ _) ?_
        rintro v r' ⟨rfl, rfl⟩ _
        refine rn1 (jn @tr.eq_1 @tpC.eq_1) ?_
        refine HO_pureA ty_ok kk ?_
        refine rn0 ?_
        refine HO_pureA ty_ok tlive_ac ?_
        exact rz0
    | true =>
      show R _ _ _ _ _ _ ⟨fun _ => AV.top, tdS l cl l.length 3, tdR3 L O⟩
      refine rn1 (jn @tdS.eq_1 (jn @tdR3.eq_1 (jn @tpC.eq_1 @hi))) ?_
      refine HC_of_HV mix ?_
      refine HV_split 5 1 (by decide) ?_ ?_
      · simp only [addAt]
        refine HV_order [] ty_ok [0, 2, 3, 4, 5, 1, 6, 7, 8, 9, 10] (by kernel_rfl) rfl _ rfl ?_
        simp only [opl_nil', opl_cons', oplC_some, List.getElem?_toArray, List.getElem?_cons_zero, List.getElem?_cons_succ]
        refine rn1 (jn @tdS.eq_1 (jn @tdR0.eq_1 (jn @tdR3.eq_1 @tpC.eq_1))) ?_
        refine HO_callX ty_ok [3] ka (tr_hand _ _ _ _ rfl) (tr_wf _ _) ?_
        rintro v r' ⟨rfl, rfl⟩ _
        refine rn1 (jn @tr.eq_1 @tpC.eq_1) ?_
        refine HO_pureA ty_ok kk ?_
        refine rn0 ?_
        refine HO_pureA ty_ok tlive_ac ?_
        exact rz0
      · simp only [addAt]
        refine HV_order [] ty_ok [0, 2, 3, 4, 1, 5, 6, 7, 8, 9, 10] (by kernel_rfl) rfl _ rfl ?_
        simp only [opl_nil', opl_cons', oplC_some, List.getElem?_toArray, List.getElem?_cons_zero, List.getElem?_cons_succ]
        refine rn1 (jn @tdS.eq_1 (jn @tdR0.eq_1 (jn @tdR3.eq_1 @tpC.eq_1))) ?_
        refine HO_callX ty_ok [3] ka (tr_hand _ _ _ _ rfl) (tr_wf _ _) ?_
        rintro v r' ⟨rfl, rfl⟩ _
        refine rn1 (jn @tr.eq_1 @tpC.eq_1) ?_
        refine HO_pureA ty_ok kk ?_
        refine rn0 ?_
        refine HO_pureA ty_ok tlive_ac ?_
        exact rz0
end Go.Proofs.Ythdjblfiiogmgaa
