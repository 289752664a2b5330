import Derived.Test.YtjpjnhljmloofaaDoorCRRing
import Derived.Test.YtjpjnhljmloofaaDoorCRing2
set_option linter.unusedVariables false
set_option linter.unusedSimpArgs false
set_option maxRecDepth 100000
namespace Go.Proofs.YtjpjnhljmloofaaDoor
open Go Go.ChangeShapes Go.WideShapes
set_option maxHeartbeats 400000 in
theorem rsign_ac (n : Int) (l : List ByteArray) (bk : List Pr) (who dom : ByteArray) (b : List UInt8) (h0 : -9223372036854775808 ≤ n) (h1 : n ≤ 9223372036854775807) (hl6 : l.length ≤ 1000) (hbk : bk.length ≤ 100000) (hw0 : who.size ≤ 140737488351500) (hd : dom.size ≤ 140737488352000) (hb0 : b.length ≤ 140737488352000) :
    AC Tryd.prog noG 30 [.ptr 0 0, .d (.c (.string who)), .d (.c (.string dom)), .d (.sl 1 b.length (bD b))] (rq n l bk)
      (fun v r' => v = .tup [.d (.agg (bD (signT n l bk who dom b))), .d (.c (.int .i64 (signE l bk who dom b)))] ∧ r' = rq n l (signB l bk who dom b)) := by
  refine AC.fit ?_
  refine AC_of_R (N := 59) (res := [.cell 8 26, .tmp 9]) ty_ok Tryd.call30 Tryd.func30 rfl rfl rfl (Nat.le_of_ble_eq_true rfl) ?_
  obtain ⟨zl, zb, zt, zm, zsp⟩ := dig32 z32 rfl
  have hz0 : ([UInt8.ofNat 0, UInt8.ofNat 0, UInt8.ofNat 0, UInt8.ofNat 0, UInt8.ofNat 0, UInt8.ofNat 0, UInt8.ofNat 0, UInt8.ofNat 0, UInt8.ofNat 0, UInt8.ofNat 0, UInt8.ofNat 0, UInt8.ofNat 0, UInt8.ofNat 0, UInt8.ofNat 0, UInt8.ofNat 0, UInt8.ofNat 0, UInt8.ofNat 0, UInt8.ofNat 0, UInt8.ofNat 0, UInt8.ofNat 0, UInt8.ofNat 0, UInt8.ofNat 0, UInt8.ofNat 0, UInt8.ofNat 0, UInt8.ofNat 0, UInt8.ofNat 0, UInt8.ofNat 0, UInt8.ofNat 0, UInt8.ofNat 0, UInt8.ofNat 0, UInt8.ofNat 0, UInt8.ofNat 0] : List UInt8) = z32 := rfl
  refine rn1 (jn @rq.eq_1 @rqO.eq_1) ?_
  refine HO_callX ty_ok [0, 1] (ris_ac n l bk who hl6) (rq_hand _ _ _ _ _ _ rfl rfl) (rq_wf _ _ _) ?_
  rintro v r' ⟨rfl, rfl⟩ _
  cases hw : memB who l with
  | false =>
    refine rn1 (jn @rq.eq_1 (jn @rqO.eq_1 (jn @hz0 (jn @zl (jn @zb (jn @zt (jn @zm (jn @zsp @bA_allD)))))))) ?_
    obtain ⟨e1, e3⟩ := signE_out (l := l) (d := dom) (b := b) (bk := bk) hw
    have e2 : signT n l bk who dom b = z32 := by rw [signT, e1, if_neg (by decide)]
    rw [e1, e2, e3]
    clear zsp
    exact fv1 [0,1] [] (jn @rq.eq_1 @rqO.eq_1)
  | true =>
    have hw' : ¬ memB who l = false := by rw [hw]; decide
    by_cases g1 : (b.length : Int) > 65536
    · refine rn1 (jn @rq.eq_1 (jn @rqO.eq_1 (jn @hz0 (jn @zl (jn @zb (jn @zt (jn @zm (jn @zsp (jn @g1 @bA_allD))))))))) ?_
      have e1 : signE l bk who dom b = 3 := by rw [signE, if_neg hw', if_pos (by omega)]
      have e2 : signT n l bk who dom b = z32 := by rw [signT, e1, if_neg (by decide)]
      have e3 : signB l bk who dom b = bk := by rw [signB, e1, if_neg (fun h => absurd h.1 (by decide))]
      rw [e1, e2, e3]
      clear zsp
      exact fv1 [0,1] [] (jn @rq.eq_1 @rqO.eq_1)
    by_cases g2 : (dom.size : Int) + b.length > 65536
    · refine rn1 (jn @rq.eq_1 (jn @rqO.eq_1 (jn @hz0 (jn @zl (jn @zb (jn @zt (jn @zm (jn @zsp (jn @g1 (jn @g2 @bA_allD)))))))))) ?_
      have e1 : signE l bk who dom b = 3 := by rw [signE, if_neg hw', if_pos (by omega)]
      have e2 : signT n l bk who dom b = z32 := by rw [signT, e1, if_neg (by decide)]
      have e3 : signB l bk who dom b = bk := by rw [signB, e1, if_neg (fun h => absurd h.1 (by decide))]
      rw [e1, e2, e3]
      clear zsp
      exact fv1 [0,1] [] (jn @rq.eq_1 @rqO.eq_1)
    refine rn1 (jn @rq.eq_1 (jn @rqO.eq_1 (jn @g1 @g2))) ?_
    refine HO_callX ty_ok [0, 1] (rmade_ac n l bk who dom b hbk) (rq_hand _ _ _ _ _ _ rfl rfl) (rq_wf _ _ _) ?_
    rintro v r' ⟨rfl, rfl⟩ _
    cases hm : memP (pr who dom b) bk with
    | false =>
      by_cases g3 : (bk.length : Int) ≥ 4096
      · refine rn1 (jn @rq.eq_1 (jn @rqO.eq_1 (jn @g3 (jn @hz0 (jn @zl (jn @zb (jn @zt (jn @zm (jn @zsp @bA_allD))))))))) ?_
        have e1 : signE l bk who dom b = 150 := by rw [signE, if_neg hw', if_neg (by omega), if_pos ⟨hm, by omega⟩]
        have e2 : signT n l bk who dom b = z32 := by rw [signT, e1, if_neg (by decide)]
        have e3 : signB l bk who dom b = bk := by rw [signB, e1, if_neg (fun h => absurd h.1 (by decide))]
        rw [e1, e2, e3]
        clear zsp
        exact fv1 [0,1] [] (jn @rq.eq_1 @rqO.eq_1)
      · have e1 : signE l bk who dom b = 0 := by rw [signE, if_neg hw', if_neg (by omega), if_neg (fun h => by omega)]
        have e3 : signB l bk who dom b = bk ++ [pr who dom b] := by rw [signB, e1, if_pos ⟨rfl, hm⟩]
        have e2 : signT n l bk who dom b = rtag n who dom b := by rw [signT, e1, if_pos rfl]
        have hpl := pD_len bk
        obtain ⟨B, hB⟩ : ∃ B, B = bk ++ [pr who dom b] := ⟨_, rfl⟩
        have hBl : B.length = bk.length + 1 := by rw [hB]; simp
        have hpa : pD bk ++ [.c (.string who), .c (.string dom), .c (.string ⟨b.toArray⟩)] = pD B := by rw [hB]; exact pD_app bk (pr who dom b)
        have hq1 : bk.length + 1 = B.length := hBl.symm
        have hq2 : (pD bk).length + 3 = (pD B).length := by rw [pD_len, pD_len, hBl]; omega
        refine rn1 (jn @rq.eq_1 (jn @rqO.eq_1 @g3)) ?_
        refine HC_plan [] ty_ok mix (by kernel_rfl) ?_
        refine rn1 (jn @hpa (jn @hq1 @hq2)) ?_
        clear hq1 hq2
        refine ⟨⟨by omega, by omega⟩, HO_callX ty_ok [0, 1] (rtagr_ac n l B who dom b h0 h1 hw0 (by omega)) (rq_hand _ _ _ _ _ _ rfl rfl) (rq_wf _ _ _) ?_⟩
        rintro v r' ⟨rfl, rfl⟩ _
        obtain ⟨K, hK⟩ : ∃ K, K = rtag n who dom b := ⟨_, rfl⟩
        have hKl : K.length = 32 := by rw [hK, rtag_len]
        rw [← hK] at e2 ⊢
        obtain ⟨hl, hb, ht, hm, hsp⟩ := dig32 K hKl
        refine rn1 (jn @rq.eq_1 (jn @rqO.eq_1 (jn @hm (jn @hl (jn @hb (jn @ht (jn @hsp @bA_allD))))))) ?_
        clear hsp zsp
        rw [e1, e2, e3, ← hB]
        exact fv1 [0,1] [] (jn @rq.eq_1 @rqO.eq_1)
    | true =>
      have hm' : ¬ memP (pr who dom b) bk = false := by rw [hm]; decide
      have e1 : signE l bk who dom b = 0 := by rw [signE, if_neg hw', if_neg (by omega), if_neg (fun h => hm' h.1)]
      have e3 : signB l bk who dom b = bk := by rw [signB, if_neg (fun h => hm' h.2)]
      have e2 : signT n l bk who dom b = rtag n who dom b := by rw [signT, e1, if_pos rfl]
      refine rn1 (jn @rq.eq_1 @rqO.eq_1) ?_
      refine HO_callX ty_ok [0, 1] (rtagr_ac n l bk who dom b h0 h1 hw0 (by omega)) (rq_hand _ _ _ _ _ _ rfl rfl) (rq_wf _ _ _) ?_
      rintro v r' ⟨rfl, rfl⟩ _
      obtain ⟨K, hK⟩ : ∃ K, K = rtag n who dom b := ⟨_, rfl⟩
      have hKl : K.length = 32 := by rw [hK, rtag_len]
      rw [← hK] at e2 ⊢
      obtain ⟨hl, hb, ht, hm, hsp⟩ := dig32 K hKl
      refine rn1 (jn @rq.eq_1 (jn @rqO.eq_1 (jn @hm (jn @hl (jn @hb (jn @ht (jn @hsp @bA_allD))))))) ?_
      clear hsp zsp
      rw [e1, e2, e3]
      exact fv1 [0,1] [] (jn @rq.eq_1 @rqO.eq_1)
set_option maxHeartbeats 400000 in
theorem rverify_ac (n : Int) (l : List ByteArray) (bk : List Pr) (who dom : ByteArray) (b t : List UInt8) (h0 : -9223372036854775808 ≤ n) (h1 : n ≤ 9223372036854775807) (hl6 : l.length ≤ 1000) (hw0 : who.size ≤ 140737488351500) (h : dom.size + b.length ≤ 140737488351000) (h2 : t.length ≤ 140737488352000) :
    AC Tryd.prog noG 32 [.ptr 0 0, .d (.c (.string who)), .d (.c (.string dom)), .d (.sl 1 b.length (bD b)), .d (.sl 1 t.length (bD t))] (rq n l bk) (fun v r' => v = .d (.c (.bool (memB who l && decide (rtag n who dom b = t)))) ∧ r' = rq n l bk) := by
  refine AC.fit ?_
  refine AC_of_R (N := 26) (res := [.tmp 10]) ty_ok Tryd.call32 Tryd.func32 rfl rfl rfl (Nat.le_of_ble_eq_true rfl) ?_
  refine rn1 (jn @rq.eq_1 @rqO.eq_1) ?_
  refine HO_callX ty_ok [0, 1] (ris_ac n l bk who hl6) (rq_hand _ _ _ _ _ _ rfl rfl) (rq_wf _ _ _) ?_
  rintro v r' ⟨rfl, rfl⟩ _
  cases hw : memB who l with
  | false =>
    refine rn1 (jn @rq.eq_1 @rqO.eq_1) ?_
    exact fv0 [0,1] []
  | true =>
    refine rn1 (jn @rq.eq_1 @rqO.eq_1) ?_
    refine HO_callX ty_ok [0, 1] (rtagr_ac n l bk who dom b h0 h1 hw0 h) (rq_hand _ _ _ _ _ _ rfl rfl) (rq_wf _ _ _) ?_
    rintro v r' ⟨rfl, rfl⟩ _
    obtain ⟨K, hK⟩ : ∃ K, K = rtag n who dom b := ⟨_, rfl⟩
    have hKl : K.length = 32 := by rw [hK, rtag_len]
    rw [← hK]
    obtain ⟨hl, hb, ht, hm, hsp⟩ := dig32 K hKl
    have hs : (({ data := K.toArray } : ByteArray) = { data := t.toArray }) = (K = t) := propext ⟨fun h => strB_inj h, fun h => by rw [h]⟩
    refine rn1 (jn @rq.eq_1 (jn @rqO.eq_1 (jn @hm (jn @hl (jn @hb (jn @ht @hsp)))))) ?_
    clear hsp
    refine HC_lay 2 rfl (bA_allD K) ?_
    simp only [fzL, fzA, ↓reduceIte, Nat.reduceEqDiff]
    refine HC_plan [] ty_ok mix (by kernel_rfl) ?_
    have hK32 : K.take 32 = K := List.take_of_length_le (by omega)
    refine rn1 (jn @hK32 @hs) ?_
    refine ⟨⟨by omega, by decide, by decide⟩, ?_⟩
    exact fv0 [0,1] []
end Go.Proofs.YtjpjnhljmloofaaDoor
