import Derived.Test.YtjpjnhljmloofaaDoorCRingLive
set_option linter.unusedVariables false
set_option linter.unusedSimpArgs false
set_option maxRecDepth 100000
namespace Go.Proofs.YtjpjnhljmloofaaDoor
open Go Go.ChangeShapes Go.WideShapes
def pD (l : List Pr) : List D := l.flatMap prD
theorem pD_len : ∀ l : List Pr, (pD l).length = 3 * l.length
  | [] => rfl
  | a :: l => by
    have e : pD (a :: l) = prD a ++ pD l := by rw [pD, List.flatMap_cons]; rfl
    rw [e, List.length_append, pD_len l, List.length_cons, show (prD a).length = 3 from rfl]; omega
theorem pD_drop : ∀ (l : List Pr) (i : Nat) (h : i < l.length), (pD l).drop (i * 3) = prD l[i] ++ pD (l.drop (i + 1))
  | a :: l, 0, h => by simp [pD]
  | a :: l, i + 1, h => by
    have := pD_drop l i (by simpa using h)
    have e : pD (a :: l) = prD a ++ pD l := by rw [pD, List.flatMap_cons]; rfl
    have e3 : (prD a ++ pD l).drop 3 = pD l := by rw [show 3 = (prD a).length from rfl, List.drop_left]
    rw [e, Nat.succ_mul, Nat.add_comm (i * 3) 3, ← List.drop_drop]
    simp only [List.getElem_cons_succ, List.drop_succ_cons]
    rw [e3, this]
theorem pD_app (l : List Pr) (p : Pr) : pD l ++ prD p = pD (l ++ [p]) := by
  rw [pD, pD, List.flatMap_append]; simp
def rqO (n : Int) (l : List ByteArray) (bk : List Pr) (k : Nat) : List AV := [.d (.c (.int .i64 n)), .d (.sl 1 l.length (sD l)), .sl (.own k) 3 bk.length (pD bk)]
/-- The reference's ring: its struct, its book's row. -/
def rq (n : Int) (l : List ByteArray) (bk : List Pr) : Rs := [some (.obj (rqO n l bk 1)), some (.tok (pD bk).length)]
theorem rq_hand (n : Int) (l : List ByteArray) (bk : List Pr) (rc : Rs) (i j : Nat) (hi : rc[i]? = some (some (.obj (rqO n l bk j)))) (hj : rc[j]? = some (some (.tok (pD bk).length))) : HandOK (nm [i, j] rc.length) rc (rq n l bk) [i, j] := by
  refine ⟨fun y h => ?_, fun y h => ?_, trivial⟩
  · injection h with h; subst h
    rw [hi]; rfl
  · injection h with h; subst h
    rw [hj]; rfl
theorem rq_wf (n : Int) (l : List ByteArray) (bk : List Pr) : wfRs (rq n l bk).length (rq n l bk) = true := rfl
def riSt (s : ByteArray) (i : Nat) : List (Nat × AV) := [(0, .ptr 0 0), (1, .d (.c (.string s))), (4, .d (.c (.bool false))), (5, .d (.c (.int .i64 i)))]
theorem memB_step (s : ByteArray) : ∀ (l : List ByteArray) (i : Nat) (h : i < l.length), memB s (l.drop i) = (decide (s = l[i]) || memB s (l.drop (i + 1))) := fun l i h => by
  rw [List.drop_eq_getElem_cons h, memB]
set_option maxHeartbeats 400000 in
theorem ris_ac (n : Int) (l : List ByteArray) (bk : List Pr) (s : ByteArray) (hl : l.length ≤ 1000) :
    AC Tryd.prog noG 34 [.ptr 0 0, .d (.c (.string s))] (rq n l bk) (fun v r' => v = .d (.c (.bool (memB s l))) ∧ r' = rq n l bk) := by
  refine AC_of_R (N := 24) (res := [.tmp 4]) ty_ok Tryd.call34 Tryd.func34 rfl rfl rfl (Nat.le_of_ble_eq_true rfl) ?_
  refine rn1 (jn @rq.eq_1 @rqO.eq_1) ?_
  refine HC_loopR (riSt s) (fun _ => rq n l bk) (fun i => i ≤ l.length ∧ memB s (l.drop i) = memB s l) (fun i => l.length - i) 0 [0, 1] [] ⟨by omega, by simp⟩ ?_ ?_
  · exact ft1 (jn @riSt.eq_1 (jn @rq.eq_1 @rqO.eq_1))
  intro i ⟨hi1, hi2⟩
  refine HC_of_R ty_ok ?_
  by_cases hlt : i < l.length
  · have hi : (i : Int) < l.length := by omega
    rw [memB_step s l i hlt] at hi2
    have kg := drop_sD l i hlt
    generalize l[i] = x at *
    refine rn1 (jn @riSt.eq_1 (jn @rq.eq_1 (jn @rqO.eq_1 (jn @hi @kg)))) ?_
    refine ⟨by omega, fun h => ?_, fun h => ?_⟩
    · rw [← hi2, decide_eq_true h.symm]; rfl
    · rw [decide_eq_false (fun e => h e.symm), Bool.false_or] at hi2
      refine ⟨i + 1, ⟨by omega, hi2⟩, by omega, [0, 1], [], ?_⟩
      exact ft1 (jn @riSt.eq_1 (jn @rq.eq_1 @rqO.eq_1))
  · have hi : ¬ (i : Int) < l.length := by omega
    rw [List.drop_of_length_le (by omega), memB] at hi2
    rw [← hi2]
    exact rz1 (jn @riSt.eq_1 (jn @rq.eq_1 (jn @rqO.eq_1 @hi)))
theorem prE (p q : Pr) : eqD [.str, .str, .str] (prD p) (prD q) = some (decide (p = q)) := by
  have := prq p q
  simpa [keyEq, formD, cellsD] using this
theorem memP_step (p : Pr) (l : List Pr) (i : Nat) (h : i < l.length) : memP p (l.drop i) = (decide (p = l[i]) || memP p (l.drop (i + 1))) := by
  rw [List.drop_eq_getElem_cons h, memP]
def rmSt (who dom : ByteArray) (b : List UInt8) (i : Nat) : List (Nat × AV) := [(0, .ptr 0 0), (8, .d (.c (.bool false))), (9, .ptr 2 0), (10, .d (.c (.int .i64 i)))]
def rmRe (n : Int) (l : List ByteArray) (bk : List Pr) (p : Pr) : Rs := rq n l bk ++ [some (.obj ((prD p).map .d))]
set_option maxHeartbeats 400000 in
theorem rmade_ac (n : Int) (l : List ByteArray) (bk : List Pr) (who dom : ByteArray) (b : List UInt8) (hbk : bk.length ≤ 100000) :
    AC Tryd.prog noG 36 [.ptr 0 0, .d (.c (.string who)), .d (.c (.string dom)), .d (.sl 1 b.length (bD b))] (rq n l bk) (fun v r' => v = .d (.c (.bool (memP (pr who dom b) bk))) ∧ r' = rq n l bk) := by
  refine AC.fit ?_
  refine AC_of_R (N := 34) (res := [.tmp 8]) ty_ok Tryd.call36 Tryd.func36 rfl rfl rfl (Nat.le_of_ble_eq_true rfl) ?_
  refine rn1 (jn @rq.eq_1 @rqO.eq_1) ?_
  refine HC_loopR (rmSt who dom b) (fun _ => rmRe n l bk (pr who dom b)) (fun i => i ≤ bk.length ∧ memP (pr who dom b) (bk.drop i) = memP (pr who dom b) bk) (fun i => bk.length - i) 0 [0, 1, 2] [] ⟨by omega, by simp⟩ ?_ ?_
  · exact ft1 (jn @rmSt.eq_1 (jn @rmRe.eq_1 (jn @rq.eq_1 (jn @rqO.eq_1 (jn @prD.eq_1 (jn @pr.eq_1 @strB.eq_1))))))
  intro i ⟨hi1, hi2⟩
  refine HC_of_R ty_ok ?_
  have hpl := pD_len bk
  by_cases hlt : i < bk.length
  · have hi : (i : Int) < bk.length := by omega
    rw [memP_step _ bk i hlt] at hi2
    have kg := pD_drop bk i hlt
    generalize bk[i] = x at *
    obtain ⟨xa, xb_, xc⟩ := x
    simp only [prD, List.cons_append, List.nil_append] at kg
    have ke := prE ⟨xa, xb_, xc⟩ (pr who dom b)
    simp only [prD, pr] at ke
    refine rn1 (jn @rmSt.eq_1 (jn @rmRe.eq_1 (jn @rq.eq_1 (jn @rqO.eq_1 (jn @prD.eq_1 (jn @pr.eq_1 @hi)))))) ?_
    refine HC_plan [] ty_ok mix (by kernel_rfl) ?_
    refine rn1 (jn @kg (jn @hpl @ke)) ?_
    refine ⟨⟨by omega, by omega⟩, fun h => ?_, fun h => ?_⟩
    · have he : (⟨xa, xb_, xc⟩ : Pr) = pr who dom b := of_decide_eq_true h
      rw [decide_eq_true he.symm, Bool.true_or] at hi2
      rw [show (⟨who, dom, strB b⟩ : Pr) = pr who dom b from rfl, ← hi2]
      exact fv1 [0,1] [] (jn @rq.eq_1 @rqO.eq_1)
    · have he : ¬ (⟨xa, xb_, xc⟩ : Pr) = pr who dom b := of_decide_eq_false h
      rw [decide_eq_false (fun e => he e.symm), Bool.false_or] at hi2
      refine ⟨i + 1, ⟨by omega, hi2⟩, by omega, [0, 1, 2], [], ?_⟩
      exact ft1 (jn @rmSt.eq_1 (jn @rmRe.eq_1 (jn @rq.eq_1 (jn @rqO.eq_1 (jn @prD.eq_1 @pr.eq_1)))))
  · have hi : ¬ (i : Int) < bk.length := by omega
    rw [List.drop_of_length_le (by omega), memP] at hi2
    refine rn1 (jn @rmSt.eq_1 (jn @rmRe.eq_1 (jn @rq.eq_1 (jn @rqO.eq_1 @hi)))) ?_
    rw [← hi2]
    exact fv1 [0,1] [] (jn @rq.eq_1 @rqO.eq_1)
set_option maxHeartbeats 400000 in
theorem rtagr_ac (n : Int) (l : List ByteArray) (bk : List Pr) (who dom : ByteArray) (b : List UInt8) (h0 : -9223372036854775808 ≤ n) (h1 : n ≤ 9223372036854775807) (hw : who.size ≤ 140737488351500) (h : dom.size + b.length ≤ 140737488351000) :
    AC Tryd.prog noG 33 [.ptr 0 0, .d (.c (.string who)), .d (.c (.string dom)), .d (.sl 1 b.length (bD b))] (rq n l bk) (fun v r' => v = .d (.agg (bD (rtag n who dom b))) ∧ r' = rq n l bk) := by
  refine AC.fit ?_
  refine AC_of_R (N := 20) (res := [.cell 8 26]) ty_ok Tryd.call33 Tryd.func33 rfl rfl rfl (Nat.le_of_ble_eq_true rfl) ?_
  refine rn1 (jn @rq.eq_1 @rqO.eq_1) ?_
  refine HO_pureA ty_ok (rKey_ac n who h0 h1 hw) ?_
  obtain ⟨K, hK⟩ : ∃ K, K = keyS n who := ⟨_, rfl⟩
  have hKl : K.length = 32 := by rw [hK, keyS_len]
  have hT : rtag n who dom b = tagS K dom b := by rw [rtag, hK]
  rw [← hK]
  obtain ⟨hl, hb, ht, hm, hsp⟩ := dig32 K hKl
  refine rn1 (jn @hm (jn @hl (jn @hb (jn @ht @hsp)))) ?_
  clear hsp
  have kd := rTag_ac K dom b (by omega) h
  have hbd : (AV.d (.sl 1 32 (bD K))) = .d (.sl 1 32 (((bD K).drop 0).take (32 * 1))) := by
    rw [List.drop_zero, List.take_of_length_le (by rw [bD_length, hKl]; decide)]
  rw [hKl, ← hT, hbd] at kd
  refine ⟨⟨by decide, by decide⟩, HO_lend ty_ok kd (scal_bD _) rfl rfl rfl (by kernel_rfl) ⟨BwA.osl rfl (bA_allD _) (by decide), BwA.val (.refl _) rfl, BwA.val (.refl _) rfl, trivial⟩ ?_⟩
  obtain ⟨hl, hb, ht, hm, hsp⟩ := dig32 (rtag n who dom b) (rtag_len n who dom b)
  refine rn1 (jn @hm (jn @hl (jn @hb (jn @ht (jn @hsp @bA_allD))))) ?_
  clear hsp
  exact fv1 [0,1] [] @bA_wf
end Go.Proofs.YtjpjnhljmloofaaDoor
