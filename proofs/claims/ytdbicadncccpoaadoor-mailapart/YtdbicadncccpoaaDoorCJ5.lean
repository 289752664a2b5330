/- Parts of the proof: RingZ, RRing, RSign, RNew, Fct. -/
import Derived.Test.YtdbicadncccpoaaDoorCJ4
import Derived.Test.YtdbicadncccpoaaDoorCJ0
set_option linter.unusedVariables false
set_option linter.unusedSimpArgs false
set_option maxRecDepth 100000
namespace Go.Proofs.YtdbicadncccpoaaDoor
open Go Go.ChangeShapes Go.WideShapes
def np : AV := .d (.c (.pointer none))
theorem none_n : AC Tryd.prog noG 28 [np] [] (fun v r' => v = .d (.c (.bool true)) ∧ r' = []) := by
  refine AC.pure ?_ (by rintro v rfl; rfl)
  refine AC_of_R (N := 12) (res := [.tmp 2]) ty_ok Tryd.call28 Tryd.func28 rfl rfl rfl (Nat.le_of_ble_eq_true rfl) ?_
  exact rz1 @np.eq_1
theorem names_n : AC Tryd.prog noG 42 [np] [] (fun v r' => v = .d (.c (.slice none 0 0)) ∧ r' = []) := by
  refine AC.pure ?_ (by rintro v rfl; rfl)
  refine AC_of_R (N := 10) (res := [.tmp 2]) ty_ok Tryd.call42 Tryd.func42 rfl rfl rfl (Nat.le_of_ble_eq_true rfl) ?_
  refine rn1 @np.eq_1 ?_
  refine HO_pureA ty_ok none_n ?_
  exact rz0
end Go.Proofs.YtdbicadncccpoaaDoor

set_option linter.unusedVariables false
set_option linter.unusedSimpArgs false
set_option maxRecDepth 100000
namespace Go.Proofs.YtdbicadncccpoaaDoor
open Go Go.ChangeShapes Go.WideShapes
def pD (l : List Pr) : List D := l.flatMap prD
def rqO (n : Int) (l : List ByteArray) (bk : List Pr) (k : Nat) : List AV := [.d (.c (.int .i64 n)), .d (.sl 1 l.length (sD l)), .sl (.own k) 3 bk.length (pD bk)]
/-- The reference's ring: its struct, its book's row. -/
def rq (n : Int) (l : List ByteArray) (bk : List Pr) : Rs := [some (.obj (rqO n l bk 1)), some (.tok (pD bk).length)]
theorem rq_hand (n : Int) (l : List ByteArray) (bk : List Pr) (rc : Rs) (i j : Nat) (hi : rc[i]? = some (some (.obj (rqO n l bk j)))) (hj : rc[j]? = some (some (.tok (pD bk).length))) : HandOK (nm [i, j] rc.length) rc (rq n l bk) [i, j] := by
  refine ⟨fun y h => ?_, fun y h => ?_, trivial⟩
  · injection h with h; subst h
    rw [hi]; rfl
  · injection h with h; subst h
    rw [hj]; rfl
theorem rq_wf (n : Int) (l : List ByteArray) (bk : List Pr) : wfRs (rq n l bk).length (rq n l bk) = true := rfl
def riSt (s : ByteArray) (i : Nat) : List (Nat × AV) := [(0, .ptr 0 0), (1, .d (.c (.string s))), (4, .d (.c (.bool false))), (5, .d (.c (.int .i64 i)))]
theorem memB_step (s : ByteArray) : ∀ (l : List ByteArray) (i : Nat) (h : i < l.length), memB s (l.drop i) = (decide (s = l[i]) || memB s (l.drop (i + 1))) := fun l i h => by
  rw [List.drop_eq_getElem_cons h, memB]
set_option maxHeartbeats 400000 in
theorem ris_ac (n : Int) (l : List ByteArray) (bk : List Pr) (s : ByteArray) (hl : l.length ≤ 1000) :
    AC Tryd.prog noG 49 [.ptr 0 0, .d (.c (.string s))] (rq n l bk) (fun v r' => v = .d (.c (.bool (memB s l))) ∧ r' = rq n l bk) := by
  refine AC_of_R (N := 24) (res := [.tmp 4]) ty_ok Tryd.call49 Tryd.func49 rfl rfl rfl (Nat.le_of_ble_eq_true rfl) ?_
  refine rn1 (jn @rq.eq_1 @rqO.eq_1) ?_
  refine HC_loopR (riSt s) (fun _ => rq n l bk) (fun i => i ≤ l.length ∧ memB s (l.drop i) = memB s l) (fun i => l.length - i) 0 [0, 1] [] ⟨by omega, by simp⟩ ?_ ?_
  · exact ft1 (jn @riSt.eq_1 (jn @rq.eq_1 @rqO.eq_1))
  intro i ⟨hi1, hi2⟩
  refine HC_of_R ty_ok ?_
  by_cases hlt : i < l.length
  · have hi : (i : Int) < l.length := by omega
    rw [memB_step s l i hlt] at hi2
    have kg := drop_sD l i hlt
    generalize l[i] = x at *
    refine rn1 (jn @riSt.eq_1 (jn @rq.eq_1 (jn @rqO.eq_1 (jn @hi @kg)))) ?_
    refine ⟨by omega, fun h => ?_, fun h => ?_⟩
    · rw [← hi2, decide_eq_true h.symm]; rfl
    · rw [decide_eq_false (fun e => h e.symm), Bool.false_or] at hi2
      refine ⟨i + 1, ⟨by omega, hi2⟩, by omega, [0, 1], [], ?_⟩
      exact ft1 (jn @riSt.eq_1 (jn @rq.eq_1 @rqO.eq_1))
  · have hi : ¬ (i : Int) < l.length := by omega
    rw [List.drop_of_length_le (by omega), memB] at hi2
    rw [← hi2]
    exact rz1 (jn @riSt.eq_1 (jn @rq.eq_1 (jn @rqO.eq_1 @hi)))
set_option maxHeartbeats 400000 in
theorem rtagr_ac (n : Int) (l : List ByteArray) (bk : List Pr) (who dom : ByteArray) (b : List UInt8) (h0 : -9223372036854775808 ≤ n) (h1 : n ≤ 9223372036854775807) (hw : who.size ≤ 140737488351500) (h : dom.size + b.length ≤ 140737488351000) :
    AC Tryd.prog noG 51 [.ptr 0 0, .d (.c (.string who)), .d (.c (.string dom)), .d (.sl 1 b.length (bD b))] (rq n l bk) (fun v r' => v = .d (.agg (bD (rtag n who dom b))) ∧ r' = rq n l bk) := by
  refine AC.fit ?_
  refine AC_of_R (N := 20) (res := [.cell 8 27]) ty_ok Tryd.call51 Tryd.func51 rfl rfl rfl (Nat.le_of_ble_eq_true rfl) ?_
  refine rn1 (jn @rq.eq_1 @rqO.eq_1) ?_
  refine HO_pureA ty_ok (rKey_ac n who h0 h1 hw) ?_
  obtain ⟨K, hK⟩ : ∃ K, K = keyS n who := ⟨_, rfl⟩
  have hKl : K.length = 32 := by rw [hK, keyS_len]
  have hT : rtag n who dom b = tagS K dom b := by rw [rtag, hK]
  rw [← hK]
  obtain ⟨hl, hb, ht, hm, hsp⟩ := dig32 K hKl
  refine rn1 (jn @hm (jn @hl (jn @hb (jn @ht @hsp)))) ?_
  clear hsp
  have kd := rTag_ac K dom b (by omega) h
  have hbd : (AV.d (.sl 1 32 (bD K))) = .d (.sl 1 32 (((bD K).drop 0).take (32 * 1))) := by
    rw [List.drop_zero, List.take_of_length_le (by rw [bD_length, hKl]; decide)]
  rw [hKl, ← hT, hbd] at kd
  refine ⟨⟨by decide, by decide⟩, HO_lend ty_ok kd (scal_bD _) rfl rfl rfl (by kernel_rfl) ⟨BwA.osl rfl (bA_allD _) (by decide), BwA.val (.refl _) rfl, BwA.val (.refl _) rfl, trivial⟩ ?_⟩
  obtain ⟨hl, hb, ht, hm, hsp⟩ := dig32 (rtag n who dom b) (rtag_len n who dom b)
  refine rn1 (jn @hm (jn @hl (jn @hb (jn @ht (jn @hsp @bA_allD))))) ?_
  clear hsp
  exact fv1 [0,1] [] @bA_wf
end Go.Proofs.YtdbicadncccpoaaDoor

set_option linter.unusedVariables false
set_option linter.unusedSimpArgs false
set_option maxRecDepth 100000
namespace Go.Proofs.YtdbicadncccpoaaDoor
open Go Go.ChangeShapes Go.WideShapes
set_option maxHeartbeats 400000 in
theorem rverify_ac (n : Int) (l : List ByteArray) (bk : List Pr) (who dom : ByteArray) (b t : List UInt8) (h0 : -9223372036854775808 ≤ n) (h1 : n ≤ 9223372036854775807) (hl6 : l.length ≤ 1000) (hw0 : who.size ≤ 140737488351500) (h : dom.size + b.length ≤ 140737488351000) (h2 : t.length ≤ 140737488352000) :
    AC Tryd.prog noG 31 [.ptr 0 0, .d (.c (.string who)), .d (.c (.string dom)), .d (.sl 1 b.length (bD b)), .d (.sl 1 t.length (bD t))] (rq n l bk) (fun v r' => v = .d (.c (.bool (memB who l && decide (rtag n who dom b = t)))) ∧ r' = rq n l bk) := by
  refine AC.fit ?_
  refine AC_of_R (N := 26) (res := [.tmp 10]) ty_ok Tryd.call31 Tryd.func31 rfl rfl rfl (Nat.le_of_ble_eq_true rfl) ?_
  refine rn1 (jn @rq.eq_1 @rqO.eq_1) ?_
  refine HO_callX ty_ok [0, 1] (ris_ac n l bk who hl6) (rq_hand _ _ _ _ _ _ rfl rfl) (rq_wf _ _ _) ?_
  rintro v r' ⟨rfl, rfl⟩ _
  cases hw : memB who l with
  | false =>
    refine rn1 (jn @rq.eq_1 @rqO.eq_1) ?_
    exact fv0 [0,1] []
  | true =>
    refine rn1 (jn @rq.eq_1 @rqO.eq_1) ?_
    refine HO_callX ty_ok [0, 1] (rtagr_ac n l bk who dom b h0 h1 hw0 h) (rq_hand _ _ _ _ _ _ rfl rfl) (rq_wf _ _ _) ?_
    rintro v r' ⟨rfl, rfl⟩ _
    obtain ⟨K, hK⟩ : ∃ K, K = rtag n who dom b := ⟨_, rfl⟩
    have hKl : K.length = 32 := by rw [hK, rtag_len]
    rw [← hK]
    obtain ⟨hl, hb, ht, hm, hsp⟩ := dig32 K hKl
    have hs : (({ data := K.toArray } : ByteArray) = { data := t.toArray }) = (K = t) := propext ⟨fun h => strB_inj h, fun h => by rw [h]⟩
    refine rn1 (jn @rq.eq_1 (jn @rqO.eq_1 (jn @hm (jn @hl (jn @hb (jn @ht @hsp)))))) ?_
    clear hsp
    refine HC_lay 2 rfl (bA_allD K) ?_
    simp only [fzL, fzA, ↓reduceIte, Nat.reduceEqDiff]
    refine HC_plan [] ty_ok mix (by kernel_rfl) ?_
    have hK32 : K.take 32 = K := List.take_of_length_le (by omega)
    refine rn1 (jn @hK32 @hs) ?_
    refine ⟨⟨by omega, by decide, by decide⟩, ?_⟩
    exact fv0 [0,1] []
end Go.Proofs.YtdbicadncccpoaaDoor

set_option linter.unusedVariables false
set_option linter.unusedSimpArgs false
set_option maxRecDepth 100000
namespace Go.Proofs.YtdbicadncccpoaaDoor
open Go Go.ChangeShapes Go.WideShapes
theorem memB_app (s : ByteArray) (x : ByteArray) : ∀ l : List ByteArray, memB s (l ++ [x]) = (memB s l || decide (s = x))
  | [] => by simp [memB]
  | a :: l => by simp [memB, memB_app s x l, Bool.or_assoc]
theorem memB_take (s : ByteArray) (l : List ByteArray) (k : Nat) (h : k < l.length) : memB s (l.take (k + 1)) = (memB s (l.take k) || decide (s = l[k])) := by
  rw [List.take_succ_eq_append_getElem h, memB_app]
theorem memB_iff (s : ByteArray) : ∀ l : List ByteArray, memB s l = true ↔ s ∈ l
  | [] => by simp [memB]
  | a :: l => by simp [memB, memB_iff s l]
theorem memB_ne {s : ByteArray} {l : List ByteArray} {i k : Nat} (h : memB s (l.take i) = false) (hk : k < i) (hl : k < l.length) : ¬ l[k] = s := fun e => by
  have : memB s (l.take i) = true := by
    rw [memB_iff, List.mem_take_iff_getElem]
    exact ⟨k, by omega, e⟩
  rw [h] at this; cases this
def rwSt (n : Int) (l : List ByteArray) (i : Nat) : List (Nat × AV) := [(0, .d (.c (.int .i64 n))), (1, .d (.sl 1 l.length (sD l))), (4, .d (.c (.pointer none))), (5, .d (.c (.int .i64 0))), (6, .d (.c (.int .i64 i)))]
def rwSt2 (n : Int) (l : List ByteArray) (i k : Nat) : List (Nat × AV) := rwSt n l i ++ [(7, .d (.c (.int .i64 k)))]
set_option maxHeartbeats 400000 in
theorem rnew_ok (n : Int) (l : List ByteArray) (h0 : -9223372036854775808 ≤ n) (h1 : n ≤ 9223372036854775807) (h : newE l = 0) :
    AC Tryd.prog noG 23 [.d (.c (.int .i64 n)), .d (.sl 1 l.length (sD l))] [] (fun v r' => v = .tup [.ptr 0 0, .d (.c (.int .i64 0))] ∧ r' = rq n l []) := by
  have hl6 : ¬ 6 < l.length := fun hc => by rw [newE, if_pos hc] at h; exact absurd h (by decide)
  have hl0 : ¬ l.length = 0 := fun hc => by rw [newE, if_neg hl6, if_pos hc] at h; exact absurd h (by decide)
  have hok : okN [] l = true := by
    cases hk : okN [] l with
    | true => rfl
    | false => rw [newE, if_neg hl6, if_neg hl0, hk] at h; exact absurd h (by decide)
  refine AC.fit ?_
  refine AC_of_R (N := 54) (res := [.tmp 4, .tmp 5]) ty_ok Tryd.call23 Tryd.func23 rfl rfl rfl (Nat.le_of_ble_eq_true rfl) ?_
  have g1 : ¬ (l.length : Int) > 6 := by omega
  have g2 : ¬ (l.length : Int) = 0 := by omega
  refine rn1 (jn @g1 @g2) ?_
  refine HC_loopR (rwSt n l) (fun _ => []) (fun i => i ≤ l.length ∧ okN (l.take i) (l.drop i) = true) (fun i => l.length - i) 0 [] [] ⟨by omega, by simpa using hok⟩ ?_ ?_
  · exact ft1 @rwSt.eq_1
  intro i ⟨hi1, hi2⟩
  refine HC_of_R ty_ok ?_
  by_cases hlt : i < l.length
  · have hi : (i : Int) < l.length := by omega
    rw [okN_step l i hlt] at hi2
    simp only [Bool.and_eq_true, Bool.not_eq_true', decide_eq_true_eq] at hi2
    obtain ⟨k1, k2, k3, k4⟩ := hi2
    have kg := drop_sD l i hlt
    generalize l[i] = s at *
    have g3 : ¬ (s.size : Int) < 1 := by omega
    have g4 : ¬ (s.size : Int) > 32 := by omega
    refine rn1 (jn @rwSt.eq_1 (jn @hi (jn @kg (jn @g3 @g4)))) ?_
    refine ⟨by omega, by omega, HC_loopR (rwSt2 n l i) (fun _ => []) (fun k => k ≤ i) (fun k => i - k) 0 [] [] (by omega) ?_ ?_⟩
    · exact ft1 (jn @rwSt2.eq_1 @rwSt.eq_1)
    intro k hk
    refine HC_of_R ty_ok ?_
    by_cases hki : k < i
    · have hi' : (k : Int) < i := by omega
      have kg2 := drop_sD l k (by omega)
      have hne := memB_ne k1 hki (by omega)
      generalize l[k] = s2 at *
      refine rn1 (jn @rwSt2.eq_1 (jn @rwSt.eq_1 @hi')) ?_
      refine HC_plan [] ty_ok mix (by kernel_rfl) ?_
      refine rn1 (jn @kg (jn @kg2 @hne)) ?_
      refine ⟨by omega, by omega, k + 1, by omega, by omega, [], [], ?_⟩
      exact ft1 (jn @rwSt2.eq_1 @rwSt.eq_1)
    · have hi' : ¬ (k : Int) < i := by omega
      refine rn1 (jn @rwSt2.eq_1 (jn @rwSt.eq_1 @hi')) ?_
      refine ⟨i + 1, ⟨by omega, k4⟩, by omega, [], [], ?_⟩
      exact ft1 (jn @rwSt2.eq_1 @rwSt.eq_1)
  · have hi : ¬ (i : Int) < l.length := by omega
    refine rn1 (jn @rwSt.eq_1 @hi) ?_
    refine ⟨⟨by omega, by omega⟩, ?_⟩
    exact fv1 [1,2] [0] (jn @rq.eq_1 @rqO.eq_1)
set_option maxHeartbeats 400000 in
theorem rnew_bad (n : Int) (l : List ByteArray) (h : newE l ≠ 0) :
    AC Tryd.prog noG 23 [.d (.c (.int .i64 n)), .d (.sl 1 l.length (sD l))] [] (fun v r' => v = .tup [.d (.c (.pointer none)), .d (.c (.int .i64 (newE l)))] ∧ r' = []) := by
  refine AC.fit ?_
  refine AC_of_R (N := 54) (res := [.tmp 4, .tmp 5]) ty_ok Tryd.call23 Tryd.func23 rfl rfl rfl (Nat.le_of_ble_eq_true rfl) ?_
  by_cases hl6 : 6 < l.length
  · have g1 : (l.length : Int) > 6 := by omega
    refine rn1 @g1 ?_
    have e2 : newE l = 3 := by rw [newE, if_pos hl6]
    rw [e2]
    exact fv0 [] []
  by_cases hl0 : l.length = 0
  · have g1 : ¬ (l.length : Int) > 6 := by omega
    have g2 : (l.length : Int) = 0 := by omega
    refine rn1 (jn @g1 @g2) ?_
    have e2 : newE l = 2 := by rw [newE, if_neg hl6, if_pos hl0]
    rw [e2]
    exact fv0 [] []
  have hok : okN [] l = false := by
    cases hk : okN [] l with
    | false => rfl
    | true => rw [newE, if_neg hl6, if_neg hl0, if_pos hk] at h; exact absurd rfl h
  have g1 : ¬ (l.length : Int) > 6 := by omega
  have g2 : ¬ (l.length : Int) = 0 := by omega
  refine rn1 (jn @g1 @g2) ?_
  refine HC_loopR (rwSt n l) (fun _ => []) (fun i => i ≤ l.length ∧ okN (l.take i) (l.drop i) = false) (fun i => l.length - i) 0 [] [] ⟨by omega, by simpa using hok⟩ ?_ ?_
  · exact ft1 @rwSt.eq_1
  intro i ⟨hi1, hi2⟩
  refine HC_of_R ty_ok ?_
  by_cases hlt : i < l.length
  · have hi : (i : Int) < l.length := by omega
    rw [okN_step l i hlt] at hi2
    have kg := drop_sD l i hlt
    generalize l[i] = s at *
    by_cases g3 : (s.size : Int) < 1
    · refine rn1 (jn @rwSt.eq_1 (jn @hi (jn @kg @g3))) ?_
      refine ⟨by omega, ?_⟩
      have e2 : newE l = 2 := by rw [newE, if_neg hl6, if_neg hl0, if_neg (by rw [hok]; decide)]
      rw [e2]
      exact fv0 [] []
    by_cases g4 : (s.size : Int) > 32
    · refine rn1 (jn @rwSt.eq_1 (jn @hi (jn @kg (jn @g3 @g4)))) ?_
      refine ⟨by omega, by omega, ?_⟩
      have e2 : newE l = 2 := by rw [newE, if_neg hl6, if_neg hl0, if_neg (by rw [hok]; decide)]
      rw [e2]
      exact fv0 [] []
    rw [decide_eq_true (show 0 < s.size by omega), decide_eq_true (show s.size ≤ 32 by omega)] at hi2
    refine rn1 (jn @rwSt.eq_1 (jn @hi (jn @kg (jn @g3 @g4)))) ?_
    refine ⟨by omega, by omega, HC_loopR (rwSt2 n l i) (fun _ => []) (fun k => k ≤ i ∧ memB s (l.take k) = false) (fun k => i - k) 0 [] [] ⟨by omega, rfl⟩ ?_ ?_⟩
    · exact ft1 (jn @rwSt2.eq_1 @rwSt.eq_1)
    intro k ⟨hk, hkm⟩
    refine HC_of_R ty_ok ?_
    by_cases hki : k < i
    · have hi' : (k : Int) < i := by omega
      have kg2 := drop_sD l k (by omega)
      have hst := memB_take s l k (by omega)
      rw [hkm, Bool.false_or] at hst
      generalize l[k] = s2 at *
      refine rn1 (jn @rwSt2.eq_1 (jn @rwSt.eq_1 @hi')) ?_
      refine HC_plan [] ty_ok mix (by kernel_rfl) ?_
      refine rn1 (jn @kg @kg2) ?_
      refine ⟨⟨by omega, by omega⟩, ⟨by omega, by omega⟩, fun he => ?_, fun he => ?_⟩
      · skip
        have e2 : newE l = 2 := by rw [newE, if_neg hl6, if_neg hl0, if_neg (by rw [hok]; decide)]
        rw [e2]
        exact fv0 [] []
      · rw [decide_eq_false (fun e => he e.symm)] at hst
        refine ⟨k + 1, ⟨by omega, hst⟩, by omega, [], [], ?_⟩
        exact ft1 (jn @rwSt2.eq_1 @rwSt.eq_1)
    · have hi' : ¬ (k : Int) < i := by omega
      have hke : k = i := by omega
      subst hke
      rw [hkm] at hi2
      refine rn1 (jn @rwSt2.eq_1 (jn @rwSt.eq_1 @hi')) ?_
      refine ⟨k + 1, ⟨by omega, by simpa using hi2⟩, by omega, [], [], ?_⟩
      exact ft1 (jn @rwSt2.eq_1 @rwSt.eq_1)
  · rw [List.drop_of_length_le (by omega)] at hi2
    cases hi2
end Go.Proofs.YtdbicadncccpoaaDoor

set_option linter.unusedVariables false
set_option linter.unusedSimpArgs false
set_option maxRecDepth 100000
namespace Go.Proofs.YtdbicadncccpoaaDoor
open Go Go.ChangeShapes Go.WideShapes
/-- Rows of elements of one width. -/
def flatE {α : Type} (en : α → List D) (l : List α) : List D := l.flatMap en
theorem flatE_cons {α : Type} (en : α → List D) (a : α) (l : List α) : flatE en (a :: l) = en a ++ flatE en l := by rw [flatE, List.flatMap_cons]; rfl
theorem flatE_app {α : Type} (en : α → List D) (l m : List α) : flatE en (l ++ m) = flatE en l ++ flatE en m := by rw [flatE, List.flatMap_append]; rfl
theorem flatE_one {α : Type} (en : α → List D) (a : α) : flatE en [a] = en a := by rw [flatE_cons]; simp [flatE]
theorem flatE_nil {α : Type} (en : α → List D) : flatE en [] = [] := rfl
theorem flatE_len {α : Type} {en : α → List D} {k : Nat} (h : ∀ a, (en a).length = k) : ∀ l : List α, (flatE en l).length = k * l.length
  | [] => rfl
  | a :: l => by rw [flatE_cons, List.length_append, h, flatE_len h l, List.length_cons, Nat.mul_succ]; omega
theorem flatE_drop {α : Type} {en : α → List D} {k : Nat} (h : ∀ a, (en a).length = k) : ∀ (l : List α) (i : Nat) (hi : i < l.length), (flatE en l).drop (i * k) = en l[i] ++ flatE en (l.drop (i + 1))
  | a :: l, 0, _ => by rw [flatE_cons]; simp
  | a :: l, i + 1, hi => by
    have := flatE_drop h l i (by simpa using hi)
    rw [flatE_cons, Nat.succ_mul, Nat.add_comm (i * k) k, ← List.drop_drop]
    simp only [List.getElem_cons_succ, List.drop_succ_cons]
    rw [← h a, List.drop_left, h a, this]
structure Cst where
  num : Bool
  n : Int
  s : ByteArray
deriving DecidableEq
structure Fct where
  a : ByteArray
  b : ByteArray
  p : ByteArray
  l : List Cst
deriving DecidableEq
def cstE (c : Cst) : List D := [.c (.bool c.num), .c (.int .i64 c.n), .c (.string c.s)]
theorem cstE_len (c : Cst) : (cstE c).length = 3 := rfl
def fctE (f : Fct) : List D := [.c (.string f.a), .c (.string f.b), .c (.string f.p), .sl 3 f.l.length (flatE cstE f.l)]
theorem fctE_len (f : Fct) : (fctE f).length = 4 := rfl
def txtOK (s : ByteArray) : Bool := decide (1 ≤ s.size) && decide (s.size ≤ 32)
def goodC (c : Cst) : Bool := if c.num then decide (c.s = ⟨#[]⟩) else decide (c.n = 0) && txtOK c.s
def chkF (f : Fct) : Bool := txtOK f.a && (txtOK f.b && (txtOK f.p && (decide (f.l.length ≤ 48) && f.l.all goodC)))
def chkE (f : Fct) : Int := if chkF f then 0 else 40
end Go.Proofs.YtdbicadncccpoaaDoor
