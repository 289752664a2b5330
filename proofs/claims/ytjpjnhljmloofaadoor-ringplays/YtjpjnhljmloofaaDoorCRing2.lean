import Derived.Test.YtjpjnhljmloofaaDoorCRing
set_option linter.unusedVariables false
set_option linter.unusedSimpArgs false
set_option maxRecDepth 100000
namespace Go.Proofs.YtjpjnhljmloofaaDoor
open Go Go.ChangeShapes Go.WideShapes
theorem prq (p q : Pr) : keyEq [.str, .str, .str] true (.agg (prD p)) (.agg (prD q)) = some (decide (p = q)) := by
  obtain ⟨a, b, c⟩ := p
  obtain ⟨a', b', c'⟩ := q
  simp only [keyEq, formD, cellsD, prD, eqD, ckD, ckV, and2, Bool.and_self, if_true, Bool.and_true, Pr.mk.injEq]
  congr 1
  simp [Bool.and_comm, Bool.and_assoc, Bool.decide_and]
def memP (p : Pr) : List Pr → Bool
  | [] => false
  | a :: l => decide (p = a) || memP p l
theorem find_b (p : Pr) : ∀ (l : List Pr) (i : Nat), (memP p l = false ∧ findI [.str, .str, .str] true (.agg (prD p)) (bM l) i = some none) ∨ (memP p l = true ∧ ∃ j, findI [.str, .str, .str] true (.agg (prD p)) (bM l) i = some (some (i + j, .c (.bool true))) ∧ (bM l)[j]? = some (.agg (prD p), .c (.bool true)))
  | [], i => .inl ⟨rfl, rfl⟩
  | a :: l, i => by
    show (_ ∧ findI _ _ _ ((.agg (prD a), .c (.bool true)) :: bM l) i = _) ∨ (_ ∧ ∃ j, findI _ _ _ ((.agg (prD a), .c (.bool true)) :: bM l) i = _ ∧ ((.agg (prD a), .c (.bool true)) :: bM l)[j]? = _)
    simp only [findI, prq]
    by_cases h : p = a
    · subst h
      refine .inr ⟨by simp [memP], 0, by simp⟩
    · rcases find_b p l (i + 1) with ⟨h1, h2⟩ | ⟨h1, j, h2, h3⟩
      · refine .inl ⟨by simp [memP, h, h1], by simp [h, h2]⟩
      · refine .inr ⟨by simp [memP, h1], j + 1, by simp [h, h2, Nat.add_assoc, Nat.add_comm 1 j], by simpa using h3⟩
theorem list_set_self {α : Type} : ∀ (l : List α) (j : Nat) (a : α), l[j]? = some a → l.set j a = l
  | [], _, _, h => by simp at h
  | x :: l, 0, a, h => by simp at h; subst h; rfl
  | x :: l, j + 1, a, h => by rw [List.set_cons_succ, list_set_self l j a (by simpa using h)]
def strB (b : List UInt8) : ByteArray := ⟨b.toArray⟩
theorem strB_size (b : List UInt8) : (strB b).size = b.length := List.size_toArray
theorem strB_toList (b : List UInt8) : (strB b).toList = b := by rw [Go.ByteArray.toList_eq]; rfl
theorem strB_inj {a b : List UInt8} (h : strB a = strB b) : a = b := by rw [← strB_toList a, h, strB_toList]
def pr (who dom : ByteArray) (b : List UInt8) : Pr := ⟨who, dom, strB b⟩
theorem pr_D (who dom : ByteArray) (b : List UInt8) : [D.c (.string who), .c (.string dom), .c (.string ⟨b.toArray⟩)] = prD (pr who dom b) := rfl
theorem len_m (kk bb : List (D × D)) (oo : List (Option Res)) : lenAV ty (some (.map kk) :: some (.map bb) :: oo) 62 (.mp 1) = some (bb.length : Int) := rfl
set_option maxHeartbeats 400000 in
theorem rlen_ac (n : Int) (l : List ByteArray) (bk : List Pr) :
    AC Tryd.prog noG 26 [.ptr 2 0] (rg n l bk) (fun v r' => v = .d (.c (.int .i64 bk.length)) ∧ r' = rg n l bk) := by
  refine AC_of_R (N := 10) (res := [.tmp 2]) ty_ok Tryd.call26 Tryd.func26 rfl rfl rfl (Nat.le_of_ble_eq_true rfl) ?_
  refine rn1 (jn @rg.eq_1 @rgO.eq_1) ?_
  refine HO_callX ty_ok [0, 1, 2] (none_ac n l bk) (rg_hand _ _ _ _ _ _ _ rfl rfl rfl) (rg_wf _ _ _) ?_
  rintro v r' ⟨rfl, rfl⟩ _
  have hb : (bM bk).length = bk.length := List.length_map _
  exact rz1 (jn @rg.eq_1 (jn @rgO.eq_1 (jn @len_m @hb)))
set_option maxHeartbeats 400000 in
theorem made_ac (n : Int) (l : List ByteArray) (bk : List Pr) (who dom : ByteArray) (b : List UInt8) :
    AC Tryd.prog noG 35 [.ptr 2 0, .d (.c (.string who)), .d (.c (.string dom)), .d (.sl 1 b.length (bD b))] (rg n l bk) (fun v r' => v = .d (.c (.bool (memP (pr who dom b) bk))) ∧ r' = rg n l bk) := by
  refine AC_of_R (N := 24) (res := [.tmp 8]) ty_ok Tryd.call35 Tryd.func35 rfl rfl rfl (Nat.le_of_ble_eq_true rfl) ?_
  refine rn0 ?_
  refine HC_plan [] ty_ok mix (by kernel_rfl) ?_
  refine rn1 (jn @rg.eq_1 @rgO.eq_1) ?_
  refine HO_callX ty_ok [0, 1, 2] (none_ac n l bk) (rg_hand _ _ _ _ _ _ _ rfl rfl rfl) (rg_wf _ _ _) ?_
  rintro v r' ⟨rfl, rfl⟩ _
  refine rn1 (jn @rg.eq_1 (jn @rgO.eq_1 @pr_D)) ?_
  rcases find_b (pr who dom b) bk 0 with ⟨h1, h2⟩ | ⟨h1, j, h2, _⟩
  · refine HO_lookup ty_ok rfl rfl rfl rfl tm_b tf_b tg_b (prq _ _) h2 tz_b rfl ?_
    exact rz1 (jn @lkRes.eq_1 (jn @lkRes.eq_2 (jn @lkRes.eq_3 (jn @lkRes.eq_4 @h1))))
  · refine HO_lookup ty_ok rfl rfl rfl rfl tm_b tf_b tg_b (prq _ _) h2 tz_b rfl ?_
    exact rz1 (jn @lkRes.eq_1 (jn @lkRes.eq_2 (jn @lkRes.eq_3 (jn @lkRes.eq_4 @h1))))
/-- What signing comes to: an error's number, and the book behind it. -/
def signE (l : List ByteArray) (bk : List Pr) (who dom : ByteArray) (b : List UInt8) : Int :=
  if memB who l = false then 60 else if 65536 < dom.size + b.length then 3 else if memP (pr who dom b) bk = false ∧ 4096 ≤ bk.length then 150 else 0
def signT (n : Int) (l : List ByteArray) (bk : List Pr) (who dom : ByteArray) (b : List UInt8) : List UInt8 := if signE l bk who dom b = 0 then rtag n who dom b else z32
def signB (l : List ByteArray) (bk : List Pr) (who dom : ByteArray) (b : List UInt8) : List Pr := if signE l bk who dom b = 0 ∧ memP (pr who dom b) bk = false then bk ++ [pr who dom b] else bk
theorem signT_len (n : Int) (l : List ByteArray) (bk : List Pr) (who dom : ByteArray) (b : List UInt8) : (signT n l bk who dom b).length = 32 := by
  unfold signT; split
  · exact rtag_len _ _ _ _
  · rfl
set_option maxHeartbeats 400000 in
theorem sign_ac (n : Int) (l : List ByteArray) (bk : List Pr) (who dom : ByteArray) (b : List UInt8) (hd : dom.size ≤ 140737488352000) (hb0 : b.length ≤ 140737488352000) :
    AC Tryd.prog noG 25 [.ptr 2 0, .d (.c (.string who)), .d (.c (.string dom)), .d (.sl 1 b.length (bD b))] (rg n l bk)
      (fun v r' => v = .tup [.d (.agg (bD (signT n l bk who dom b))), .d (.c (.int .i64 (signE l bk who dom b)))] ∧ r' = rg n l (signB l bk who dom b)) := by
  refine AC.fit ?_
  refine AC_of_R (N := 65) (res := [.cell 8 26, .tmp 9]) ty_ok Tryd.call25 Tryd.func25 rfl rfl rfl (Nat.le_of_ble_eq_true rfl) ?_
  obtain ⟨zl, zb, zt, zm, zsp⟩ := dig32 z32 rfl
  have hz0 : ([UInt8.ofNat 0, UInt8.ofNat 0, UInt8.ofNat 0, UInt8.ofNat 0, UInt8.ofNat 0, UInt8.ofNat 0, UInt8.ofNat 0, UInt8.ofNat 0, UInt8.ofNat 0, UInt8.ofNat 0, UInt8.ofNat 0, UInt8.ofNat 0, UInt8.ofNat 0, UInt8.ofNat 0, UInt8.ofNat 0, UInt8.ofNat 0, UInt8.ofNat 0, UInt8.ofNat 0, UInt8.ofNat 0, UInt8.ofNat 0, UInt8.ofNat 0, UInt8.ofNat 0, UInt8.ofNat 0, UInt8.ofNat 0, UInt8.ofNat 0, UInt8.ofNat 0, UInt8.ofNat 0, UInt8.ofNat 0, UInt8.ofNat 0, UInt8.ofNat 0, UInt8.ofNat 0, UInt8.ofNat 0] : List UInt8) = z32 := rfl
  refine rn1 (jn @rg.eq_1 @rgO.eq_1) ?_
  refine HO_callX ty_ok [0, 1, 2] (none_ac n l bk) (rg_hand _ _ _ _ _ _ _ rfl rfl rfl) (rg_wf _ _ _) ?_
  rintro v r' ⟨rfl, rfl⟩ _
  refine rn1 (jn @rg.eq_1 @rgO.eq_1) ?_
  refine HO_callX ty_ok [0, 1, 2] (is_ac n l bk who) (rg_hand _ _ _ _ _ _ _ rfl rfl rfl) (rg_wf _ _ _) ?_
  rintro v r' ⟨rfl, rfl⟩ _
  cases hw : memB who l with
  | false =>
    refine rn1 (jn @rg.eq_1 (jn @rgO.eq_1 (jn @hz0 (jn @zl (jn @zb (jn @zt (jn @zm @zsp))))))) ?_
    have e1 : signE l bk who dom b = 60 := by rw [signE, if_pos hw]
    have e2 : signT n l bk who dom b = z32 := by rw [signT, e1, if_neg (by decide)]
    have e3 : signB l bk who dom b = bk := by rw [signB, e1, if_neg (fun h => absurd h.1 (by decide))]
    rw [e1, e2, e3]
    clear zsp
    exact fv0 [0,1,2] []
  | true =>
    have hw' : ¬ memB who l = false := by rw [hw]; decide
    by_cases g1 : (b.length : Int) > 65536
    · refine rn1 (jn @rg.eq_1 (jn @rgO.eq_1 (jn @hz0 (jn @zl (jn @zb (jn @zt (jn @zm (jn @zsp @g1)))))))) ?_
      have e1 : signE l bk who dom b = 3 := by rw [signE, if_neg hw', if_pos (by omega)]
      have e2 : signT n l bk who dom b = z32 := by rw [signT, e1, if_neg (by decide)]
      have e3 : signB l bk who dom b = bk := by rw [signB, e1, if_neg (fun h => absurd h.1 (by decide))]
      rw [e1, e2, e3]
      clear zsp
      exact fv0 [0,1,2] []
    by_cases g2 : (dom.size : Int) > 65536 - b.length
    · refine rn1 (jn @rg.eq_1 (jn @rgO.eq_1 (jn @hz0 (jn @zl (jn @zb (jn @zt (jn @zm (jn @zsp (jn @g1 @g2))))))))) ?_
      have e1 : signE l bk who dom b = 3 := by rw [signE, if_neg hw', if_pos (by omega)]
      have e2 : signT n l bk who dom b = z32 := by rw [signT, e1, if_neg (by decide)]
      have e3 : signB l bk who dom b = bk := by rw [signB, e1, if_neg (fun h => absurd h.1 (by decide))]
      rw [e1, e2, e3]
      clear zsp
      exact fv0 [0,1,2] []
    refine rn1 (jn @rg.eq_1 (jn @rgO.eq_1 (jn @g1 @g2))) ?_
    refine HC_plan [] ty_ok mix (by kernel_rfl) ?_
    refine rn0 ?_
    have hbl : (bM bk).length = bk.length := List.length_map _
    rcases find_b (pr who dom b) bk 0 with ⟨h1, h2⟩ | ⟨h1, j, h2, h3⟩
    · refine HO_lookup ty_ok rfl rfl rfl rfl tm_b tf_b tg_b (prq (pr who dom b) (pr who dom b)) h2 tz_b rfl ?_
      by_cases g3 : (bk.length : Int) ≥ 4096
      · refine rn1 (jn @lkRes.eq_1 (jn @lkRes.eq_2 (jn @lkRes.eq_3 (jn @lkRes.eq_4 (jn @len_m (jn @hbl (jn @g3 (jn @hz0 (jn @zl (jn @zb (jn @zt (jn @zm (jn @zsp @bA_allD))))))))))))) ?_
        have e1 : signE l bk who dom b = 150 := by rw [signE, if_neg hw', if_neg (by omega), if_pos ⟨h1, by omega⟩]
        have e2 : signT n l bk who dom b = z32 := by rw [signT, e1, if_neg (by decide)]
        have e3 : signB l bk who dom b = bk := by rw [signB, e1, if_neg (fun h => absurd h.1 (by decide))]
        rw [e1, e2, e3]
        clear zsp
        exact fv0 [0,1,2] []
      · refine rn1 (jn @lkRes.eq_1 (jn @lkRes.eq_2 (jn @lkRes.eq_3 (jn @lkRes.eq_4 (jn @len_m (jn @hbl @g3)))))) ?_
        have e1 : signE l bk who dom b = 0 := by rw [signE, if_neg hw', if_neg (by omega), if_neg (fun h => by omega)]
        have e3 : signB l bk who dom b = bk ++ [pr who dom b] := by rw [signB, e1, if_pos ⟨rfl, h1⟩]
        have hput : putM (.agg [D.c (.string who), .c (.string dom), .c (.string ⟨b.toArray⟩)]) (.c (.bool true)) (bM bk) none = bM (bk ++ [pr who dom b]) := by
          rw [bM, bM, List.map_append]; rfl
        refine HC_plan [] ty_ok mix (by kernel_rfl) ?_
        refine rn0 ?_
        refine HO_mapUpdate ty_ok rfl rfl rfl rfl rfl tm_b tf_b tg_b (prq (pr who dom b) (pr who dom b)) h2 rfl rfl ?_
        refine rn1 @hput ?_
        refine HO_callX ty_ok [0, 1, 2] (tag_ac n l (bk ++ [pr who dom b]) who dom b hw (by omega)) (rg_hand _ _ _ _ _ _ _ rfl rfl rfl) (rg_wf _ _ _) ?_
        rintro v r' ⟨rfl, rfl⟩ _
        have e2 : signT n l bk who dom b = rtag n who dom b := by rw [signT, e1, if_pos rfl]
        obtain ⟨K, hK⟩ : ∃ K, K = rtag n who dom b := ⟨_, rfl⟩
        have hKl : K.length = 32 := by rw [hK, rtag_len]
        rw [← hK] at e2 ⊢
        obtain ⟨hl, hb, ht, hm, hsp⟩ := dig32 K hKl
        refine rn1 (jn @rg.eq_1 (jn @rgO.eq_1 (jn @hm (jn @hl (jn @hb (jn @ht (jn @hsp @bA_allD))))))) ?_
        clear hsp zsp
        rw [e1, e2, e3]
        exact fv0 [0,1,2] []
    · refine HO_lookup ty_ok rfl rfl rfl rfl tm_b tf_b tg_b (prq (pr who dom b) (pr who dom b)) h2 tz_b rfl ?_
      refine rn1 (jn @lkRes.eq_1 (jn @lkRes.eq_2 (jn @lkRes.eq_3 (jn @lkRes.eq_4 (jn @len_m @hbl))))) ?_
      have h1' : ¬ memP (pr who dom b) bk = false := by rw [h1]; decide
      have e1 : signE l bk who dom b = 0 := by rw [signE, if_neg hw', if_neg (by omega), if_neg (fun h => h1' h.1)]
      have e3 : signB l bk who dom b = bk := by rw [signB, if_neg (fun h => h1' h.2)]
      have hput : putM (.agg [D.c (.string who), .c (.string dom), .c (.string ⟨b.toArray⟩)]) (.c (.bool true)) (bM bk) (some (j, .c (.bool true))) = bM bk := by
        simp only [putM]
        exact list_set_self _ _ _ h3
      refine HC_plan [] ty_ok mix (by kernel_rfl) ?_
      refine rn0 ?_
      refine HO_mapUpdate ty_ok rfl rfl rfl rfl rfl tm_b tf_b tg_b (prq (pr who dom b) (pr who dom b)) h2 rfl rfl ?_
      refine rn1 @hput ?_
      refine HO_callX ty_ok [0, 1, 2] (tag_ac n l bk who dom b hw (by omega)) (rg_hand _ _ _ _ _ _ _ rfl rfl rfl) (rg_wf _ _ _) ?_
      rintro v r' ⟨rfl, rfl⟩ _
      have e2 : signT n l bk who dom b = rtag n who dom b := by rw [signT, e1, if_pos rfl]
      obtain ⟨K, hK⟩ : ∃ K, K = rtag n who dom b := ⟨_, rfl⟩
      have hKl : K.length = 32 := by rw [hK, rtag_len]
      rw [← hK] at e2 ⊢
      obtain ⟨hl, hb, ht, hm, hsp⟩ := dig32 K hKl
      refine rn1 (jn @rg.eq_1 (jn @rgO.eq_1 (jn @hm (jn @hl (jn @hb (jn @ht (jn @hsp @bA_allD))))))) ?_
      clear hsp zsp
      rw [e1, e2, e3]
      exact fv0 [0,1,2] []
theorem signE_in {l : List ByteArray} {w d : ByteArray} {b : List UInt8} {bk : List Pr} (hw : memB w l = true) (hs : d.size + b.length ≤ 65536) (h : memP (pr w d b) bk = true ∨ bk.length < 4096) : signE l bk w d b = 0 := by
  rw [signE, if_neg (by rw [hw]; decide), if_neg (by omega), if_neg]
  rintro ⟨h1, h2⟩
  rcases h with h | h
  · rw [h] at h1; cases h1
  · omega
theorem signE_out {l : List ByteArray} {w d : ByteArray} {b : List UInt8} {bk : List Pr} (hw : memB w l = false) : signE l bk w d b = 60 ∧ signB l bk w d b = bk := by
  have e : signE l bk w d b = 60 := by rw [signE, if_pos hw]
  exact ⟨e, by rw [signB, e, if_neg (fun h => absurd h.1 (by decide))]⟩
theorem memP_self (p : Pr) : memP p [p] = true := by simp [memP]
end Go.Proofs.YtjpjnhljmloofaaDoor
