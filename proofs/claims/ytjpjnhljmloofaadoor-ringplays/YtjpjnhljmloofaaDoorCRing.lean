import Derived.Test.YtjpjnhljmloofaaDoorCMacLive
import Derived.Test.YtjpjnhljmloofaaDoorCRefSum
set_option linter.unusedVariables false
set_option linter.unusedSimpArgs false
set_option maxRecDepth 100000
namespace Go.Proofs.YtjpjnhljmloofaaDoor
open Go Go.ChangeShapes Go.WideShapes
def sD (l : List ByteArray) : List D := l.map fun s => .c (.string s)
theorem sD_len (l : List ByteArray) : (sD l).length = l.length := List.length_map _
theorem sD_get (l : List ByteArray) (i : Nat) (h : i < l.length) : (sD l)[i]? = some (.c (.string l[i])) := by
  rw [sD, List.getElem?_map, List.getElem?_eq_getElem h]; rfl
theorem sD_take (l : List ByteArray) (i : Nat) : (sD l).take i = sD (l.take i) := by rw [sD, sD, List.map_take]
/-- The ring's keys: those of some names. -/
def kM (n : Int) (l : List ByteArray) : List (D × D) := l.map fun s => (.c (.string s), .agg (bD (keyS n s)))
/-- What somebody signed. -/
structure Pr where
  who : ByteArray
  dom : ByteArray
  mtx : ByteArray
  deriving DecidableEq
def prD (p : Pr) : List D := [.c (.string p.who), .c (.string p.dom), .c (.string p.mtx)]
def bM (l : List Pr) : List (D × D) := l.map fun p => (.agg (prD p), .c (.bool true))
def rgO (l : List ByteArray) (i j : Nat) : List AV := [.d (.sl 1 l.length (sD l)), .mp i, .mp j]
/-- A ring: its maps, its struct. -/
def rg (n : Int) (l : List ByteArray) (bk : List Pr) : Rs := [some (.map (kM n l)), some (.map (bM bk)), some (.obj (rgO l 0 1))]
theorem rg_hand (n : Int) (l : List ByteArray) (bk : List Pr) (rc : Rs) (i j k : Nat) (hi : rc[i]? = some (some (.map (kM n l)))) (hj : rc[j]? = some (some (.map (bM bk)))) (hk : rc[k]? = some (some (.obj (rgO l i j)))) : HandOK (nm [i, j, k] rc.length) rc (rg n l bk) [i, j, k] := by
  refine ⟨fun y h => ?_, fun y h => ?_, fun y h => ?_, trivial⟩
  · injection h with h; subst h
    rw [hi]; rfl
  · injection h with h; subst h
    rw [hj]; rfl
  · injection h with h; subst h
    rw [hk]; rfl
theorem rg_wf (n : Int) (l : List ByteArray) (bk : List Pr) : wfRs (rg n l bk).length (rg n l bk) = true := rfl
set_option maxHeartbeats 400000 in
theorem clone_ac (l : List ByteArray) (h0 : 0 < l.length) (h : l.length ≤ 140737488352) :
    AC Tryd.prog noG 50 [.d (.sl 1 l.length (sD l))] [] (fun v r' => v = .d (.sl 1 l.length (sD l)) ∧ r' = []) := by
  refine AC.dat ?_
  refine AC_of_R (N := 8) (res := [.tmp 2]) ty_ok Tryd.call50 Tryd.func50 rfl rfl rfl (Nat.le_of_ble_eq_true rfl) ?_
  have hn : 0 < (sD l).length := by rw [sD_len]; exact h0
  refine rn1 @hn ?_
  omega
set_option maxHeartbeats 400000 in
theorem none_ac (n : Int) (l : List ByteArray) (bk : List Pr) :
    AC Tryd.prog noG 51 [.ptr 2 0] (rg n l bk) (fun v r' => v = .d (.c (.bool false)) ∧ r' = rg n l bk) := by
  refine AC_of_R (N := 12) (res := [.tmp 2]) ty_ok Tryd.call51 Tryd.func51 rfl rfl rfl (Nat.le_of_ble_eq_true rfl) ?_
  exact rz1 (jn @rg.eq_1 @rgO.eq_1)
theorem tm_k : tM ty 61 = some (9, 26) := by kernel_rfl
theorem tz_k : (ty.f 26).map (fun i => constAV i.zero) = some (.d (.agg (bD z32))) := by kernel_rfl
theorem tm_b : tM ty 62 = some (83, 4) := by kernel_rfl
theorem tz_b : (ty.f 4).map (fun i => constAV i.zero) = some (.d (.c (.bool false))) := by kernel_rfl
theorem tf_k : tF ty 9 = some [.str] := by kernel_rfl
theorem tf_b : tF ty 83 = some [.str, .str, .str] := by kernel_rfl
theorem tg_k : tG ty 9 = false := by kernel_rfl
theorem tg_b : tG ty 83 = true := by kernel_rfl
theorem keq_s (a b : ByteArray) : keyEq [.str] false (.c (.string a)) (.c (.string b)) = some (decide (a = b)) := by
  simp [keyEq, formD, cellsD, eqD, ckD, ckV, and2]
def memB (s : ByteArray) : List ByteArray → Bool
  | [] => false
  | a :: l => decide (s = a) || memB s l
theorem find_k (n : Int) (s : ByteArray) : ∀ (l : List ByteArray) (i : Nat), (memB s l = false ∧ findI [.str] false (.c (.string s)) (kM n l) i = some none) ∨ (memB s l = true ∧ ∃ j, findI [.str] false (.c (.string s)) (kM n l) i = some (some (j, .agg (bD (keyS n s)))))
  | [], i => .inl ⟨rfl, rfl⟩
  | a :: l, i => by
    show (_ ∧ findI _ _ _ ((.c (.string a), .agg (bD (keyS n a))) :: kM n l) i = _) ∨ (_ ∧ ∃ j, findI _ _ _ ((.c (.string a), .agg (bD (keyS n a))) :: kM n l) i = _)
    simp only [findI, keq_s]
    by_cases h : s = a
    · subst h
      refine .inr ⟨by simp [memB], i, by simp⟩
    · rcases find_k n s l (i + 1) with ⟨h1, h2⟩ | ⟨h1, j, h2⟩
      · refine .inl ⟨by simp [memB, h, h1], by simp [h, h2]⟩
      · refine .inr ⟨by simp [memB, h1], j, by simp [h, h2]⟩
set_option maxHeartbeats 400000 in
theorem is_ac (n : Int) (l : List ByteArray) (bk : List Pr) (s : ByteArray) :
    AC Tryd.prog noG 37 [.ptr 2 0, .d (.c (.string s))] (rg n l bk) (fun v r' => v = .d (.c (.bool (memB s l))) ∧ r' = rg n l bk) := by
  refine AC.fit ?_
  refine AC_of_R (N := 19) (res := [.tmp 4]) ty_ok Tryd.call37 Tryd.func37 rfl rfl rfl (Nat.le_of_ble_eq_true rfl) ?_
  refine rn1 (jn @rg.eq_1 @rgO.eq_1) ?_
  refine HO_callX ty_ok [0, 1, 2] (none_ac n l bk) (rg_hand _ _ _ _ _ _ _ rfl rfl rfl) (rg_wf _ _ _) ?_
  rintro v r' ⟨rfl, rfl⟩ _
  refine rn1 (jn @rg.eq_1 @rgO.eq_1) ?_
  rcases find_k n s l 0 with ⟨h1, h2⟩ | ⟨h1, j, h2⟩
  · refine HO_lookup ty_ok rfl rfl rfl rfl tm_k tf_k tg_k (keq_s s s) h2 tz_k rfl ?_
    obtain ⟨hl, hb, ht, hm, hsp⟩ := dig32 z32 rfl
    refine rn1 (jn @lkRes.eq_1 (jn @lkRes.eq_2 (jn @lkRes.eq_3 (jn @lkRes.eq_4 (jn @h1 (jn @hm (jn @hl (jn @hb (jn @ht @hsp))))))))) ?_
    clear hsp
    exact fv0 [0,1,2] []
  · refine HO_lookup ty_ok rfl rfl rfl rfl tm_k tf_k tg_k (keq_s s s) h2 tz_k rfl ?_
    obtain ⟨hl, hb, ht, hm, hsp⟩ := dig32 (keyS n s) (keyS_len n s)
    refine rn1 (jn @lkRes.eq_1 (jn @lkRes.eq_2 (jn @lkRes.eq_3 (jn @lkRes.eq_4 (jn @h1 (jn @hm (jn @hl (jn @hb (jn @ht @hsp))))))))) ?_
    clear hsp
    exact fv0 [0,1,2] []
/-- The tag, as a ring makes it. -/
def rtag (n : Int) (who dom : ByteArray) (b : List UInt8) : List UInt8 := tagS (keyS n who) dom b
theorem rtag_len (n : Int) (who dom : ByteArray) (b : List UInt8) : (rtag n who dom b).length = 32 := tagS_len _ _ _
set_option maxHeartbeats 400000 in
theorem tag_ac (n : Int) (l : List ByteArray) (bk : List Pr) (who dom : ByteArray) (b : List UInt8) (hw : memB who l = true) (h : dom.size + b.length ≤ 140737488354000) :
    AC Tryd.prog noG 52 [.ptr 2 0, .d (.c (.string who)), .d (.c (.string dom)), .d (.sl 1 b.length (bD b))] (rg n l bk) (fun v r' => v = .d (.agg (bD (rtag n who dom b))) ∧ r' = rg n l bk) := by
  refine AC.fit ?_
  refine AC_of_R (N := 20) (res := [.cell 8 26]) ty_ok Tryd.call52 Tryd.func52 rfl rfl rfl (Nat.le_of_ble_eq_true rfl) ?_
  refine rn1 (jn @rg.eq_1 @rgO.eq_1) ?_
  rcases find_k n who l 0 with ⟨h1, h2⟩ | ⟨h1, j, h2⟩
  · rw [hw] at h1; cases h1
  refine HO_lookup ty_ok rfl rfl rfl rfl tm_k tf_k tg_k (keq_s who who) h2 tz_k rfl ?_
  obtain ⟨K, hK⟩ : ∃ K, K = keyS n who := ⟨_, rfl⟩
  have hKl : K.length = 32 := by rw [hK, keyS_len]
  have hT : rtag n who dom b = tagS K dom b := by rw [rtag, hK]
  rw [← hK]
  obtain ⟨hl, hb, ht, hm, hsp⟩ := dig32 K hKl
  refine rn1 (jn @lkRes.eq_1 (jn @lkRes.eq_2 (jn @lkRes.eq_3 (jn @lkRes.eq_4 (jn @hm (jn @hl (jn @hb (jn @ht @hsp)))))))) ?_
  clear hsp
  have kd := mTag_ac K dom b (by omega) h
  have hbd : (AV.d (.sl 1 32 (bD K))) = .d (.sl 1 32 (((bD K).drop 0).take (32 * 1))) := by
    rw [List.drop_zero, List.take_of_length_le (by rw [bD_length, hKl]; decide)]
  rw [hKl, ← hT, hbd] at kd
  refine ⟨⟨by decide, by decide⟩, HO_lend ty_ok kd (scal_bD _) rfl rfl rfl (by kernel_rfl) ⟨BwA.osl rfl (bA_allD _) (by decide), BwA.val (.refl _) rfl, BwA.val (.refl _) rfl, trivial⟩ ?_⟩
  obtain ⟨hl, hb, ht, hm, hsp⟩ := dig32 (rtag n who dom b) (rtag_len n who dom b)
  refine rn1 (jn @hm (jn @hl (jn @hb (jn @ht (jn @hsp @bA_allD))))) ?_
  clear hsp
  exact fv1 [0,1,2] [] @bA_wf
set_option maxHeartbeats 400000 in
theorem verify_ac (n : Int) (l : List ByteArray) (bk : List Pr) (who dom : ByteArray) (b t : List UInt8) (h : dom.size + b.length ≤ 140737488354000) (h2 : t.length ≤ 140737488354000) :
    AC Tryd.prog noG 31 [.ptr 2 0, .d (.c (.string who)), .d (.c (.string dom)), .d (.sl 1 b.length (bD b)), .d (.sl 1 t.length (bD t))] (rg n l bk) (fun v r' => v = .d (.c (.bool (memB who l && decide (rtag n who dom b = t)))) ∧ r' = rg n l bk) := by
  refine AC.fit ?_
  refine AC_of_R (N := 24) (res := [.tmp 10]) ty_ok Tryd.call31 Tryd.func31 rfl rfl rfl (Nat.le_of_ble_eq_true rfl) ?_
  refine rn1 (jn @rg.eq_1 @rgO.eq_1) ?_
  refine HO_callX ty_ok [0, 1, 2] (is_ac n l bk who) (rg_hand _ _ _ _ _ _ _ rfl rfl rfl) (rg_wf _ _ _) ?_
  rintro v r' ⟨rfl, rfl⟩ _
  cases hw : memB who l with
  | false =>
    refine rn1 (jn @rg.eq_1 @rgO.eq_1) ?_
    exact fv0 [0,1,2] []
  | true =>
    refine rn1 (jn @rg.eq_1 @rgO.eq_1) ?_
    refine HO_callX ty_ok [0, 1, 2] (tag_ac n l bk who dom b hw h) (rg_hand _ _ _ _ _ _ _ rfl rfl rfl) (rg_wf _ _ _) ?_
    rintro v r' ⟨rfl, rfl⟩ _
    obtain ⟨K, hK⟩ : ∃ K, K = rtag n who dom b := ⟨_, rfl⟩
    have hKl : K.length = 32 := by rw [hK, rtag_len]
    rw [← hK]
    obtain ⟨hl, hb, ht, hm, hsp⟩ := dig32 K hKl
    refine rn1 (jn @rg.eq_1 (jn @rgO.eq_1 (jn @hm (jn @hl (jn @hb (jn @ht @hsp)))))) ?_
    clear hsp
    have kd := equal_ac K t (by omega) (by omega)
    have hbd : (AV.d (.sl 1 32 (bD K))) = .d (.sl 1 32 (((bD K).drop 0).take (32 * 1))) := by
      rw [List.drop_zero, List.take_of_length_le (by rw [bD_length, hKl]; decide)]
    rw [hKl, hbd] at kd
    refine ⟨⟨by decide, by decide⟩, HO_lend ty_ok kd (rfl) rfl rfl rfl (by kernel_rfl) ⟨BwA.osl rfl (bA_allD _) (by decide), BwA.val (.refl _) rfl, trivial⟩ ?_⟩
    refine rn0 ?_
    exact fv1 [0,1,2] [] @bA_wf
end Go.Proofs.YtjpjnhljmloofaaDoor
