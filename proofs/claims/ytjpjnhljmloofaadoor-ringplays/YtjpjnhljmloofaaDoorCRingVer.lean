import Derived.Test.YtjpjnhljmloofaaDoorCRingNew
set_option linter.unusedVariables false
set_option linter.unusedSimpArgs false
set_option maxRecDepth 100000
namespace Go.Proofs.YtjpjnhljmloofaaDoor
open Go Go.ChangeShapes Go.WideShapes
def rgT (n : Int) (l : List ByteArray) (bk : List Pr) (t : List UInt8) : Rs := [some (.map (kM n l)), some (.map (bM bk)), some (.obj (rgO l 0 1)), some (.obj (bA t))]
theorem rgT_hand (n : Int) (l : List ByteArray) (bk : List Pr) (t : List UInt8) (rc : Rs) (i j k m : Nat) (hi : rc[i]? = some (some (.map (kM n l)))) (hj : rc[j]? = some (some (.map (bM bk)))) (hk : rc[k]? = some (some (.obj (rgO l i j)))) (hm : rc[m]? = some (some (.obj (bA t)))) : HandOK (nm [i, j, k, m] rc.length) rc (rgT n l bk t) [i, j, k, m] := by
  refine ⟨fun y h => ?_, fun y h => ?_, fun y h => ?_, fun y h => ?_, trivial⟩
  · injection h with h; subst h
    rw [hi]; rfl
  · injection h with h; subst h
    rw [hj]; rfl
  · injection h with h; subst h
    rw [hk]; rfl
  · injection h with h; subst h
    rw [hm, renRes, ren_bA]
theorem rgT_wf (n : Int) (l : List ByteArray) (bk : List Pr) (t : List UInt8) : wfRs (rgT n l bk t).length (rgT n l bk t) = true := by
  show (wfL 4 (rgO l 0 1) && (wfL 4 (bA t) && true)) = true
  rw [bA_wf]; rfl
set_option maxHeartbeats 400000 in
theorem verifyO_ac (n : Int) (l : List ByteArray) (bk : List Pr) (who dom : ByteArray) (b t : List UInt8) (h : dom.size + b.length ≤ 140737488354000) (h2 : t.length = 32) :
    AC Tryd.prog noG 31 [.ptr 2 0, .d (.c (.string who)), .d (.c (.string dom)), .d (.sl 1 b.length (bD b)), .osl 3 0 1 32] (rgT n l bk t) (fun v r' => v = .d (.c (.bool (memB who l && decide (rtag n who dom b = t)))) ∧ r' = rgT n l bk t) := by
  refine AC.fit ?_
  refine AC_of_R (N := 24) (res := [.tmp 10]) ty_ok Tryd.call31 Tryd.func31 rfl rfl rfl (Nat.le_of_ble_eq_true rfl) ?_
  refine rn1 (jn @rgT.eq_1 @rgO.eq_1) ?_
  refine HO_callX ty_ok [0, 1, 2] (is_ac n l bk who) (rg_hand _ _ _ _ _ _ _ rfl rfl rfl) (rg_wf _ _ _) ?_
  rintro v r' ⟨rfl, rfl⟩ _
  cases hw : memB who l with
  | false =>
    refine rn1 (jn @rg.eq_1 @rgO.eq_1) ?_
    exact fv1 [0,1,2,3] [] @bA_wf
  | true =>
    refine rn1 (jn @rg.eq_1 @rgO.eq_1) ?_
    refine HO_callX ty_ok [0, 1, 2] (tag_ac n l bk who dom b hw h) (rg_hand _ _ _ _ _ _ _ rfl rfl rfl) (rg_wf _ _ _) ?_
    rintro v r' ⟨rfl, rfl⟩ _
    obtain ⟨K, hK⟩ : ∃ K, K = rtag n who dom b := ⟨_, rfl⟩
    have hKl : K.length = 32 := by rw [hK, rtag_len]
    rw [← hK]
    obtain ⟨hl, hb, ht, hm, hsp⟩ := dig32 K hKl
    have htl := bA_len t
    refine rn1 (jn @rg.eq_1 (jn @rgO.eq_1 (jn @hm (jn @hl (jn @hb (jn @ht @hsp)))))) ?_
    clear hsp
    have kd := equal_ac K t (by omega) (by omega)
    have hbd : ∀ K : List UInt8, K.length = 32 → (AV.d (.sl 1 32 (bD K))) = .d (.sl 1 32 (((bD K).drop 0).take (32 * 1))) := fun K hKl => by
      rw [List.drop_zero, List.take_of_length_le (by rw [bD_length, hKl]; decide)]
    rw [hKl, h2, hbd K hKl, hbd t h2] at kd
    refine ⟨⟨by decide, by decide⟩, HO_lend ty_ok kd (rfl) rfl rfl rfl (by kernel_rfl) ⟨BwA.osl rfl (bA_allD _) (by decide), BwA.osl rfl (bA_allD _) (by decide), trivial⟩ ?_⟩
    refine rn0 ?_
    exact fv1 [0,1,2,3] [] @bA_wf
end Go.Proofs.YtjpjnhljmloofaaDoor
