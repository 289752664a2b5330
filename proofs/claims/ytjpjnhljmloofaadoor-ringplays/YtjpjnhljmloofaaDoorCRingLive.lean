import Derived.Test.YtjpjnhljmloofaaDoorCRingVer
set_option linter.unusedVariables false
set_option linter.unusedSimpArgs false
set_option maxRecDepth 100000
namespace Go.Proofs.YtjpjnhljmloofaaDoor
open Go Go.ChangeShapes Go.WideShapes
def sa : ByteArray := ⟨#[97]⟩
def sbb : ByteArray := ⟨#[98]⟩
def sx : ByteArray := ⟨#[120]⟩
theorem ne_aa : newE [sa, sa] = 2 := by decide +kernel
theorem ne_a : newE [sa] = 0 := by decide +kernel
theorem se_b : signE [sa] [] sbb sx [] = 60 ∧ signB [sa] [] sbb sx [] = [] := by decide +kernel
theorem se_a : signE [sa] [] sa sx [] = 0 ∧ signB [sa] [] sa sx [] = [pr sa sx []] := by decide +kernel
theorem me_a : memB sa [sa] = true := by decide +kernel
set_option maxHeartbeats 400000 in
theorem rlive_ac : AC Tryd.prog noG 27 [] [] (fun v r' => v = .d (.c (.bool true)) ∧ r' = []) := by
  refine AC.pure ?_ (by rintro v rfl; rfl)
  refine AC_of_R (N := 53) (res := [.tmp 0]) ty_ok Tryd.call27 Tryd.func27 rfl rfl rfl (Nat.le_of_ble_eq_true rfl) ?_
  refine rn0 ?_
  refine HO_callX ty_ok [] (new_bad 1 [sa, sa] (by decide) (by decide) (by rw [ne_aa]; decide)) (trivial) rfl ?_
  rintro v r' ⟨rfl, rfl⟩ _
  refine rn1 @ne_aa ?_
  refine HO_callX ty_ok [] (new_ok 1 [sa] (by decide) (by decide) ne_a) (trivial) rfl ?_
  rintro v r' ⟨rfl, rfl⟩ _
  refine rn1 (jn @rg.eq_1 @rgO.eq_1) ?_
  refine HO_callX ty_ok [0, 1, 2] (sign_ac 1 [sa] [] sbb sx [] (by decide) (by decide)) (rg_hand _ _ _ _ _ _ _ rfl rfl rfl) (rg_wf _ _ _) ?_
  rintro v r' ⟨rfl, rfl⟩ _
  rw [se_b.1, se_b.2]
  have hZl := signT_len 1 [sa] [] sbb sx []
  generalize signT 1 [sa] [] sbb sx [] = Z at *
  obtain ⟨hl, hb, ht, hm, hsp⟩ := dig32 Z hZl
  refine rn1 (jn @rg.eq_1 (jn @rgO.eq_1 (jn @hl (jn @hb (jn @ht (jn @hm @hsp)))))) ?_
  clear hsp
  refine HO_callX ty_ok [0, 1, 2] (sign_ac 1 [sa] [] sa sx [] (by decide) (by decide)) (rg_hand _ _ _ _ _ _ _ rfl rfl rfl) (rg_wf _ _ _) ?_
  rintro v r' ⟨rfl, rfl⟩ _
  have hT : signT 1 [sa] [] sa sx [] = rtag 1 sa sx [] := by rw [signT, if_pos se_a.1]
  rw [se_a.1, se_a.2, hT]
  have hTl := rtag_len 1 sa sx []
  have kv := verifyO_ac 1 [sa] [pr sa sx []] sa sx [] (rtag 1 sa sx []) (by decide) hTl
  generalize rtag 1 sa sx [] = T at *
  obtain ⟨hl, hb, ht, hm, hsp⟩ := dig32 T hTl
  refine rn1 (jn @rg.eq_1 (jn @rgO.eq_1 (jn @hl (jn @hb (jn @ht (jn @hm @hsp)))))) ?_
  clear hsp
  refine ⟨⟨by decide, by decide⟩, HO_callX ty_ok [0, 1, 2, 4] kv (rgT_hand _ _ _ _ _ _ _ _ _ rfl rfl rfl rfl) (rgT_wf _ _ _ _) ?_⟩
  rintro v r' ⟨rfl, rfl⟩ _
  refine rn1 (jn @rgT.eq_1 (jn @rgO.eq_1 (jn @me_a @ren_bA))) ?_
  refine HO_callX ty_ok [0, 1, 2] (rlen_ac 1 [sa] [pr sa sx []]) (rg_hand _ _ _ _ _ _ _ rfl rfl rfl) (rg_wf _ _ _) ?_
  rintro v r' ⟨rfl, rfl⟩ _
  exact rz1 (jn @rg.eq_1 @rgO.eq_1)
end Go.Proofs.YtjpjnhljmloofaaDoor
