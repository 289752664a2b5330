import Derived.Test.YtjpjnhljmloofaaDoorCMacEq
import Derived.Test.YtjpjnhljmloofaaDoorCLent
set_option linter.unusedVariables false
set_option linter.unusedSimpArgs false
set_option maxRecDepth 100000
namespace Go.Proofs.YtjpjnhljmloofaaDoor
open Go Go.ChangeShapes Go.WideShapes
theorem live_t : mtx ⟨#[97]⟩ [1, 2] = [2, 97, 1, 2] := by decide +kernel
set_option maxHeartbeats 400000 in
theorem mlive_ac : AC Tryd.prog noG 12 [] [] (fun v r' => v = .d (.c (.bool true)) ∧ r' = []) := by
  refine AC.pure ?_ (by rintro v rfl; rfl)
  refine AC_of_R (N := 20) (res := [.tmp 0]) ty_ok Tryd.call12 Tryd.func12 rfl rfl rfl (Nat.le_of_ble_eq_true rfl) ?_
  refine rn0 ?_
  refine HO_pureA ty_ok (mText_ac ⟨#[97]⟩ [1, 2] (by decide)) ?_
  refine rn1 @live_t ?_
  refine HO_pureA ty_ok (same_ac [2, 97, 1, 2] [2, 97, 1, 2] (by decide) (by decide)) ?_
  refine rn0 ?_
  refine HO_pureA ty_ok (equal_ac [] [] (by decide) (by decide)) ?_
  refine rn0 ?_
  refine HO_pureA ty_ok (equal_ac [1] [2] (by decide) (by decide)) ?_
  have h12 : ¬ ([1] : List UInt8) = [2] := by decide
  refine rn1 @h12 ?_
  refine HO_pureA ty_ok (mTag_ac [] ⟨#[97]⟩ [] (by decide) (by decide)) ?_
  refine rn0 ?_
  refine HO_pureA ty_ok (rTag_ac [] ⟨#[97]⟩ [] (by decide) (by decide)) ?_
  have hT := tagS_len [] ⟨#[97]⟩ []
  generalize tagS [] ⟨#[97]⟩ [] = T at *
  exact rz1 @hT
end Go.Proofs.YtjpjnhljmloofaaDoor
