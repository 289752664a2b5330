import Derived.Test.YtjpjnhljmloofaaDoorCBase
set_option linter.unusedVariables false
set_option linter.unusedSimpArgs false
set_option maxRecDepth 100000
namespace Go.Proofs.YtjpjnhljmloofaaDoor
open Go Go.ChangeShapes Go.WideShapes
def rot (x n : Int) : Int := ibits .or .u32 (ishr .u32 x n) (ishl .u32 x (32 - n))
set_option maxHeartbeats 1000000 in
theorem turn_ac (x n : Int) (h0 : 0 ≤ n) (h1 : n ≤ 32) :
    AC Tryd.prog noG 54 [.d (.c (.int .u32 x)), .d (.c (.int .i64 n))] [] (fun v r' => v = .d (.c (.int .u32 (rot x n))) ∧ r' = []) := by
  refine AC.pure ?_ (by rintro v rfl; rfl)
  refine AC_of_R (N := 13) (res := [.tmp 4]) ty_ok Tryd.call54 Tryd.func54 rfl rfl rfl (Nat.le_of_ble_eq_true rfl) ?_
  refine rn0 ?_
  refine HC_plan [] ty_ok mix (by kernel_rfl) ?_
  refine rn0 ?_
  rfl
theorem rrot_ac (x n : Int) (h0 : 0 ≤ n) (h1 : n ≤ 32) :
    AC Tryd.prog noG 47 [.d (.c (.int .u32 x)), .d (.c (.int .u64 n))] [] (fun v r' => v = .d (.c (.int .u32 (rot x n))) ∧ r' = []) := by
  refine AC.pure ?_ (by rintro v rfl; rfl)
  refine AC_of_R (N := 13) (res := [.tmp 4]) ty_ok Tryd.call47 Tryd.func47 rfl rfl rfl (Nat.le_of_ble_eq_true rfl) ?_
  refine rn0 ?_
  rfl
end Go.Proofs.YtjpjnhljmloofaaDoor
