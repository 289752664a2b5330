import Derived.Test.YtjpjnhljmloofaaDoorCBase
set_option linter.unusedVariables false
set_option linter.unusedSimpArgs false
set_option maxRecDepth 100000
namespace Go.Proofs.YtjpjnhljmloofaaDoor
open Go Go.ChangeShapes Go.WideShapes
def lentD : List D := bD [203, 204]
set_option maxHeartbeats 1000000 in
theorem lent_ac (b : List UInt8) (hb : b.length ≤ 140737488355000) :
    AC Tryd.prog noG 13 [.d (.sl 1 b.length (bD b))] [] (fun v r' => v = .sl (.sp lentD) 1 b.length (bD b) ∧ r' = []) := by
  refine AC.pure ?_ (by rintro v rfl; rfl)
  refine AC_of_R (N := 14) (res := [.tmp 2]) ty_ok Tryd.call13 Tryd.func13 rfl rfl rfl (Nat.le_of_ble_eq_true rfl) ?_
  refine rn1 (jn @chk_pos @lentD.eq_1) ?_
  have e1 : (2 + (b.length : Int)).toNat = 2 + b.length := by omega
  have e2 : 2 + b.length = b.length + 1 + 1 := by omega
  have e3 : b.length + 1 + 1 - 2 = b.length := by omega
  rw [e1, e2, e3, List.drop_succ_cons, List.drop_succ_cons, List.drop_left, List.take_left]
  rfl
set_option maxHeartbeats 1000000 in
theorem kept_ac (b : List UInt8) (hb : b.length ≤ 140737488355000) :
    AC Tryd.prog noG 19 [.sl (.sp lentD) 1 b.length (bD b), .d (.sl 1 b.length (bD b))] [] (fun v r' => v = .d (.c (.bool true)) ∧ r' = []) := by
  refine AC.pure ?_ (by rintro v rfl; rfl)
  refine AC_of_R (N := 30) (res := [.tmp 4]) ty_ok Tryd.call19 Tryd.func19 rfl rfl rfl (Nat.le_of_ble_eq_true rfl) ?_
  refine rn0 ?_
  refine HO_cap ty_ok rfl rfl (by simp only [ST]; rfl) (by kernel_rfl) fun c hc => ?_
  have hl : lentD.length = 2 := rfl
  have e1 : ((b.length : Int) + 1).toNat = b.length + 1 := by omega
  have e2 : (b ++ [203, 204]).take (b.length + 1) = b ++ [203] := by rw [List.take_append, List.take_of_length_le (by omega), Nat.add_sub_cancel_left]; rfl
  have e4 : (bD [203])[0]? = some (.c (.int .u8 203)) := rfl
  refine rn1 (jn @bD_len (jn @lentD.eq_1 (jn @e1 (jn @e2 (jn @e4 @List.drop_left.{0}))))) ?_
  omega
end Go.Proofs.YtjpjnhljmloofaaDoor
