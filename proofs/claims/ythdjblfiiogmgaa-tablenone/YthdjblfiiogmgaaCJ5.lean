/- Parts of the proof: TbNoneA, TbPut, TbLive. -/
import Derived.Test.YthdjblfiiogmgaaCJ4
import Derived.Test.YthdjblfiiogmgaaCJ3
set_option linter.unusedVariables false
set_option linter.unusedSimpArgs false
set_option maxRecDepth 100000
namespace Go.Proofs.Ythdjblfiiogmgaa
open Go Go.ChangeShapes Go.WideShapes
/-! .. tells nothing. -/
def aAN : Rs := [] ++ [some (.obj [.d (.c (.pointer none))]), some (.obj [.fn (.func 59) [] []])]
set_option maxHeartbeats 400000 in
theorem someAN_ac : AC Try.prog noG 58 [.d (.c (.pointer none)), .fn (.func 59) [] []] [] (fun v r' => v = .fn (.func 85) [] [.ptr 0 0, .ptr 1 0] ∧ r' = aAN) := by
  refine AC.fit ?_
  refine AC_of_R (N := 6) (res := [.tmp 4]) ty_ok Try.call58 Try.func58 rfl rfl rfl (Nat.le_of_ble_eq_true rfl) ?_
  refine rn1 @zb.eq_1 ?_
  exact fv1 [0,1] [] (jn @aAN.eq_1 @zb.eq_1)
set_option maxHeartbeats 400000 in
theorem allAN_ac : AC Try.prog noG 17 [.d (.c (.pointer none))] [] (fun v r' => v = .fn (.func 85) [] [.ptr 0 0, .ptr 1 0] ∧ r' = aAN) := by
  refine AC.fit ?_
  refine AC_of_R (N := 5) (res := [.tmp 2]) ty_ok Try.call17 Try.func17 rfl rfl rfl (Nat.le_of_ble_eq_true rfl) ?_
  refine rn1 @zb.eq_1 ?_
  refine HO_callX ty_ok [] someAN_ac (trivial) rfl ?_
  rintro v r' ⟨rfl, rfl⟩ _
  refine rn1 (jn @aAN.eq_1 @zb.eq_1) ?_
  exact fv1 [0,1] [] (jn @aAN.eq_1 @zb.eq_1)
set_option maxHeartbeats 400000 in
theorem some1AN_ac (l : Nat) : AC Try.prog noG 85 [.fn (.yield l) [] [], .ptr 0 0, .ptr 1 0] aAN (fun v r' => v = .tup [] ∧ r' = aAN) := by
  refine AC.fit ?_
  refine AC_of_R (N := 30) (res := []) ty_ok Try.call85 Try.func85 rfl rfl rfl (Nat.le_of_ble_eq_true rfl) ?_
  have k := bnoneN_ac
  refine rn1 (jn @aAN.eq_1 @zb.eq_1) ?_
  refine HO_callX ty_ok [] k (trivial) rfl ?_
  rintro v r' ⟨rfl, rfl⟩ _
  refine rn1 @zb.eq_1 ?_
  exact fv1 [0,1] [] (jn @aAN.eq_1 @zb.eq_1)
set_option maxHeartbeats 400000 in
theorem gathAN_ac (n : Int) : AC Try.prog noG 16 [.fn (.func 85) [] [.ptr 0 0, .ptr 1 0], .d (.c (.int .i64 n))] aAN (fun v r' => v = .d (.sl 4 0 []) ∧ r' = aAN) := by
  refine AC.fit ?_
  refine ACM_of_R (N := 21) (res := [.tmp 4]) ty_ok Try.call16 Try.func16 rfl rfl rfl (Nat.le_of_ble_eq_true rfl) ?_
  intro n0
  refine rn1 (jn @aAN.eq_1 @zb.eq_1) ?_
  refine R_range (HC_range0 [0, 1] (fun l => (some1AN_ac l).at) rfl rfl rfl (by decide) (by simp) (fun l => (by repeat' (first | exact trivial | exact WeakA.refl _ | refine ⟨?_, ?_⟩))) (fun l => rfl) (by repeat' (first | exact trivial | (intro y h; injection h with h; subst h; rfl) | (intro y h; cases h; done) | refine ⟨?_, ?_⟩)) rfl ?_)
  rintro v r' ⟨rfl, rfl⟩ _
  refine rn1 (jn @aAN.eq_1 @zb.eq_1) ?_
  exact fv1 [0,1] [] (jn @aAN.eq_1 @zb.eq_1)
def bON (a b c : ByteArray) : Rs := [] ++ [some (.obj [.d (.c (.string a))]), some (.obj [.d (.c (.string b))]), some (.obj [.d (.c (.string c))]), some (.obj [.fn (.func 65) [] []])]
def aON (a b c : ByteArray) : Rs := bON a b c ++ [some (.obj [.d (.c (.pointer none))]), some (.obj [.fn (.func 66) [] [.ptr 3 0, .ptr 0 0, .ptr 1 0, .ptr 2 0]])]
set_option maxHeartbeats 400000 in
theorem someON_ac (a b c : ByteArray) : AC Try.prog noG 58 [.d (.c (.pointer none)), .fn (.func 66) [] [.ptr 3 0, .ptr 0 0, .ptr 1 0, .ptr 2 0]] (bON a b c) (fun v r' => v = .fn (.func 85) [] [.ptr 4 0, .ptr 5 0] ∧ r' = aON a b c) := by
  refine AC.fit ?_
  refine AC_of_R (N := 6) (res := [.tmp 4]) ty_ok Try.call58 Try.func58 rfl rfl rfl (Nat.le_of_ble_eq_true rfl) ?_
  refine rn1 (jn @aON.eq_1 (jn @bON.eq_1 @zb.eq_1)) ?_
  exact fv1 [0,1,2,3,4,5] [] (jn @aON.eq_1 (jn @bON.eq_1 @zb.eq_1))
set_option maxHeartbeats 400000 in
theorem allON_ac (a b c : ByteArray) : AC Try.prog noG 30 [.d (.c (.pointer none)), .d (.c (.string a)), .d (.c (.string b)), .d (.c (.string c))] [] (fun v r' => v = .fn (.func 85) [] [.ptr 4 0, .ptr 5 0] ∧ r' = aON a b c) := by
  refine AC.fit ?_
  refine AC_of_R (N := 13) (res := [.tmp 8]) ty_ok Try.call30 Try.func30 rfl rfl rfl (Nat.le_of_ble_eq_true rfl) ?_
  refine rn1 @zb.eq_1 ?_
  refine HO_call ty_ok [0, 1, 2, 3] (someON_ac a b c) rfl rfl rfl (by kernel_rfl) (by decide) ⟨(by simp), (by repeat' (first | exact trivial | exact WeakA.refl _ | exact WeakA.toD rfl | exact WeakA.nilD _ | refine ⟨?_, ?_⟩)), rfl, (by repeat' (first | exact trivial | (intro y h; injection h with h; subst h; rfl) | (intro y h; cases h; done) | refine ⟨?_, ?_⟩)), rfl⟩ (by first | exact .inl rfl | exact .inr rfl) ?_
  rintro v r' ⟨rfl, rfl⟩ _
  refine rn1 (jn @aON.eq_1 (jn @bON.eq_1 @zb.eq_1)) ?_
  exact fv1 [0,1,2,3,4,5] [] (jn @aON.eq_1 (jn @bON.eq_1 @zb.eq_1))
set_option maxHeartbeats 400000 in
theorem some1ON_ac (a b c : ByteArray) (l : Nat) : AC Try.prog noG 85 [.fn (.yield l) [] [], .ptr 4 0, .ptr 5 0] (aON a b c) (fun v r' => v = .tup [] ∧ r' = aON a b c) := by
  refine AC.fit ?_
  refine AC_of_R (N := 30) (res := []) ty_ok Try.call85 Try.func85 rfl rfl rfl (Nat.le_of_ble_eq_true rfl) ?_
  have k := bnoneN_ac
  refine rn1 (jn @aON.eq_1 (jn @bON.eq_1 @zb.eq_1)) ?_
  refine HO_callX ty_ok [] k (trivial) rfl ?_
  rintro v r' ⟨rfl, rfl⟩ _
  refine rn1 @zb.eq_1 ?_
  exact fv1 [0,1,2,3,4,5] [] (jn @aON.eq_1 (jn @bON.eq_1 @zb.eq_1))
set_option maxHeartbeats 400000 in
theorem gathON_ac (a b c : ByteArray) (n : Int) : AC Try.prog noG 16 [.fn (.func 85) [] [.ptr 4 0, .ptr 5 0], .d (.c (.int .i64 n))] (aON a b c) (fun v r' => v = .d (.sl 4 0 []) ∧ r' = aON a b c) := by
  refine AC.fit ?_
  refine ACM_of_R (N := 21) (res := [.tmp 4]) ty_ok Try.call16 Try.func16 rfl rfl rfl (Nat.le_of_ble_eq_true rfl) ?_
  intro n0
  refine rn1 (jn @aON.eq_1 (jn @bON.eq_1 @zb.eq_1)) ?_
  refine R_range (HC_range0 [0, 1, 2, 3, 4, 5] (fun l => (some1ON_ac a b c l).at) rfl rfl rfl (by decide) (by simp) (fun l => (by repeat' (first | exact trivial | exact WeakA.refl _ | refine ⟨?_, ?_⟩))) (fun l => rfl) (by repeat' (first | exact trivial | (intro y h; injection h with h; subst h; rfl) | (intro y h; cases h; done) | refine ⟨?_, ?_⟩)) rfl ?_)
  rintro v r' ⟨rfl, rfl⟩ _
  refine rn1 (jn @aON.eq_1 (jn @bON.eq_1 @zb.eq_1)) ?_
  exact fv1 [0,1,2,3,4,5] [] (jn @aON.eq_1 (jn @bON.eq_1 @zb.eq_1))
def aFN (s : ByteArray) (q : Int) (c : Cst) : Rs := [] ++ [some (.obj [.d (.c (.pointer none))]), some (.obj [.d (.c (.string s))]), some (.obj [.d (.c (.int .i64 q))]), some (.obj [.d (.c (.bool c.num)), .d (.c (.int .i64 c.n)), .d (.c (.string c.s))])]
set_option maxHeartbeats 400000 in
theorem allFN_ac (s : ByteArray) (q : Int) (c : Cst) : AC Try.prog noG 48 [.d (.c (.pointer none)), .d (.c (.string s)), .d (.c (.int .i64 q)), .d (.agg (cstE c))] [] (fun v r' => v = .fn (.func 76) [] [.ptr 0 0, .ptr 1 0, .ptr 2 0, .ptr 3 0] ∧ r' = aFN s q c) := by
  refine AC.fit ?_
  refine AC_of_R (N := 10) (res := [.tmp 8]) ty_ok Try.call48 Try.func48 rfl rfl rfl (Nat.le_of_ble_eq_true rfl) ?_
  refine rn1 (jn @cstE.eq_1 @zb.eq_1) ?_
  exact fv1 [0,1,2,3] [] (jn @aFN.eq_1 @zb.eq_1)
set_option maxHeartbeats 400000 in
theorem find1N_ac (s : ByteArray) (q : Int) (c : Cst) (l : Nat) : AC Try.prog noG 76 [.fn (.yield l) [] [], .ptr 0 0, .ptr 1 0, .ptr 2 0, .ptr 3 0] (aFN s q c) (fun v r' => v = .tup [] ∧ r' = aFN s q c) := by
  refine AC.fit ?_
  refine ACM_of_R (N := 39) (res := []) ty_ok Try.call76 Try.func76 rfl rfl rfl (Nat.le_of_ble_eq_true rfl) ?_
  intro n0
  have k := (allAN_ac).at (n := n0)
  refine rn1 (jn @aFN.eq_1 @zb.eq_1) ?_
  refine HO_callX ty_ok [] k (trivial) rfl ?_
  rintro v r' ⟨rfl, rfl⟩ _
  refine rn1 (jn @aAN.eq_1 @zb.eq_1) ?_
  refine R_range (HC_range0 [5, 6] (fun l => (some1AN_ac l).at) rfl rfl rfl (by decide) (by simp) (fun l => (by repeat' (first | exact trivial | exact WeakA.refl _ | refine ⟨?_, ?_⟩))) (fun l => rfl) (by repeat' (first | exact trivial | (intro y h; injection h with h; subst h; rfl) | (intro y h; cases h; done) | refine ⟨?_, ?_⟩)) rfl ?_)
  rintro v r' ⟨rfl, rfl⟩ _
  refine rn1 (jn @aAN.eq_1 @zb.eq_1) ?_
  exact fv1 [0,1,2,3] [] (jn @aFN.eq_1 @zb.eq_1)
set_option maxHeartbeats 400000 in
theorem gathFN_ac (s : ByteArray) (q : Int) (c : Cst) (n : Int) : AC Try.prog noG 16 [.fn (.func 76) [] [.ptr 0 0, .ptr 1 0, .ptr 2 0, .ptr 3 0], .d (.c (.int .i64 n))] (aFN s q c) (fun v r' => v = .d (.sl 4 0 []) ∧ r' = aFN s q c) := by
  refine AC.fit ?_
  refine ACM_of_R (N := 21) (res := [.tmp 4]) ty_ok Try.call16 Try.func16 rfl rfl rfl (Nat.le_of_ble_eq_true rfl) ?_
  intro n0
  refine rn1 (jn @aFN.eq_1 @zb.eq_1) ?_
  refine R_range (HC_range0 [0, 1, 2, 3] (fun l => (find1N_ac s q c l).at) rfl rfl rfl (by decide) (by simp) (fun l => (by repeat' (first | exact trivial | exact WeakA.refl _ | refine ⟨?_, ?_⟩))) (fun l => rfl) (by repeat' (first | exact trivial | (intro y h; injection h with h; subst h; rfl) | (intro y h; cases h; done) | refine ⟨?_, ?_⟩)) rfl ?_)
  rintro v r' ⟨rfl, rfl⟩ _
  refine rn1 (jn @aFN.eq_1 @zb.eq_1) ?_
  exact fv1 [0,1,2,3] [] (jn @aFN.eq_1 @zb.eq_1)
def aAZ : Rs := zb ++ [some (.obj [.ptr 0 0]), some (.obj [.fn (.func 59) [] []])]
set_option maxHeartbeats 400000 in
theorem someAZ_ac : AC Try.prog noG 58 [.ptr 0 0, .fn (.func 59) [] []] zb (fun v r' => v = .fn (.func 85) [] [.ptr 1 0, .ptr 2 0] ∧ r' = aAZ) := by
  refine AC.fit ?_
  refine AC_of_R (N := 6) (res := [.tmp 4]) ty_ok Try.call58 Try.func58 rfl rfl rfl (Nat.le_of_ble_eq_true rfl) ?_
  refine rn1 @zb.eq_1 ?_
  exact fv1 [0,1,2] [] (jn @aAZ.eq_1 @zb.eq_1)
set_option maxHeartbeats 400000 in
theorem allAZ_ac : AC Try.prog noG 17 [.ptr 0 0] zb (fun v r' => v = .fn (.func 85) [] [.ptr 1 0, .ptr 2 0] ∧ r' = aAZ) := by
  refine AC.fit ?_
  refine AC_of_R (N := 5) (res := [.tmp 2]) ty_ok Try.call17 Try.func17 rfl rfl rfl (Nat.le_of_ble_eq_true rfl) ?_
  refine rn1 @zb.eq_1 ?_
  refine HO_call ty_ok [0] someAZ_ac rfl rfl rfl (by kernel_rfl) (by decide) ⟨(by simp), (by repeat' (first | exact trivial | exact WeakA.refl _ | exact WeakA.toD rfl | exact WeakA.nilD _ | refine ⟨?_, ?_⟩)), rfl, (by repeat' (first | exact trivial | (intro y h; injection h with h; subst h; rfl) | (intro y h; cases h; done) | refine ⟨?_, ?_⟩)), rfl⟩ (by first | exact .inl rfl | exact .inr rfl) ?_
  rintro v r' ⟨rfl, rfl⟩ _
  refine rn1 (jn @aAZ.eq_1 @zb.eq_1) ?_
  exact fv1 [0,1,2] [] (jn @aAZ.eq_1 @zb.eq_1)
set_option maxHeartbeats 400000 in
theorem some1AZ_ac (l : Nat) : AC Try.prog noG 85 [.fn (.yield l) [] [], .ptr 1 0, .ptr 2 0] aAZ (fun v r' => v = .tup [] ∧ r' = aAZ) := by
  refine AC.fit ?_
  refine AC_of_R (N := 30) (res := []) ty_ok Try.call85 Try.func85 rfl rfl rfl (Nat.le_of_ble_eq_true rfl) ?_
  have k := bnoneZ_ac
  refine rn1 (jn @aAZ.eq_1 @zb.eq_1) ?_
  refine HO_call ty_ok [0] k rfl rfl rfl (by kernel_rfl) (by decide) ⟨(by simp), (by repeat' (first | exact trivial | exact WeakA.refl _ | exact WeakA.toD rfl | exact WeakA.nilD _ | refine ⟨?_, ?_⟩)), rfl, (by repeat' (first | exact trivial | (intro y h; injection h with h; subst h; rfl) | (intro y h; cases h; done) | refine ⟨?_, ?_⟩)), rfl⟩ (by first | exact .inl rfl | exact .inr rfl) ?_
  rintro v r' ⟨rfl, rfl⟩ _
  refine rn1 @zb.eq_1 ?_
  exact fv1 [0,1,2] [] (jn @aAZ.eq_1 @zb.eq_1)
set_option maxHeartbeats 400000 in
theorem gathAZ_ac (n : Int) : AC Try.prog noG 16 [.fn (.func 85) [] [.ptr 1 0, .ptr 2 0], .d (.c (.int .i64 n))] aAZ (fun v r' => v = .d (.sl 4 0 []) ∧ r' = aAZ) := by
  refine AC.fit ?_
  refine ACM_of_R (N := 21) (res := [.tmp 4]) ty_ok Try.call16 Try.func16 rfl rfl rfl (Nat.le_of_ble_eq_true rfl) ?_
  intro n0
  refine rn1 (jn @aAZ.eq_1 @zb.eq_1) ?_
  refine R_range (HC_range0 [0, 1, 2] (fun l => (some1AZ_ac l).at) rfl rfl rfl (by decide) (by simp) (fun l => (by repeat' (first | exact trivial | exact WeakA.refl _ | refine ⟨?_, ?_⟩))) (fun l => rfl) (by repeat' (first | exact trivial | (intro y h; injection h with h; subst h; rfl) | (intro y h; cases h; done) | refine ⟨?_, ?_⟩)) rfl ?_)
  rintro v r' ⟨rfl, rfl⟩ _
  refine rn1 (jn @aAZ.eq_1 @zb.eq_1) ?_
  exact fv1 [0,1,2] [] (jn @aAZ.eq_1 @zb.eq_1)
def bOZ (a b c : ByteArray) : Rs := zb ++ [some (.obj [.d (.c (.string a))]), some (.obj [.d (.c (.string b))]), some (.obj [.d (.c (.string c))]), some (.obj [.fn (.func 65) [] []])]
def aOZ (a b c : ByteArray) : Rs := bOZ a b c ++ [some (.obj [.ptr 0 0]), some (.obj [.fn (.func 66) [] [.ptr 4 0, .ptr 1 0, .ptr 2 0, .ptr 3 0]])]
set_option maxHeartbeats 400000 in
theorem someOZ_ac (a b c : ByteArray) : AC Try.prog noG 58 [.ptr 0 0, .fn (.func 66) [] [.ptr 4 0, .ptr 1 0, .ptr 2 0, .ptr 3 0]] (bOZ a b c) (fun v r' => v = .fn (.func 85) [] [.ptr 5 0, .ptr 6 0] ∧ r' = aOZ a b c) := by
  refine AC.fit ?_
  refine AC_of_R (N := 6) (res := [.tmp 4]) ty_ok Try.call58 Try.func58 rfl rfl rfl (Nat.le_of_ble_eq_true rfl) ?_
  refine rn1 (jn @aOZ.eq_1 (jn @bOZ.eq_1 @zb.eq_1)) ?_
  exact fv1 [0,1,2,3,4,5,6] [] (jn @aOZ.eq_1 (jn @bOZ.eq_1 @zb.eq_1))
set_option maxHeartbeats 400000 in
theorem allOZ_ac (a b c : ByteArray) : AC Try.prog noG 30 [.ptr 0 0, .d (.c (.string a)), .d (.c (.string b)), .d (.c (.string c))] zb (fun v r' => v = .fn (.func 85) [] [.ptr 5 0, .ptr 6 0] ∧ r' = aOZ a b c) := by
  refine AC.fit ?_
  refine AC_of_R (N := 13) (res := [.tmp 8]) ty_ok Try.call30 Try.func30 rfl rfl rfl (Nat.le_of_ble_eq_true rfl) ?_
  refine rn1 @zb.eq_1 ?_
  refine HO_call ty_ok [0, 1, 2, 3, 4] (someOZ_ac a b c) rfl rfl rfl (by kernel_rfl) (by decide) ⟨(by simp), (by repeat' (first | exact trivial | exact WeakA.refl _ | exact WeakA.toD rfl | exact WeakA.nilD _ | refine ⟨?_, ?_⟩)), rfl, (by repeat' (first | exact trivial | (intro y h; injection h with h; subst h; rfl) | (intro y h; cases h; done) | refine ⟨?_, ?_⟩)), rfl⟩ (by first | exact .inl rfl | exact .inr rfl) ?_
  rintro v r' ⟨rfl, rfl⟩ _
  refine rn1 (jn @aOZ.eq_1 (jn @bOZ.eq_1 @zb.eq_1)) ?_
  exact fv1 [0,1,2,3,4,5,6] [] (jn @aOZ.eq_1 (jn @bOZ.eq_1 @zb.eq_1))
set_option maxHeartbeats 400000 in
theorem some1OZ_ac (a b c : ByteArray) (l : Nat) : AC Try.prog noG 85 [.fn (.yield l) [] [], .ptr 5 0, .ptr 6 0] (aOZ a b c) (fun v r' => v = .tup [] ∧ r' = aOZ a b c) := by
  refine AC.fit ?_
  refine AC_of_R (N := 30) (res := []) ty_ok Try.call85 Try.func85 rfl rfl rfl (Nat.le_of_ble_eq_true rfl) ?_
  have k := bnoneZ_ac
  refine rn1 (jn @aOZ.eq_1 (jn @bOZ.eq_1 @zb.eq_1)) ?_
  refine HO_call ty_ok [0] k rfl rfl rfl (by kernel_rfl) (by decide) ⟨(by simp), (by repeat' (first | exact trivial | exact WeakA.refl _ | exact WeakA.toD rfl | exact WeakA.nilD _ | refine ⟨?_, ?_⟩)), rfl, (by repeat' (first | exact trivial | (intro y h; injection h with h; subst h; rfl) | (intro y h; cases h; done) | refine ⟨?_, ?_⟩)), rfl⟩ (by first | exact .inl rfl | exact .inr rfl) ?_
  rintro v r' ⟨rfl, rfl⟩ _
  refine rn1 @zb.eq_1 ?_
  exact fv1 [0,1,2,3,4,5,6] [] (jn @aOZ.eq_1 (jn @bOZ.eq_1 @zb.eq_1))
set_option maxHeartbeats 400000 in
theorem gathOZ_ac (a b c : ByteArray) (n : Int) : AC Try.prog noG 16 [.fn (.func 85) [] [.ptr 5 0, .ptr 6 0], .d (.c (.int .i64 n))] (aOZ a b c) (fun v r' => v = .d (.sl 4 0 []) ∧ r' = aOZ a b c) := by
  refine AC.fit ?_
  refine ACM_of_R (N := 21) (res := [.tmp 4]) ty_ok Try.call16 Try.func16 rfl rfl rfl (Nat.le_of_ble_eq_true rfl) ?_
  intro n0
  refine rn1 (jn @aOZ.eq_1 (jn @bOZ.eq_1 @zb.eq_1)) ?_
  refine R_range (HC_range0 [0, 1, 2, 3, 4, 5, 6] (fun l => (some1OZ_ac a b c l).at) rfl rfl rfl (by decide) (by simp) (fun l => (by repeat' (first | exact trivial | exact WeakA.refl _ | refine ⟨?_, ?_⟩))) (fun l => rfl) (by repeat' (first | exact trivial | (intro y h; injection h with h; subst h; rfl) | (intro y h; cases h; done) | refine ⟨?_, ?_⟩)) rfl ?_)
  rintro v r' ⟨rfl, rfl⟩ _
  refine rn1 (jn @aOZ.eq_1 (jn @bOZ.eq_1 @zb.eq_1)) ?_
  exact fv1 [0,1,2,3,4,5,6] [] (jn @aOZ.eq_1 (jn @bOZ.eq_1 @zb.eq_1))
def aFZ (s : ByteArray) (q : Int) (c : Cst) : Rs := zb ++ [some (.obj [.ptr 0 0]), some (.obj [.d (.c (.string s))]), some (.obj [.d (.c (.int .i64 q))]), some (.obj [.d (.c (.bool c.num)), .d (.c (.int .i64 c.n)), .d (.c (.string c.s))])]
set_option maxHeartbeats 400000 in
theorem allFZ_ac (s : ByteArray) (q : Int) (c : Cst) : AC Try.prog noG 48 [.ptr 0 0, .d (.c (.string s)), .d (.c (.int .i64 q)), .d (.agg (cstE c))] zb (fun v r' => v = .fn (.func 76) [] [.ptr 1 0, .ptr 2 0, .ptr 3 0, .ptr 4 0] ∧ r' = aFZ s q c) := by
  refine AC.fit ?_
  refine AC_of_R (N := 10) (res := [.tmp 8]) ty_ok Try.call48 Try.func48 rfl rfl rfl (Nat.le_of_ble_eq_true rfl) ?_
  refine rn1 (jn @cstE.eq_1 @zb.eq_1) ?_
  exact fv1 [0,1,2,3,4] [] (jn @aFZ.eq_1 @zb.eq_1)
set_option maxHeartbeats 400000 in
theorem find1Z_ac (s : ByteArray) (q : Int) (c : Cst) (l : Nat) : AC Try.prog noG 76 [.fn (.yield l) [] [], .ptr 1 0, .ptr 2 0, .ptr 3 0, .ptr 4 0] (aFZ s q c) (fun v r' => v = .tup [] ∧ r' = aFZ s q c) := by
  refine AC.fit ?_
  refine ACM_of_R (N := 39) (res := []) ty_ok Try.call76 Try.func76 rfl rfl rfl (Nat.le_of_ble_eq_true rfl) ?_
  intro n0
  have k := (allAZ_ac).at (n := n0)
  refine rn1 (jn @aFZ.eq_1 @zb.eq_1) ?_
  refine HO_call ty_ok [0] k rfl rfl rfl (by kernel_rfl) (by decide) ⟨(by simp), (by repeat' (first | exact trivial | exact WeakA.refl _ | exact WeakA.toD rfl | exact WeakA.nilD _ | refine ⟨?_, ?_⟩)), rfl, (by repeat' (first | exact trivial | (intro y h; injection h with h; subst h; rfl) | (intro y h; cases h; done) | refine ⟨?_, ?_⟩)), rfl⟩ (by first | exact .inl rfl | exact .inr rfl) ?_
  rintro v r' ⟨rfl, rfl⟩ _
  refine rn1 (jn @aAZ.eq_1 @zb.eq_1) ?_
  refine R_range (HC_range0 [0, 6, 7] (fun l => (some1AZ_ac l).at) rfl rfl rfl (by decide) (by simp) (fun l => (by repeat' (first | exact trivial | exact WeakA.refl _ | refine ⟨?_, ?_⟩))) (fun l => rfl) (by repeat' (first | exact trivial | (intro y h; injection h with h; subst h; rfl) | (intro y h; cases h; done) | refine ⟨?_, ?_⟩)) rfl ?_)
  rintro v r' ⟨rfl, rfl⟩ _
  refine rn1 (jn @aAZ.eq_1 @zb.eq_1) ?_
  exact fv1 [0,1,2,3,4] [] (jn @aFZ.eq_1 @zb.eq_1)
set_option maxHeartbeats 400000 in
theorem gathFZ_ac (s : ByteArray) (q : Int) (c : Cst) (n : Int) : AC Try.prog noG 16 [.fn (.func 76) [] [.ptr 1 0, .ptr 2 0, .ptr 3 0, .ptr 4 0], .d (.c (.int .i64 n))] (aFZ s q c) (fun v r' => v = .d (.sl 4 0 []) ∧ r' = aFZ s q c) := by
  refine AC.fit ?_
  refine ACM_of_R (N := 21) (res := [.tmp 4]) ty_ok Try.call16 Try.func16 rfl rfl rfl (Nat.le_of_ble_eq_true rfl) ?_
  intro n0
  refine rn1 (jn @aFZ.eq_1 @zb.eq_1) ?_
  refine R_range (HC_range0 [0, 1, 2, 3, 4] (fun l => (find1Z_ac s q c l).at) rfl rfl rfl (by decide) (by simp) (fun l => (by repeat' (first | exact trivial | exact WeakA.refl _ | refine ⟨?_, ?_⟩))) (fun l => rfl) (by repeat' (first | exact trivial | (intro y h; injection h with h; subst h; rfl) | (intro y h; cases h; done) | refine ⟨?_, ?_⟩)) rfl ?_)
  rintro v r' ⟨rfl, rfl⟩ _
  refine rn1 (jn @aFZ.eq_1 @zb.eq_1) ?_
  exact fv1 [0,1,2,3,4] [] (jn @aFZ.eq_1 @zb.eq_1)
end Go.Proofs.Ythdjblfiiogmgaa

set_option linter.unusedVariables false
set_option linter.unusedSimpArgs false
set_option maxRecDepth 100000
namespace Go.Proofs.Ythdjblfiiogmgaa
open Go Go.ChangeShapes Go.WideShapes
/-! table: find, Has, Put, Len, New. -/
def tblC (L : List Fct) (m : Int) : List AV := [.d (.sl 4 L.length (flatE fctE L)), .d (.c (.int .i64 m))]
def tbl (L : List Fct) (m : Int) : Rs := [some (.obj (tblC L m))]
theorem tbl_hand (L : List Fct) (m : Int) (rc : Rs) (i : Nat) (hi : rc[i]? = some (some (.obj (tblC L m)))) : HandOK (nm [i] rc.length) rc (tbl L m) [i] := by
  refine ⟨fun y h => ?_, trivial⟩
  injection h with h; subst h
  rw [hi]; rfl
theorem tbl_wf (L : List Fct) (m : Int) : wfRs (tbl L m).length (tbl L m) = true := rfl
structure okB (L : List Fct) : Prop where
  len : L.length ≤ 100000
  ok : ∀ g ∈ L, g.l.length ≤ 1000000
  srt : srtF L
def errB (L : List Fct) (m : Int) (f : Fct) : Int := if chkE f ≠ 0 then chkE f else if f ∈ L then 151 else if m ≤ L.length then 150 else 0
def insB (L : List Fct) (m : Int) (f : Fct) : List Fct := if errB L m f = 0 then insFc L f else L
theorem bnone_ac (L : List Fct) (m : Int) (hm : m ≠ 0) : AC Try.prog noG 52 [.ptr 0 0] (tbl L m) (fun v r' => v = .d (.c (.bool false)) ∧ r' = tbl L m) := by
  refine AC_of_R (N := 12) (res := [.tmp 2]) ty_ok Try.call52 Try.func52 rfl rfl rfl (Nat.le_of_ble_eq_true rfl) ?_
  exact rz1 (jn @tbl.eq_1 (jn @tblC.eq_1 @hm))
theorem bfind_ac (L : List Fct) (m : Int) (hL : okB L) (f : Fct) (hf : f.l.length ≤ 140737488352000) : AC Try.prog noG 54 [.ptr 0 0, .d (.agg (fctE f))] (tbl L m) (fun v r' => v = .tup [.d (.c (.int .i64 (posF L f))), .d (.c (.bool (decide (f ∈ L))))] ∧ r' = tbl L m) := by
  refine AC.fit ?_
  refine AC_of_R (N := 14) (res := [.tmp 4, .tmp 5]) ty_ok Try.call54 Try.func54 rfl rfl rfl (Nat.le_of_ble_eq_true rfl) ?_
  have hl := hL.len
  have kb := bsF_ac L f (posF L f) (by omega) (fun g hg => Nat.le_trans (hL.ok g hg) (by decide)) hf (posF_le L f) (posF_lt L f) (posF_ge L f hL.srt) (decide (f ∈ L)) (posF_mem hL.srt f)
  simp only [fctE, List.cons_append, List.nil_append] at kb
  refine rn1 (jn @tbl.eq_1 (jn @tblC.eq_1 @fctE.eq_1)) ?_
  refine HC_plan [] ty_ok mix (by kernel_rfl) ?_
  refine rn0 ?_
  refine HO_pureA ty_ok kb ?_
  refine rn0 ?_
  exact fv1 [0] [] (jn @tbl.eq_1 @tblC.eq_1)
theorem bhas_ac (L : List Fct) (m : Int) (hm : m ≠ 0) (hL : okB L) (f : Fct) (hf : f.l.length ≤ 140737488352000) : AC Try.prog noG 50 [.ptr 0 0, .d (.agg (fctE f))] (tbl L m) (fun v r' => v = .d (.c (.bool (decide (f ∈ L)))) ∧ r' = tbl L m) := by
  refine AC.fit ?_
  refine AC_of_R (N := 16) (res := [.tmp 4]) ty_ok Try.call50 Try.func50 rfl rfl rfl (Nat.le_of_ble_eq_true rfl) ?_
  have k := bnone_ac L m hm
  have kf := bfind_ac L m hL f hf
  simp only [fctE, List.cons_append, List.nil_append] at kf
  refine rn1 (jn @tbl.eq_1 (jn @tblC.eq_1 @fctE.eq_1)) ?_
  refine HO_callX ty_ok [0] k (tbl_hand _ _ _ _ rfl) (tbl_wf _ _) ?_
  rintro v r' ⟨rfl, rfl⟩ _
  refine rn1 (jn @tbl.eq_1 @tblC.eq_1) ?_
  refine HO_callX ty_ok [0] kf (tbl_hand _ _ _ _ rfl) (tbl_wf _ _) ?_
  rintro v r' ⟨rfl, rfl⟩ _
  refine rn1 (jn @tbl.eq_1 @tblC.eq_1) ?_
  exact fv1 [0] [] (jn @tbl.eq_1 @tblC.eq_1)
theorem blen_ac (L : List Fct) (m : Int) (hm : m ≠ 0) : AC Try.prog noG 19 [.ptr 0 0] (tbl L m) (fun v r' => v = .d (.c (.int .i64 L.length)) ∧ r' = tbl L m) := by
  refine AC.fit ?_
  refine AC_of_R (N := 10) (res := [.tmp 2]) ty_ok Try.call19 Try.func19 rfl rfl rfl (Nat.le_of_ble_eq_true rfl) ?_
  have k := bnone_ac L m hm
  refine rn1 (jn @tbl.eq_1 @tblC.eq_1) ?_
  refine HO_callX ty_ok [0] k (tbl_hand _ _ _ _ rfl) (tbl_wf _ _) ?_
  rintro v r' ⟨rfl, rfl⟩ _
  refine rn1 (jn @tbl.eq_1 @tblC.eq_1) ?_
  exact fv1 [0] [] (jn @tbl.eq_1 @tblC.eq_1)
theorem bnew_ac (m : Int) (h1 : 1 ≤ m) (h2 : m ≤ 4096) : AC Try.prog noG 14 [.d (.c (.int .i64 m))] [] (fun v r' => v = .tup [.ptr 0 0, .d (.c (.int .i64 0))] ∧ r' = tbl [] m) := by
  refine AC.fit ?_
  refine AC_of_R (N := 13) (res := [.tmp 2, .tmp 3]) ty_ok Try.call14 Try.func14 rfl rfl rfl (Nat.le_of_ble_eq_true rfl) ?_
  have g1 : ¬ m < 1 := by omega
  have g2 : ¬ m > 4096 := by omega
  refine rn1 (jn @g1 @g2) ?_
  exact fv1 [0] [] (jn @tbl.eq_1 (jn @tblC.eq_1 @flatE_nil))
theorem insF_l (n i k : Nat) (A B zs x : List D) (hA : A.length = i * 4) (hB : B.length = (n - i) * 4) (hz : zs.length = k * 4) (hx : x.length = 4) (h0 : 0 < n) (hi : i ≤ n) (h : n ≤ 1000000) :
    AC Try.prog noG 56 [.csl 0 0 4 n (n + k), .d (.c (.int .i64 i)), .osl 1 0 4 1] [some (.obj ((A ++ B ++ zs).map .d)), some (.obj (x.map .d))] (fun v r' => v = .d (.sl 4 (n + 1) (A ++ x ++ B)) ∧ r' = [none, none]) :=
  insO_lay (by simp only [List.length_append]; omega) (by omega) (by simp) (insF_ac n i k A B zs x hA hB hz hx h0 hi h)
theorem chkF_w {f : Fct} (h : chkF f = true) : f.l.length ≤ 48 := by
  simp only [chkF, Bool.and_eq_true, decide_eq_true_eq, List.all_eq_true] at h
  exact h.2.2.2.1
def bpSt : List (Nat × AV) := [(0, .ptr 0 0)]
theorem ins_flatB (d : List Fct) (f : Fct) : flatE fctE (insFc d f) = flatE fctE (d.take (posF d f)) ++ fctE f ++ flatE fctE (d.drop (posF d f)) := by
  rw [insFc, flatE_app, flatE_app]; simp [flatE]
set_option maxHeartbeats 800000 in
theorem bput_ac (L : List Fct) (m : Int) (hm : m ≠ 0) (hL : okB L) (f : Fct) (hf : f.l.length ≤ 140737488352000) : AC Try.prog noG 15 [.ptr 0 0, .d (.agg (fctE f))] (tbl L m) (fun v r' => v = .d (.c (.int .i64 (errB L m f))) ∧ r' = tbl (insB L m f) m) := by
  refine AC.fit ?_
  refine AC_of_R (N := 48) (res := [.tmp 4]) tyL_ok Try.call15 Try.func15 rfl rfl rfl (Nat.le_of_ble_eq_true rfl) ?_
  have k := bnone_ac L m hm
  have kc := fchk_ac f hf
  have kf := bfind_ac L m hL f hf
  have hl := hL.len
  simp only [fctE, List.cons_append, List.nil_append] at kf kc
  refine rn1 (jn @tbl.eq_1 (jn @tblC.eq_1 @fctE.eq_1)) ?_
  refine HO_callX tyL_ok [0] k (tbl_hand _ _ _ _ rfl) (tbl_wf _ _) ?_
  rintro v r' ⟨rfl, rfl⟩ _
  refine rn1 (jn @tbl.eq_1 @tblC.eq_1) ?_
  refine HO_pureA tyL_ok kc ?_
  by_cases hc : chkE f = 0
  · refine rn1 @hc ?_
    refine HO_callX tyL_ok [0] kf (tbl_hand _ _ _ _ rfl) (tbl_wf _ _) ?_
    rintro v r' ⟨rfl, rfl⟩ _
    by_cases hi : f ∈ L
    · have e1 : errB L m f = 151 := by rw [errB, if_neg (by simp [hc]), if_pos hi]
      have e2 : insB L m f = L := by rw [insB, e1]; rfl
      rw [e1, e2, decide_eq_true hi]
      refine rn1 (jn @tbl.eq_1 @tblC.eq_1) ?_
      exact fv1 [0] [] (jn @tbl.eq_1 @tblC.eq_1)
    · rw [decide_eq_false hi]
      refine rn1 (jn @tbl.eq_1 @tblC.eq_1) ?_
      refine HC_plan [] tyL_ok mix (by kernel_rfl) ?_
      by_cases hg : (L.length : Int) ≥ m
      · have e1 : errB L m f = 150 := by rw [errB, if_neg (by simp [hc]), if_neg hi, if_pos hg]
        have e2 : insB L m f = L := by rw [insB, e1]; rfl
        rw [e1, e2]
        refine rn1 @hg ?_
        exact fv1 [0] [] (jn @tbl.eq_1 @tblC.eq_1)
      · have e1 : errB L m f = 0 := by rw [errB, if_neg (by simp [hc]), if_neg hi, if_neg (by omega)]
        have e2 : insB L m f = insFc L f := by rw [insB, if_pos e1]
        have hkc : f.l.length ≤ 1000000 := by
          have h := chkF_w (by rcases Decidable.em (chkF f = true) with h | h; exact h; exact absurd hc (by rw [chkE_no h]; decide))
          omega
        have kk := cloneC_d f.l.length (flatE cstE f.l) (by rw [flatE_len cstE_len]; omega) hkc
        have hp := posF_le L f
        have hif := ins_flatB L f
        have hlen := insFc_len L f
        rw [e1, e2]
        refine rn1 @hg ?_
        refine HO_pureA tyL_ok kk ?_
        refine rn0 ?_
        refine HC_cutR bpSt (tbl (insFc L f) m ++ [none]) ?_ ?_
        · skip
          refine HC_of_HV mix ?_
          refine HV_split 5 8 (by decide) ?_ ?_
          · simp only [addAt]
            refine HV_order [5] tyL_ok [0, 1, 2, 3, 4, 6, 7, 5, 8, 9, 10, 11, 12] (by kernel_rfl) rfl _ rfl ?_
            simp only [opl_nil', opl_cons', oplC_some, List.getElem?_toArray, List.getElem?_cons_zero, List.getElem?_cons_succ]
            refine rn0 ?_
            by_cases h0 : 0 < L.length
            · refine HO_callX tyL_ok [] (cloneF_ac L.length (flatE fctE L) (by rw [flatE_len fctE_len]; omega) h0 (by omega)) (trivial) rfl ?_
              rintro v r' ⟨k, zs, hz, rfl, rfl⟩ _
              have ki := insF_l L.length (posF L f) k (flatE fctE (L.take (posF L f))) (flatE fctE (L.drop (posF L f))) zs (fctE f) (by rw [flatE_len fctE_len, List.length_take]; omega) (by rw [flatE_len fctE_len, List.length_drop]; omega) hz rfl h0 hp (by omega)
              rw [← hif, ← flatE_app, List.take_append_drop, ← hlen] at ki
              simp only [fctE] at ki
              refine rn1 @renL_map_d ?_
              first
                | refine HO_callX tyL_ok [2, 3] ki (ob2_hand _ _ _ _ _ rfl rfl) (ob2_wf _ _) ?_
                | refine HO_callX tyL_ok [3, 2] ki (ob2_hand _ _ _ _ _ rfl rfl) (ob2_wf _ _) ?_
              rintro v r' ⟨rfl, rfl⟩ _
              refine rn0 ?_
              refine ⟨[0, 0], [], ?_⟩
              exact ft1 (jn @bpSt.eq_1 (jn @tbl.eq_1 @tblC.eq_1))
            · have hL0 : L = [] := List.eq_nil_of_length_eq_zero (by omega)
              subst hL0
              have ki := insF_0 (fctE f) rfl
              have e1 : insFc [] f = [f] := by simp [insFc, posF]
              have e2 : flatE fctE [f] = fctE f := by simp [flatE]
              have e3 : posF [] f = 0 := rfl
              have e4 : flatE fctE [] = [] := rfl
              simp only [fctE] at ki
              refine HO_pureA tyL_ok cloneF_0 ?_
              refine rn1 (jn @e3 @e4) ?_
              refine HO_callX tyL_ok [2] ki (ob1_hand _ _ _ rfl) (ob1_wf _) ?_
              rintro v r' ⟨rfl, rfl⟩ _
              refine rn0 ?_
              refine ⟨[0, 0], [], ?_⟩
              rw [e1] at hlen ⊢
              exact ft1 (jn @bpSt.eq_1 (jn @tbl.eq_1 (jn @tblC.eq_1 (jn @e2 (jn @fctE.eq_1 @List.length_singleton.{0})))))
          · simp only [addAt]
            refine HV_order [] tyL_ok [0, 1, 2, 3, 4, 6, 7, 8, 5, 9, 10, 11, 12] (by kernel_rfl) rfl _ rfl ?_
            simp only [opl_nil', opl_cons', oplC_some, List.getElem?_toArray, List.getElem?_cons_zero, List.getElem?_cons_succ]
            refine rn0 ?_
            by_cases h0 : 0 < L.length
            · refine HO_callX tyL_ok [] (cloneF_ac L.length (flatE fctE L) (by rw [flatE_len fctE_len]; omega) h0 (by omega)) (trivial) rfl ?_
              rintro v r' ⟨k, zs, hz, rfl, rfl⟩ _
              have ki := insF_l L.length (posF L f) k (flatE fctE (L.take (posF L f))) (flatE fctE (L.drop (posF L f))) zs (fctE f) (by rw [flatE_len fctE_len, List.length_take]; omega) (by rw [flatE_len fctE_len, List.length_drop]; omega) hz rfl h0 hp (by omega)
              rw [← hif, ← flatE_app, List.take_append_drop, ← hlen] at ki
              simp only [fctE] at ki
              refine rn1 @renL_map_d ?_
              first
                | refine HO_callX tyL_ok [2, 3] ki (ob2_hand _ _ _ _ _ rfl rfl) (ob2_wf _ _) ?_
                | refine HO_callX tyL_ok [3, 2] ki (ob2_hand _ _ _ _ _ rfl rfl) (ob2_wf _ _) ?_
              rintro v r' ⟨rfl, rfl⟩ _
              refine rn0 ?_
              refine ⟨[0, 0], [], ?_⟩
              exact ft1 (jn @bpSt.eq_1 (jn @tbl.eq_1 @tblC.eq_1))
            · have hL0 : L = [] := List.eq_nil_of_length_eq_zero (by omega)
              subst hL0
              have ki := insF_0 (fctE f) rfl
              have e1 : insFc [] f = [f] := by simp [insFc, posF]
              have e2 : flatE fctE [f] = fctE f := by simp [flatE]
              have e3 : posF [] f = 0 := rfl
              have e4 : flatE fctE [] = [] := rfl
              simp only [fctE] at ki
              refine HO_pureA tyL_ok cloneF_0 ?_
              refine rn1 (jn @e3 @e4) ?_
              refine HO_callX tyL_ok [2] ki (ob1_hand _ _ _ rfl) (ob1_wf _) ?_
              rintro v r' ⟨rfl, rfl⟩ _
              refine rn0 ?_
              refine ⟨[0, 0], [], ?_⟩
              rw [e1] at hlen ⊢
              exact ft1 (jn @bpSt.eq_1 (jn @tbl.eq_1 (jn @tblC.eq_1 (jn @e2 (jn @fctE.eq_1 @List.length_singleton.{0})))))
        refine rn1 (jn @bpSt.eq_1 (jn @tbl.eq_1 @tblC.eq_1)) ?_
        exact fv1 [0] [] (jn @tbl.eq_1 @tblC.eq_1)
  · have e1 : errB L m f = chkE f := by rw [errB, if_pos hc]
    have e2 : insB L m f = L := by rw [insB, if_neg (by rw [e1]; exact hc)]
    rw [e1, e2]
    refine rn1 @hc ?_
    exact fv1 [0] [] (jn @tbl.eq_1 @tblC.eq_1)
end Go.Proofs.Ythdjblfiiogmgaa

set_option linter.unusedVariables false
set_option linter.unusedSimpArgs false
set_option maxRecDepth 100000
namespace Go.Proofs.Ythdjblfiiogmgaa
open Go Go.ChangeShapes Go.WideShapes
/-! The statement's examples of tables. -/
theorem at15_ac (n : Int) : AC Try.prog noG 46 [.d (.c (.int .i64 n))] [] (fun v r' => v = .d (.agg (fctE (fT n))) ∧ r' = []) := by
  refine AC.fit ?_
  refine AC_of_R (N := 7) (res := [.cell 2 32]) ty_ok Try.call46 Try.func46 rfl rfl rfl (Nat.le_of_ble_eq_true rfl) ?_
  refine rn0 ?_
  exact fv1 [] [] (jn @fT.eq_1 (jn @fctE.eq_1 (jn @flatE_cons (jn @flatE_nil @cstE.eq_1))))
theorem okB0 : okB [] := ⟨by decide, by simp, List.Pairwise.nil⟩
theorem okB1 : okB [fT 1] := ⟨by decide, by simp [fT], by simp [srtF]⟩
theorem bl1 : errB [] 1 (fT 1) = 0 := by decide +kernel
theorem bl2 : insB [] 1 (fT 1) = [fT 1] := by decide +kernel
theorem bl3 : errB [fT 1] 1 (fT 2) = 150 := by decide +kernel
theorem bl4 : insB [fT 1] 1 (fT 2) = [fT 1] := by decide +kernel
theorem bl5 : errB [fT 1] 1 (fT 1) = 151 := by decide +kernel
theorem bl6 : insB [fT 1] 1 (fT 1) = [fT 1] := by decide +kernel
set_option maxHeartbeats 400000 in
theorem blive_ac : AC Try.prog noG 13 [] [] (fun v r' => v = .d (.c (.bool true)) ∧ r' = []) := by
  refine AC.pure ?_ (by rintro v rfl; rfl)
  refine AC_of_R (N := 37) (res := [.tmp 0]) ty_ok Try.call13 Try.func13 rfl rfl rfl (Nat.le_of_ble_eq_true rfl) ?_
  have k0 := bnew_ac 1 (by decide) (by decide)
  have ka := at15_ac 1
  have kb := at15_ac 2
  have k1 := bput_ac [] 1 (by decide) okB0 (fT 1) (by decide)
  have k2 := bput_ac [fT 1] 1 (by decide) okB1 (fT 2) (by decide)
  have k3 := bput_ac [fT 1] 1 (by decide) okB1 (fT 1) (by decide)
  have k4 := bhas_ac [fT 1] 1 (by decide) okB1 (fT 1) (by decide)
  have k5 := blen_ac [fT 1] 1 (by decide)
  rw [bl1, bl2] at k1
  rw [bl3, bl4] at k2
  rw [bl5, bl6] at k3
  rw [decide_eq_true (by simp)] at k4
  have h1 : tblC [fT 1] 1 = [.d (.sl 4 1 (fctE (fT 1))), .d (.c (.int .i64 1))] := rfl
  have h0 : tblC [] 1 = [.d (.sl 4 0 []), .d (.c (.int .i64 1))] := rfl
  rw [show ([fT 1]).length = 1 from rfl] at k5
  simp only [fT, fctE, flatE_cons, flatE_nil, cstE, List.cons_append, List.nil_append, List.length_cons, List.length_nil] at ka kb
  simp only [show ∀ n, fctE (fT n) = [.c (.string ⟨#[97]⟩), .c (.string ⟨#[97]⟩), .c (.string ⟨#[112]⟩), .sl 3 1 [.c (.bool true), .c (.int .i64 n), .c (.string ⟨#[]⟩)]] from fun n => rfl] at k1 k2 k3 k4
  refine rn0 ?_
  refine HO_callX ty_ok [] k0 (trivial) rfl ?_
  rintro v r' ⟨rfl, rfl⟩ _
  refine rn1 @tbl.eq_1 ?_
  refine HO_pureA ty_ok ka ?_
  refine rn0 ?_
  refine HO_callX ty_ok [0] k1 (tbl_hand _ _ _ _ rfl) (tbl_wf _ _) ?_
  rintro v r' ⟨rfl, rfl⟩ _
  refine rn1 @tbl.eq_1 ?_
  refine HO_pureA ty_ok kb ?_
  refine rn0 ?_
  refine HO_callX ty_ok [0] k2 (tbl_hand _ _ _ _ rfl) (tbl_wf _ _) ?_
  rintro v r' ⟨rfl, rfl⟩ _
  refine rn1 @tbl.eq_1 ?_
  refine HO_pureA ty_ok ka ?_
  refine rn0 ?_
  refine HO_callX ty_ok [0] k3 (tbl_hand _ _ _ _ rfl) (tbl_wf _ _) ?_
  rintro v r' ⟨rfl, rfl⟩ _
  refine rn1 @tbl.eq_1 ?_
  refine HO_pureA ty_ok ka ?_
  refine rn0 ?_
  refine HO_callX ty_ok [0] k4 (tbl_hand _ _ _ _ rfl) (tbl_wf _ _) ?_
  rintro v r' ⟨rfl, rfl⟩ _
  refine rn1 @tbl.eq_1 ?_
  refine HO_callX ty_ok [0] k5 (tbl_hand _ _ _ _ rfl) (tbl_wf _ _) ?_
  rintro v r' ⟨rfl, rfl⟩ _
  exact rz0
end Go.Proofs.Ythdjblfiiogmgaa
