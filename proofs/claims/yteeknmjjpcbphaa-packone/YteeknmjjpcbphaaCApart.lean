import Derived.Test.YteeknmjjpcbphaaCLive
set_option linter.unusedVariables false
set_option linter.unusedSimpArgs false
set_option maxRecDepth 100000
namespace Go.Proofs.Yteeknmjjpcbphaa
open Go Go.ChangeShapes Go.WideShapes
theorem leb_pos (u : Nat) : 1 ≤ (leb u).length := by rw [leb]; split <;> simp
theorem u8_inj {a b : Nat} (ha : a < 256) (hb : b < 256) (h : UInt8.ofNat a = UInt8.ofNat b) : a = b := by
  have := congrArg UInt8.toNat h
  rw [u8_toNat, u8_toNat, Nat.mod_eq_of_lt ha, Nat.mod_eq_of_lt hb] at this
  exact this
/-- Neither begins the other. -/
theorem leb_apart : ∀ (u v : Nat), (leb u).take (min (leb u).length (leb v).length) = (leb v).take (min (leb u).length (leb v).length) → u = v := by
  intro u
  induction u using Nat.strongRecOn with
  | _ u ih =>
    intro v h
    have h1 := leb_pos (u / 128)
    have h2 := leb_pos (v / 128)
    by_cases hu : u < 128
    · by_cases hv : v < 128
      · rw [leb_one hu, leb_one hv] at h
        simp only [List.length_cons, List.length_nil, Nat.min_self, List.take_succ_cons, List.take_zero, List.cons.injEq, and_true] at h
        exact u8_inj (by omega) (by omega) h
      · rw [leb_one hu, leb_more hv] at h
        simp only [List.length_cons, List.length_nil, Nat.zero_add] at h
        rw [Nat.min_eq_left (by omega)] at h
        simp only [List.take_succ_cons, List.take_zero, List.cons.injEq, and_true] at h
        have := u8_inj (by omega) (by omega) h
        omega
    · by_cases hv : v < 128
      · rw [leb_one hv, leb_more hu] at h
        simp only [List.length_cons, List.length_nil, Nat.zero_add] at h
        rw [Nat.min_eq_right (by omega)] at h
        simp only [List.take_succ_cons, List.take_zero, List.cons.injEq, and_true] at h
        have := u8_inj (by omega) (by omega) h
        omega
      · rw [leb_more hu, leb_more hv] at h
        simp only [List.length_cons] at h
        rw [Nat.add_min_add_right] at h
        simp only [List.take_succ_cons, List.cons.injEq] at h
        have e1 := u8_inj (by omega) (by omega) h.1
        have e2 := ih (u / 128) (by omega) (v / 128) h.2
        omega
theorem zig_inj {n m : Int} (h : zig n = zig m) : n = m := by unfold zig at h; split at h <;> split at h <;> omega
set_option maxHeartbeats 2000000 in
theorem apart_ac (n m : Int) (h0 : -9223372036854775808 ≤ n) (h1 : n ≤ 9223372036854775807) (k0 : -9223372036854775808 ≤ m) (k1 : m ≤ 9223372036854775807) :
    AC Try.prog noG 4 [.d (.c (.int .i64 n)), .d (.c (.int .i64 m))] [] (fun v r' => v = .d (.c (.bool true)) ∧ r' = []) := by
  refine AC.pure ?_ (by rintro v rfl; rfl)
  have hl := leb_len 9 (zig n) (by have := zig_lt h0 h1; omega)
  have kl := leb_len 9 (zig m) (by have := zig_lt k0 k1; omega)
  refine AC_of_R (N := 43) (res := [.tmp 4]) ty_ok Try.call4 Try.func4 rfl rfl rfl (Nat.le_of_ble_eq_true rfl) ?_
  simp (config := {contextual := true, maxSteps := 1000000, implicitDefEqProofs := false}) (disch := omega) only [↓SA, SB, ST, stops, dstOK, resA, resAll, resOne, resTup, initSt, mkL, gdB, Nat.reduceLT, Nat.reduceEqDiff, Nat.reduceAdd, Nat.reduceMul, Nat.reduceLeDiff, Nat.reduceSub, Int.reduceLT, Int.reduceLE, Int.reduceAdd, Int.reduceSub, Int.reduceMul, Int.reduceToNat, Int.reduceNeg, Int.reduceEq, Int.reduceNe, if_true, if_false, ite_true, ite_false, ↓reduceIte, reduceCtorEq, forall_const, implies_true, eq_self, ne_eq, ren, renL, renM, renRes, putAll]
  refine HO_pure ty_ok (putInt_dat [] n h0 h1 (by decide)) rfl rfl rfl (by kernel_rfl) (fun _ => rfl) (fun _ => rfl) rfl (by repeat' (first | exact trivial | exact WeakA.refl _ | exact WeakA.toD rfl | exact WeakA.nilD _ | refine ⟨?_, ?_⟩)) ?_
  simp (config := {contextual := true, maxSteps := 1000000, implicitDefEqProofs := false}) (disch := omega) only [↓SA, SB, ST, stops, dstOK, resA, resAll, resOne, resTup, initSt, mkL, gdB, Nat.reduceLT, Nat.reduceEqDiff, Nat.reduceAdd, Nat.reduceMul, Nat.reduceLeDiff, Nat.reduceSub, Int.reduceLT, Int.reduceLE, Int.reduceAdd, Int.reduceSub, Int.reduceMul, Int.reduceToNat, Int.reduceNeg, Int.reduceEq, Int.reduceNe, if_true, if_false, ite_true, ite_false, ↓reduceIte, reduceCtorEq, forall_const, implies_true, eq_self, ne_eq, ren, renL, renM, renRes, putAll, putI]
  refine HO_pure ty_ok (putInt_dat [] m k0 k1 (by decide)) rfl rfl rfl (by kernel_rfl) (fun _ => rfl) (fun _ => rfl) rfl (by repeat' (first | exact trivial | exact WeakA.refl _ | exact WeakA.toD rfl | exact WeakA.nilD _ | refine ⟨?_, ?_⟩)) ?_
  simp (config := {contextual := true, maxSteps := 1000000, implicitDefEqProofs := false}) (disch := omega) only [↓SA, SB, ST, stops, dstOK, resA, resAll, resOne, resTup, initSt, mkL, gdB, Nat.reduceLT, Nat.reduceEqDiff, Nat.reduceAdd, Nat.reduceMul, Nat.reduceLeDiff, Nat.reduceSub, Int.reduceLT, Int.reduceLE, Int.reduceAdd, Int.reduceSub, Int.reduceMul, Int.reduceToNat, Int.reduceNeg, Int.reduceEq, Int.reduceNe, if_true, if_false, ite_true, ite_false, ↓reduceIte, reduceCtorEq, forall_const, implies_true, eq_self, ne_eq, ren, renL, renM, renRes, putAll, putI]
  have hp1 : 1 ≤ (leb (zig n)).length := by rw [leb]; split <;> simp
  have hp2 : 1 ≤ (leb (zig m)).length := by rw [leb]; split <;> simp
  have hk : (if ((leb (zig m)).length : Int) < (leb (zig n)).length then ((leb (zig m)).length : Int) else (leb (zig n)).length) = ((min (leb (zig n)).length (leb (zig m)).length : Nat) : Int) := by split <;> omega
  have hk1 : min (leb (zig n)).length (leb (zig m)).length ≤ (leb (zig n)).length := Nat.min_le_left _ _
  have hk2 : min (leb (zig n)).length (leb (zig m)).length ≤ (leb (zig m)).length := Nat.min_le_right _ _
  have hA : ∀ k, k = min (leb (zig n)).length (leb (zig m)).length → (ByteArray.mk ((leb (zig n)).take k).toArray = ByteArray.mk ((leb (zig m)).take k).toArray) = (n = m) := by
    rintro k rfl
    refine propext ⟨fun h => zig_inj (leb_apart _ _ ?_), fun h => by rw [h]⟩
    simpa using congrArg (fun x : ByteArray => x.data.toList) h
  simp only [hk]
  generalize min (leb (zig n)).length (leb (zig m)).length = k at *
  have hA := hA k rfl
  refine HC_plan [] ty_ok mix (by kernel_rfl) ?_
  simp (config := {contextual := true, maxSteps := 1000000, implicitDefEqProofs := false}) (disch := omega) only [↓SA, SB, ST, stops, dstOK, resA, resAll, resOne, resTup, initSt, mkL, gdB, Nat.reduceLT, Nat.reduceEqDiff, Nat.reduceAdd, Nat.reduceMul, Nat.reduceLeDiff, Nat.reduceSub, Int.reduceLT, Int.reduceLE, Int.reduceAdd, Int.reduceSub, Int.reduceMul, Int.reduceToNat, Int.reduceNeg, Int.reduceEq, Int.reduceNe, if_true, if_false, ite_true, ite_false, ↓reduceIte, reduceCtorEq, forall_const, implies_true, eq_self, ne_eq, ren, renL, renM, renRes, putAll, hA]
  refine ⟨⟨by omega, by omega⟩, ⟨by omega, by omega⟩, ?_⟩
  refine HO_pure ty_ok live_ac rfl rfl rfl (by kernel_rfl) (fun _ => rfl) (fun _ => rfl) rfl (by repeat' (first | exact trivial | exact WeakA.refl _ | exact WeakA.toD rfl | exact WeakA.nilD _ | refine ⟨?_, ?_⟩)) ?_
  simp (config := {contextual := true, maxSteps := 1000000, implicitDefEqProofs := false}) (disch := omega) only [↓SA, SB, ST, stops, dstOK, resA, resAll, resOne, resTup, initSt, mkL, gdB, Nat.reduceLT, Nat.reduceEqDiff, Nat.reduceAdd, Nat.reduceMul, Nat.reduceLeDiff, Nat.reduceSub, Int.reduceLT, Int.reduceLE, Int.reduceAdd, Int.reduceSub, Int.reduceMul, Int.reduceToNat, Int.reduceNeg, Int.reduceEq, Int.reduceNe, if_true, if_false, ite_true, ite_false, ↓reduceIte, reduceCtorEq, forall_const, implies_true, eq_self, ne_eq, ren, renL, renM, renRes, putAll]
end Go.Proofs.Yteeknmjjpcbphaa
