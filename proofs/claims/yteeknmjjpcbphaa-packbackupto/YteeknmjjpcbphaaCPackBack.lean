import Derived.Test.YteeknmjjpcbphaaCRound
set_option linter.unusedVariables false
set_option linter.unusedSimpArgs false
set_option maxRecDepth 100000
namespace Go.Proofs.Yteeknmjjpcbphaa
open Go Go.ChangeShapes Go.WideShapes
set_option maxHeartbeats 1000000 in
theorem packBack_ac (b : List UInt8) (n : Int) (s : ByteArray) (h0 : -9223372036854775808 ≤ n) (h1 : n ≤ 9223372036854775807) (hb : b.length + s.size ≤ 1048576) :
    AC Try.prog noG 8 [.d (.sl 1 b.length (bD b)), .d (.c (.int .i64 n)), .d (.c (.string s))] [] (fun v r' => v = .d (.c (.bool true)) ∧ r' = []) := by
  refine AC.pure ?_ (by rintro v rfl; rfl)
  have hl := leb_len 9 (zig n) (by have := zig_lt h0 h1; omega)
  have hz := zig_nat s.size
  have hl2 := leb_len 9 (zig s.size) (by omega)
  have hq := putI_len b n
  have hp := putTx_len (putI b n) s
  refine AC_of_R (N := 118) (res := [.tmp 6]) ty_ok Try.call8 Try.func8 rfl rfl rfl (Nat.le_of_ble_eq_true rfl) ?_
  simp (config := {contextual := true, maxSteps := 1000000, implicitDefEqProofs := false}) (disch := omega) only [↓SA, SB, ST, stops, dstOK, resA, resAll, resOne, resTup, initSt, mkL, gdB, Nat.reduceLT, Nat.reduceEqDiff, Nat.reduceAdd, Nat.reduceMul, Nat.reduceLeDiff, Nat.reduceSub, Int.reduceLT, Int.reduceLE, Int.reduceAdd, Int.reduceSub, Int.reduceMul, Int.reduceToNat, Int.reduceNeg, Int.reduceEq, Int.reduceNe, if_true, if_false, ite_true, ite_false, ↓reduceIte, reduceCtorEq, forall_const, implies_true, eq_self, ne_eq, ren, renL, renM, renRes, putAll]
  refine ⟨fun hs => ?_, fun hs => ?_⟩
  · refine HO_pure ty_ok live_ac rfl rfl rfl (by kernel_rfl) (fun _ => rfl) (fun _ => rfl) rfl (by repeat' (first | exact trivial | exact WeakA.refl _ | exact WeakA.toD rfl | exact WeakA.nilD _ | refine ⟨?_, ?_⟩)) ?_
    simp (config := {contextual := true, maxSteps := 1000000, implicitDefEqProofs := false}) (disch := omega) only [↓SA, SB, ST, stops, dstOK, resA, resAll, resOne, resTup, initSt, mkL, gdB, Nat.reduceLT, Nat.reduceEqDiff, Nat.reduceAdd, Nat.reduceMul, Nat.reduceLeDiff, Nat.reduceSub, Int.reduceLT, Int.reduceLE, Int.reduceAdd, Int.reduceSub, Int.reduceMul, Int.reduceToNat, Int.reduceNeg, Int.reduceEq, Int.reduceNe, if_true, if_false, ite_true, ite_false, ↓reduceIte, reduceCtorEq, forall_const, implies_true, eq_self, ne_eq, ren, renL, renM, renRes, putAll]
  · refine HO_pure ty_ok (putInt_dat b n h0 h1 (by omega)) rfl rfl rfl (by kernel_rfl) (fun _ => rfl) (fun _ => rfl) rfl (by repeat' (first | exact trivial | exact WeakA.refl _ | exact WeakA.toD rfl | exact WeakA.nilD _ | refine ⟨?_, ?_⟩)) ?_
    simp (config := {contextual := true, maxSteps := 1000000, implicitDefEqProofs := false}) (disch := omega) only [↓SA, SB, ST, stops, dstOK, resA, resAll, resOne, resTup, initSt, mkL, gdB, Nat.reduceLT, Nat.reduceEqDiff, Nat.reduceAdd, Nat.reduceMul, Nat.reduceLeDiff, Nat.reduceSub, Int.reduceLT, Int.reduceLE, Int.reduceAdd, Int.reduceSub, Int.reduceMul, Int.reduceToNat, Int.reduceNeg, Int.reduceEq, Int.reduceNe, if_true, if_false, ite_true, ite_false, ↓reduceIte, reduceCtorEq, forall_const, implies_true, eq_self, ne_eq, ren, renL, renM, renRes, putAll]
    refine HO_call ty_ok [] (putText_ac (putI b n) s (by omega) (by omega)) rfl rfl rfl (by kernel_rfl) (by decide) ⟨(by simp), (by repeat' (first | exact trivial | exact WeakA.refl _ | exact WeakA.toD rfl | exact WeakA.nilD _ | refine ⟨?_, ?_⟩)), rfl, trivial, rfl⟩ (by first | exact .inl rfl | exact .inr rfl) ?_
    rintro v r' ⟨rfl, rfl⟩ _
    simp (config := {contextual := true, maxSteps := 1000000, implicitDefEqProofs := false}) (disch := omega) only [↓SA, SB, ST, stops, dstOK, resA, resAll, resOne, resTup, initSt, mkL, gdB, Nat.reduceLT, Nat.reduceEqDiff, Nat.reduceAdd, Nat.reduceMul, Nat.reduceLeDiff, Nat.reduceSub, Int.reduceLT, Int.reduceLE, Int.reduceAdd, Int.reduceSub, Int.reduceMul, Int.reduceToNat, Int.reduceNeg, Int.reduceEq, Int.reduceNe, if_true, if_false, ite_true, ite_false, ↓reduceIte, reduceCtorEq, forall_const, implies_true, eq_self, ne_eq, ren, renL, renM, renRes, putAll]
    obtain ⟨l, hle⟩ : ∃ l, l = putTx (putI b n) s ++ [UInt8.ofNat 129, UInt8.ofNat 0] := ⟨_, rfl⟩
    have hlL : l.length = (putTx (putI b n) s).length + 2 := by rw [hle, List.length_append]; rfl
    have hi : rdInt l b.length = (n, ((putI b n).length : Int), 0) := by
      rw [hle, putTx, putI, List.append_assoc, List.append_assoc, rdInt_put b n _ h0 h1, List.length_append]
    have ht : txt l (putI b n).length = (s, ((putTx (putI b n) s).length : Int), 0) := by rw [hle]; exact txt_put (putI b n) s _ (by omega)
    have k1 := int_ac l b.length (by omega) (by omega) (by omega)
    have k2 := text_ac l (putI b n).length (by omega) (by omega) (by omega)
    rw [hi, hlL] at k1
    rw [ht, hlL] at k2
    rw [← hle]
    refine ⟨by omega, ?_⟩
    refine HO_pure ty_ok k1 rfl rfl rfl (by kernel_rfl) (fun _ => rfl) (fun _ => rfl) rfl (by repeat' (first | exact trivial | exact WeakA.refl _ | exact WeakA.toD rfl | exact WeakA.nilD _ | refine ⟨?_, ?_⟩)) ?_
    simp (config := {contextual := true, maxSteps := 1000000, implicitDefEqProofs := false}) (disch := omega) only [↓SA, SB, ST, stops, dstOK, resA, resAll, resOne, resTup, initSt, mkL, gdB, Nat.reduceLT, Nat.reduceEqDiff, Nat.reduceAdd, Nat.reduceMul, Nat.reduceLeDiff, Nat.reduceSub, Int.reduceLT, Int.reduceLE, Int.reduceAdd, Int.reduceSub, Int.reduceMul, Int.reduceToNat, Int.reduceNeg, Int.reduceEq, Int.reduceNe, if_true, if_false, ite_true, ite_false, ↓reduceIte, reduceCtorEq, forall_const, implies_true, eq_self, ne_eq, ren, renL, renM, renRes, putAll, tri]
    refine HO_pure ty_ok k2 rfl rfl rfl (by kernel_rfl) (fun _ => rfl) (fun _ => rfl) rfl (by repeat' (first | exact trivial | exact WeakA.refl _ | exact WeakA.toD rfl | exact WeakA.nilD _ | refine ⟨?_, ?_⟩)) ?_
    simp (config := {contextual := true, maxSteps := 1000000, implicitDefEqProofs := false}) (disch := omega) only [↓SA, SB, ST, stops, dstOK, resA, resAll, resOne, resTup, initSt, mkL, gdB, Nat.reduceLT, Nat.reduceEqDiff, Nat.reduceAdd, Nat.reduceMul, Nat.reduceLeDiff, Nat.reduceSub, Int.reduceLT, Int.reduceLE, Int.reduceAdd, Int.reduceSub, Int.reduceMul, Int.reduceToNat, Int.reduceNeg, Int.reduceEq, Int.reduceNe, if_true, if_false, ite_true, ite_false, ↓reduceIte, reduceCtorEq, forall_const, implies_true, eq_self, ne_eq, ren, renL, renM, renRes, putAll, triS]
    refine ⟨fun hc => ?_, fun hc => ?_⟩
    · refine HO_pure ty_ok live_ac rfl rfl rfl (by kernel_rfl) (fun _ => rfl) (fun _ => rfl) rfl (by repeat' (first | exact trivial | exact WeakA.refl _ | exact WeakA.toD rfl | exact WeakA.nilD _ | refine ⟨?_, ?_⟩)) ?_
      simp (config := {contextual := true, maxSteps := 1000000, implicitDefEqProofs := false}) (disch := omega) only [↓SA, SB, ST, stops, dstOK, resA, resAll, resOne, resTup, initSt, mkL, gdB, Nat.reduceLT, Nat.reduceEqDiff, Nat.reduceAdd, Nat.reduceMul, Nat.reduceLeDiff, Nat.reduceSub, Int.reduceLT, Int.reduceLE, Int.reduceAdd, Int.reduceSub, Int.reduceMul, Int.reduceToNat, Int.reduceNeg, Int.reduceEq, Int.reduceNe, if_true, if_false, ite_true, ite_false, ↓reduceIte, reduceCtorEq, forall_const, implies_true, eq_self, ne_eq, ren, renL, renM, renRes, putAll]
    · refine HO_pure ty_ok (hex_ac b (by omega)) rfl rfl rfl (by kernel_rfl) (fun _ => rfl) (fun _ => rfl) rfl (by repeat' (first | exact trivial | exact WeakA.refl _ | exact WeakA.toD rfl | exact WeakA.nilD _ | refine ⟨?_, ?_⟩)) ?_
      simp (config := {contextual := true, maxSteps := 1000000, implicitDefEqProofs := false}) (disch := omega) only [↓SA, SB, ST, stops, dstOK, resA, resAll, resOne, resTup, initSt, mkL, gdB, Nat.reduceLT, Nat.reduceEqDiff, Nat.reduceAdd, Nat.reduceMul, Nat.reduceLeDiff, Nat.reduceSub, Int.reduceLT, Int.reduceLE, Int.reduceAdd, Int.reduceSub, Int.reduceMul, Int.reduceToNat, Int.reduceNeg, Int.reduceEq, Int.reduceNe, if_true, if_false, ite_true, ite_false, ↓reduceIte, reduceCtorEq, forall_const, implies_true, eq_self, ne_eq, ren, renL, renM, renRes, putAll]
      have hh : unh (ByteArray.mk (hexB b).toArray).toList = some b := by rw [Go.ByteArray.toList_eq]; exact unh_hexB b
      have k3 := unhex_ac ⟨(hexB b).toArray⟩ (by rw [ba_size, hexB_len]; omega)
      rw [unhR_some hh] at k3
      refine HO_pure ty_ok k3 rfl rfl rfl (by kernel_rfl) (fun _ => rfl) (fun _ => rfl) rfl (by repeat' (first | exact trivial | exact WeakA.refl _ | exact WeakA.toD rfl | exact WeakA.nilD _ | refine ⟨?_, ?_⟩)) ?_
      simp (config := {contextual := true, maxSteps := 1000000, implicitDefEqProofs := false}) (disch := omega) only [↓SA, SB, ST, stops, dstOK, resA, resAll, resOne, resTup, initSt, mkL, gdB, Nat.reduceLT, Nat.reduceEqDiff, Nat.reduceAdd, Nat.reduceMul, Nat.reduceLeDiff, Nat.reduceSub, Int.reduceLT, Int.reduceLE, Int.reduceAdd, Int.reduceSub, Int.reduceMul, Int.reduceToNat, Int.reduceNeg, Int.reduceEq, Int.reduceNe, if_true, if_false, ite_true, ite_false, ↓reduceIte, reduceCtorEq, forall_const, implies_true, eq_self, ne_eq, ren, renL, renM, renRes, putAll]
      refine HO_pure ty_ok (same_ac b b (by omega) (by omega)) rfl rfl rfl (by kernel_rfl) (fun _ => rfl) (fun _ => rfl) rfl (by repeat' (first | exact trivial | exact WeakA.refl _ | exact WeakA.toD rfl | exact WeakA.nilD _ | refine ⟨?_, ?_⟩)) ?_
      simp (config := {contextual := true, maxSteps := 1000000, implicitDefEqProofs := false}) (disch := omega) only [↓SA, SB, ST, stops, dstOK, resA, resAll, resOne, resTup, initSt, mkL, gdB, Nat.reduceLT, Nat.reduceEqDiff, Nat.reduceAdd, Nat.reduceMul, Nat.reduceLeDiff, Nat.reduceSub, Int.reduceLT, Int.reduceLE, Int.reduceAdd, Int.reduceSub, Int.reduceMul, Int.reduceToNat, Int.reduceNeg, Int.reduceEq, Int.reduceNe, if_true, if_false, ite_true, ite_false, ↓reduceIte, reduceCtorEq, forall_const, implies_true, eq_self, ne_eq, ren, renL, renM, renRes, putAll]
      refine HO_pure ty_ok live_ac rfl rfl rfl (by kernel_rfl) (fun _ => rfl) (fun _ => rfl) rfl (by repeat' (first | exact trivial | exact WeakA.refl _ | exact WeakA.toD rfl | exact WeakA.nilD _ | refine ⟨?_, ?_⟩)) ?_
      simp (config := {contextual := true, maxSteps := 1000000, implicitDefEqProofs := false}) (disch := omega) only [↓SA, SB, ST, stops, dstOK, resA, resAll, resOne, resTup, initSt, mkL, gdB, Nat.reduceLT, Nat.reduceEqDiff, Nat.reduceAdd, Nat.reduceMul, Nat.reduceLeDiff, Nat.reduceSub, Int.reduceLT, Int.reduceLE, Int.reduceAdd, Int.reduceSub, Int.reduceMul, Int.reduceToNat, Int.reduceNeg, Int.reduceEq, Int.reduceNe, if_true, if_false, ite_true, ite_false, ↓reduceIte, reduceCtorEq, forall_const, implies_true, eq_self, ne_eq, ren, renL, renM, renRes, putAll]
end Go.Proofs.Yteeknmjjpcbphaa
