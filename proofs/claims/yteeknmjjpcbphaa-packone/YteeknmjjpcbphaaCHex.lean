import Derived.Test.YteeknmjjpcbphaaCInt
set_option linter.unusedVariables false
set_option linter.unusedSimpArgs false
set_option maxRecDepth 100000
namespace Go.Proofs.Yteeknmjjpcbphaa
open Go Go.ChangeShapes Go.WideShapes
theorem mix : Try.prog.follows .mixedOrders = true := by kernel_rfl
def hx (n : Nat) : UInt8 := if n < 10 then UInt8.ofNat (48 + n) else UInt8.ofNat (87 + n)
def hexB (l : List UInt8) : List UInt8 := l.flatMap fun c => [hx (c.toNat / 16), hx (c.toNat % 16)]
theorem hexB_len (l : List UInt8) : (hexB l).length = 2 * l.length := by
  induction l with
  | nil => rfl
  | cons a l ih => simp only [hexB, List.flatMap_cons, List.length_append, List.length_cons, List.length_nil] at ih ⊢; omega
theorem sB_hx {n : Nat} (h : n < 16) : sB { data := #[48, 49, 50, 51, 52, 53, 54, 55, 56, 57, 97, 98, 99, 100, 101, 102] } n = ((hx n).toNat : Int) := by
  have : ∀ k : Fin 16, sB { data := #[48, 49, 50, 51, 52, 53, 54, 55, 56, 57, 97, 98, 99, 100, 101, 102] } k.val = ((hx k.val).toNat : Int) := by decide +kernel
  exact this ⟨n, h⟩
theorem hexA_size : (ByteArray.mk #[48, 49, 50, 51, 52, 53, 54, 55, 56, 57, 97, 98, 99, 100, 101, 102]).size = 16 := rfl
def hexSt (b : List UInt8) (i : Nat) : List (Nat × AV) := [(10, .d (.sl 1 b.length (bD b))), (11, .d (.c (.int .i64 b.length))), (12, .d (.c (.int .i64 i))), (3, .sl (.own 0) 1 (hexB (b.take i)).length (bD (hexB (b.take i))))]
def hexRe (b : List UInt8) (i : Nat) : Rs := [some (.tok (hexB (b.take i)).length)]
set_option maxHeartbeats 1000000 in
theorem hex_ac (b : List UInt8) (hb : b.length ≤ 1000000000000) :
    AC Try.prog noG 26 [.d (.sl 1 b.length (bD b))] [] (fun v r' => v = .d (.c (.string ⟨(hexB b).toArray⟩)) ∧ r' = []) := by
  refine AC.pure ?_ (by rintro v rfl; rfl)
  refine AC_of_R (N := 28) (res := [.tmp 2]) ty_ok Try.call26 Try.func26 rfl rfl rfl (Nat.le_of_ble_eq_true rfl) ?_
  simp (config := {contextual := true, maxSteps := 1000000, implicitDefEqProofs := false}) (disch := omega) only [↓SA, SB, ST, stops, dstOK, resA, resAll, resOne, resTup, initSt, mkL, gdB, Nat.reduceLT, Nat.reduceEqDiff, Nat.reduceAdd, Nat.reduceMul, Nat.reduceLeDiff, Nat.reduceSub, Int.reduceLT, Int.reduceLE, Int.reduceAdd, Int.reduceSub, Int.reduceMul, Int.reduceToNat, Int.reduceNeg, Int.reduceEq, Int.reduceNe, if_true, if_false, ite_true, ite_false, ↓reduceIte, reduceCtorEq, forall_const, implies_true, eq_self, ne_eq, ren, renL, renM, renRes, putAll]
  refine ⟨⟨by omega, by omega, by omega⟩, HC_loop (hexSt b) (hexRe b) (fun i => i ≤ b.length) (fun i => b.length - i) 0 (by simp) (fun _ => rfl) ?_ ?_⟩
  · simp only [Fit, WkL, wfSt, wfRs, wfA, wfM, wfL, wk_refl, wk_top, wk_sl, wk_nilFull, wk_nilD, wkr_refl, get_mk, ↓lk_cons, ↓reduceIte, Nat.reduceEqDiff, List.length_cons, List.length_nil, List.length_append, decide_true, Bool.and_true, and_true, true_and, Nat.reduceLT, Nat.zero_add, Nat.reduceAdd, hexSt, hexRe, List.take_zero, hexB, List.flatMap_nil, bD_z]
    exact wk_eq rfl
  · intro i hi
    refine HC_of_R ty_ok ?_
    have hlen : (hexB (b.take i)).length = 2 * i := by rw [hexB_len, List.length_take]; omega
    simp (config := {contextual := true, maxSteps := 1000000, implicitDefEqProofs := false}) (disch := omega) only [↓SA, SB, ST, stops, dstOK, resA, resAll, resOne, resTup, initSt, mkL, gdB, Nat.reduceLT, Nat.reduceEqDiff, Nat.reduceAdd, Nat.reduceMul, Nat.reduceLeDiff, Nat.reduceSub, Int.reduceLT, Int.reduceLE, Int.reduceAdd, Int.reduceSub, Int.reduceMul, Int.reduceToNat, Int.reduceNeg, Int.reduceEq, Int.reduceNe, if_true, if_false, ite_true, ite_false, ↓reduceIte, reduceCtorEq, forall_const, implies_true, eq_self, ne_eq, ren, renL, renM, renRes, putAll, hexSt, hexRe]
    refine ⟨fun hc => ⟨by omega, ?_⟩, fun hc => ?_⟩
    · refine HC_plan [] ty_ok mix (by kernel_rfl) ?_
      have hc8 := (b.getD i 0).toNat_lt
      have hnext : hexB (b.take (i + 1)) = hexB (b.take i) ++ [hx ((b.getD i 0).toNat / 16), hx ((b.getD i 0).toNat % 16)] := by
        rw [List.take_add_one, hexB, List.flatMap_append, List.getElem?_eq_getElem (by omega), List.getD_eq_getElem?_getD, List.getElem?_eq_getElem (by omega)]
        rfl
      generalize b.getD i 0 = c at *
      have e1 : ((c.toNat : Int) / 16).toNat = c.toNat / 16 := by omega
      have e2 : ((c.toNat : Int) % 16).toNat = c.toNat % 16 := by omega
      simp (config := {contextual := true, maxSteps := 1000000, implicitDefEqProofs := false}) (disch := omega) only [↓SA, SB, ST, stops, dstOK, resA, resAll, resOne, resTup, initSt, mkL, gdB, Nat.reduceLT, Nat.reduceEqDiff, Nat.reduceAdd, Nat.reduceMul, Nat.reduceLeDiff, Nat.reduceSub, Int.reduceLT, Int.reduceLE, Int.reduceAdd, Int.reduceSub, Int.reduceMul, Int.reduceToNat, Int.reduceNeg, Int.reduceEq, Int.reduceNe, if_true, if_false, ite_true, ite_false, ↓reduceIte, reduceCtorEq, forall_const, implies_true, eq_self, ne_eq, ren, renL, renM, renRes, putAll, hexSt, hexRe, sB_hx, hexA_size, e1, e2]
      have hl2 : (hexB (b.take (i + 1))).length = (hexB (b.take i)).length + 2 := by rw [hnext]; simp
      refine ⟨⟨by omega, by omega⟩, ⟨by omega, by omega⟩, ⟨by omega, by omega⟩, i + 1, by omega, by omega, ?_⟩
      simp only [Fit, WkL, wfSt, wfRs, wfA, wfM, wfL, wk_refl, wk_top, wk_sl, wk_nilFull, wk_nilD, wkr_refl, get_mk, ↓lk_cons, ↓reduceIte, Nat.reduceEqDiff, List.length_cons, List.length_nil, List.length_append, decide_true, Bool.and_true, and_true, true_and, Nat.reduceLT, Nat.zero_add, Nat.reduceAdd, hexSt, hexRe, hl2, hnext]
      exact wk_eq rfl
    · rw [List.take_of_length_le (by omega)]
end Go.Proofs.Yteeknmjjpcbphaa
