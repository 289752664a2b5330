import Derived.Test.YteeknmjjpcbphaaCPutText
set_option linter.unusedVariables false
set_option linter.unusedSimpArgs false
set_option maxRecDepth 100000
namespace Go.Proofs.Yteeknmjjpcbphaa
open Go Go.ChangeShapes Go.WideShapes
def dgi (c : UInt8) : Nat := if 48 ≤ c.toNat ∧ c.toNat ≤ 57 then c.toNat - 48 else if 97 ≤ c.toNat ∧ c.toNat ≤ 102 then c.toNat - 87 else 16
def dgv (c : UInt8) : Int := if dgi c < 16 then dgi c else -1
theorem dgi_hx : ∀ k : Fin 16, dgi (hx k.val) = k.val := by decide +kernel
theorem hx_dgi : ∀ c : Fin 256, dgi (UInt8.ofNat c.val) < 16 → hx (dgi (UInt8.ofNat c.val)) = UInt8.ofNat c.val := by decide +kernel
theorem hx_dgi' (c : UInt8) (h : dgi c < 16) : hx (dgi c) = c := by
  have h1 := hx_dgi ⟨c.toNat, c.toNat_lt⟩
  simp only [UInt8.ofNat_toNat] at h1
  exact h1 h
theorem dgi_le (c : UInt8) : dgi c ≤ 16 := by unfold dgi; split <;> first | omega | (split <;> omega)
def digSt (c : UInt8) (k : Nat) : List (Nat × AV) := [(0, .d (.c (.int .u8 c.toNat))), (4, .d (.c (.int .i64 k)))]
set_option maxHeartbeats 1000000 in
theorem digit_ac (c : UInt8) :
    AC Try.prog noG 28 [.d (.c (.int .u8 c.toNat))] [] (fun v r' => v = .d (.c (.int .i64 (dgv c))) ∧ r' = []) := by
  refine AC.pure ?_ (by rintro v rfl; rfl)
  refine AC_of_R (N := 13) (res := [.tmp 2]) ty_ok Try.call28 Try.func28 rfl rfl rfl (Nat.le_of_ble_eq_true rfl) ?_
  simp (config := {contextual := true, maxSteps := 1000000, implicitDefEqProofs := false}) (disch := omega) only [↓SA, SB, ST, stops, dstOK, resA, resAll, resOne, resTup, initSt, mkL, gdB, Nat.reduceLT, Nat.reduceEqDiff, Nat.reduceAdd, Nat.reduceMul, Nat.reduceLeDiff, Nat.reduceSub, Int.reduceLT, Int.reduceLE, Int.reduceAdd, Int.reduceSub, Int.reduceMul, Int.reduceToNat, Int.reduceNeg, Int.reduceEq, Int.reduceNe, if_true, if_false, ite_true, ite_false, ↓reduceIte, reduceCtorEq, forall_const, implies_true, eq_self, ne_eq, ren, renL, renM, renRes, putAll]
  refine HC_loop (digSt c) (fun _ => []) (fun k => k ≤ 16 ∧ ∀ j, j < k → hx j ≠ c) (fun k => 16 - k) 0 ⟨by omega, fun j h => by omega⟩ (fun _ => rfl) ?_ ?_
  · simp only [Fit, WkL, wfSt, wfRs, wfA, wfM, wfL, wk_refl, wk_top, wk_sl, wk_nilFull, wk_nilD, wkr_refl, get_mk, ↓lk_cons, ↓reduceIte, Nat.reduceEqDiff, List.length_cons, List.length_nil, List.length_append, decide_true, Bool.and_true, and_true, true_and, Nat.reduceLT, Nat.zero_add, Nat.reduceAdd, digSt]
    exact wk_eq rfl
  · intro k ⟨hk, hj⟩
    refine HC_of_R ty_ok ?_
    have hc8 := c.toNat_lt
    have hx8 := (hx k).toNat_lt
    simp (config := {contextual := true, maxSteps := 1000000, implicitDefEqProofs := false}) (disch := omega) only [↓SA, SB, ST, stops, dstOK, resA, resAll, resOne, resTup, initSt, mkL, gdB, Nat.reduceLT, Nat.reduceEqDiff, Nat.reduceAdd, Nat.reduceMul, Nat.reduceLeDiff, Nat.reduceSub, Int.reduceLT, Int.reduceLE, Int.reduceAdd, Int.reduceSub, Int.reduceMul, Int.reduceToNat, Int.reduceNeg, Int.reduceEq, Int.reduceNe, if_true, if_false, ite_true, ite_false, ↓reduceIte, reduceCtorEq, forall_const, implies_true, eq_self, ne_eq, ren, renL, renM, renRes, putAll, digSt, sB_hx, hexA_size]
    refine ⟨fun hc => ⟨⟨by omega, by omega⟩, ?_⟩, fun hc => ?_⟩
    · refine ⟨fun he => ?_, fun he => ⟨k + 1, ⟨by omega, fun j h => ?_⟩, by omega, ?_⟩⟩
      · have hxc : hx k = c := UInt8.toNat_inj.1 (by omega)
        have := dgi_hx ⟨k, by omega⟩
        simp only [hxc] at this
        rw [dgv, if_pos (by omega), this]
      · by_cases hjk : j = k
        · subst hjk; exact fun h => he (by rw [h])
        · exact hj j (by omega)
      · simp only [Fit, WkL, wfSt, wfRs, wfA, wfM, wfL, wk_refl, wk_top, wk_sl, wk_nilFull, wk_nilD, wkr_refl, get_mk, ↓lk_cons, ↓reduceIte, Nat.reduceEqDiff, List.length_cons, List.length_nil, List.length_append, decide_true, Bool.and_true, and_true, true_and, Nat.reduceLT, Nat.zero_add, Nat.reduceAdd, digSt]
        exact wk_eq (by congr 3)
    · have : ¬ dgi c < 16 := fun h => hj (dgi c) (by omega) (hx_dgi' c h)
      rw [dgv, if_neg this]
set_option maxHeartbeats 1000000 in
theorem rdigit_ac (c : UInt8) :
    AC Try.prog noG 29 [.d (.c (.int .u8 c.toNat))] [] (fun v r' => v = .d (.c (.int .u8 (dgi c))) ∧ r' = []) := by
  refine AC.pure ?_ (by rintro v rfl; rfl)
  refine AC_of_R (N := 20) (res := [.tmp 2]) ty_ok Try.call29 Try.func29 rfl rfl rfl (Nat.le_of_ble_eq_true rfl) ?_
  have hc8 := c.toNat_lt
  simp (config := {contextual := true, maxSteps := 1000000, implicitDefEqProofs := false}) (disch := omega) only [↓SA, SB, ST, stops, dstOK, resA, resAll, resOne, resTup, initSt, mkL, gdB, Nat.reduceLT, Nat.reduceEqDiff, Nat.reduceAdd, Nat.reduceMul, Nat.reduceLeDiff, Nat.reduceSub, Int.reduceLT, Int.reduceLE, Int.reduceAdd, Int.reduceSub, Int.reduceMul, Int.reduceToNat, Int.reduceNeg, Int.reduceEq, Int.reduceNe, if_true, if_false, ite_true, ite_false, ↓reduceIte, reduceCtorEq, forall_const, implies_true, eq_self, ne_eq, ren, renL, renM, renRes, putAll]
  simp only [AV.d.injEq, D.c.injEq, Value.int.injEq, true_and]
  unfold dgi
  split
  · omega
  · split <;> omega
def unh : List UInt8 → Option (List UInt8)
  | [] => some []
  | [_] => none
  | h :: l :: r => if dgi h = 16 ∨ dgi l = 16 then none else (unh r).map fun x => UInt8.ofNat (16 * dgi h + dgi l) :: x
def unhR (s : ByteArray) : AV := match unh s.toList with
  | none => .tup [.d (.c (.slice none 0 0)), .d (.c (.int .i64 11))]
  | some x => .tup [.d (.sl 1 x.length (bD x)), .d (.c (.int .i64 0))]
theorem unhR_none {s : ByteArray} (h : unh s.toList = none) : unhR s = .tup [.d (.c (.slice none 0 0)), .d (.c (.int .i64 11))] := by rw [unhR, h]
theorem unhR_some {s : ByteArray} {x : List UInt8} (h : unh s.toList = some x) : unhR s = .tup [.d (.sl 1 x.length (bD x)), .d (.c (.int .i64 0))] := by rw [unhR, h]
theorem unhR_wf (s : ByteArray) : wfA 0 (unhR s) = true := by unfold unhR; split <;> rfl
theorem unh_even : ∀ (l : List UInt8) (x : List UInt8), unh l = some x → l.length = 2 * x.length
  | [], x, h => by rw [unh] at h; cases h; rfl
  | [_], x, h => by rw [unh] at h; cases h
  | a :: b :: r, x, h => by
    rw [unh] at h
    split at h
    · cases h
    · cases hr : unh r with
      | none => rw [hr] at h; cases h
      | some y => rw [hr] at h; cases h; simp only [List.length_cons, unh_even r y hr]; omega
theorem unh_odd (l : List UInt8) (h : l.length % 2 = 1) : unh l = none := by
  cases hx : unh l with
  | none => rfl
  | some x => have := unh_even l x hx; omega
theorem or4F : ∀ a b : Fin 16, IntKind.u8.wrap (ibits .or .i64 (ishl .i64 (a.val : Int) 4) (b.val : Int)) = ((UInt8.ofNat (16 * a.val + b.val)).toNat : Int) := by decide +kernel
theorem or4 (a b : Nat) (ha : a < 16) (hb : b < 16) : IntKind.u8.wrap (ibits .or .i64 (ishl .i64 (a : Int) 4) (b : Int)) = ((UInt8.ofNat (16 * a + b)).toNat : Int) := or4F ⟨a, ha⟩ ⟨b, hb⟩
def unSt (s : ByteArray) (i : List UInt8 × Nat) : List (Nat × AV) := [(0, .d (.c (.string s))), (4, .sl (.own 0) 1 i.1.length (bD i.1)), (5, .d (.c (.int .i64 i.2)))]
def unRe (i : List UInt8 × Nat) : Rs := [some (.tok i.1.length)]
set_option maxHeartbeats 1000000 in
theorem unhex_ac (s : ByteArray) (hs : s.size ≤ 140737488355000) :
    AC Try.prog noG 24 [.d (.c (.string s))] [] (fun v r' => v = unhR s ∧ r' = []) := by
  refine AC.wk ?_ (unhR_wf s)
  have hsl := tl_len s
  refine AC_of_R (N := 46) (res := [.tmp 2, .tmp 3]) ty_ok Try.call24 Try.func24 rfl rfl rfl (Nat.le_of_ble_eq_true rfl) ?_
  simp (config := {contextual := true, maxSteps := 1000000, implicitDefEqProofs := false}) (disch := omega) only [↓SA, SB, ST, stops, dstOK, resA, resAll, resOne, resTup, initSt, mkL, gdB, Nat.reduceLT, Nat.reduceEqDiff, Nat.reduceAdd, Nat.reduceMul, Nat.reduceLeDiff, Nat.reduceSub, Int.reduceLT, Int.reduceLE, Int.reduceAdd, Int.reduceSub, Int.reduceMul, Int.reduceToNat, Int.reduceNeg, Int.reduceEq, Int.reduceNe, if_true, if_false, ite_true, ite_false, ↓reduceIte, reduceCtorEq, forall_const, implies_true, eq_self, ne_eq, ren, renL, renM, renRes, putAll]
  refine ⟨fun ho => ?_, fun ho => ⟨⟨by omega, by omega, by omega⟩, HC_loop (unSt s) unRe (fun i => i.2 ≤ s.size ∧ i.2 % 2 = 0 ∧ i.1.length = i.2 / 2 ∧ unh s.toList = (unh (s.toList.drop i.2)).map (i.1 ++ ·)) (fun i => s.size - i.2) ([], 0) ⟨by simp, by simp, by simp, by simp⟩ (fun _ => rfl) ?_ ?_⟩⟩
  · rw [unhR_none (unh_odd _ (by omega))]; exact .inl (.refl _)
  · simp only [Fit, WkL, wfSt, wfRs, wfA, wfM, wfL, wk_refl, wk_top, wk_sl, wk_nilFull, wk_nilD, wkr_refl, get_mk, ↓lk_cons, ↓reduceIte, Nat.reduceEqDiff, List.length_cons, List.length_nil, List.length_append, decide_true, Bool.and_true, and_true, true_and, Nat.reduceLT, Nat.zero_add, Nat.reduceAdd, unSt, unRe, bD_z]
    exact wk_eq rfl
  · intro ⟨acc, i⟩ ⟨hi, hi2, hal, hu⟩
    simp only at hi hi2 hal hu
    refine HC_of_R ty_ok ?_
    by_cases hin : i < s.size
    · obtain ⟨a, b, hd, ha, hb⟩ : ∃ a b, s.toList.drop i = a :: b :: s.toList.drop (i + 2) ∧ sB s i = (a.toNat : Int) ∧ sB s (i + 1) = (b.toNat : Int) := by
        refine ⟨s.toList[i]'(by omega), s.toList[i + 1]'(by omega), ?_, ?_, ?_⟩
        · rw [List.drop_eq_getElem_cons (by omega), List.drop_eq_getElem_cons (i := i + 1) (by omega)]
        · rw [sB, List.getD_eq_getElem?_getD, List.getElem?_eq_getElem (by omega)]; rfl
        · rw [sB, List.getD_eq_getElem?_getD, List.getElem?_eq_getElem (by omega)]; rfl
      rw [hd, unh] at hu
      have hlt : (i : Int) < s.size := by omega
      simp (config := {contextual := true, maxSteps := 1000000, implicitDefEqProofs := false}) (disch := omega) only [↓SA, SB, ST, stops, dstOK, resA, resAll, resOne, resTup, initSt, mkL, gdB, Nat.reduceLT, Nat.reduceEqDiff, Nat.reduceAdd, Nat.reduceMul, Nat.reduceLeDiff, Nat.reduceSub, Int.reduceLT, Int.reduceLE, Int.reduceAdd, Int.reduceSub, Int.reduceMul, Int.reduceToNat, Int.reduceNeg, Int.reduceEq, Int.reduceNe, if_true, if_false, ite_true, ite_false, ↓reduceIte, reduceCtorEq, forall_const, implies_true, eq_self, ne_eq, ren, renL, renM, renRes, putAll, unSt, unRe, hlt]
      refine HC_order [] ty_ok mix [0, 1, 2, 4, 5, 6, 7, 3, 8, 9, 10] (by kernel_rfl) rfl _ rfl ?_
      simp only [opl_nil', opl_cons', oplC_some, List.getElem?_toArray, List.getElem?_cons_zero, List.getElem?_cons_succ]
      have e1 : ((i : Int) + 1).toNat = i + 1 := by omega
      simp (config := {contextual := true, maxSteps := 1000000, implicitDefEqProofs := false}) (disch := omega) only [↓SA, SB, ST, stops, dstOK, resA, resAll, resOne, resTup, initSt, mkL, gdB, Nat.reduceLT, Nat.reduceEqDiff, Nat.reduceAdd, Nat.reduceMul, Nat.reduceLeDiff, Nat.reduceSub, Int.reduceLT, Int.reduceLE, Int.reduceAdd, Int.reduceSub, Int.reduceMul, Int.reduceToNat, Int.reduceNeg, Int.reduceEq, Int.reduceNe, if_true, if_false, ite_true, ite_false, ↓reduceIte, reduceCtorEq, forall_const, implies_true, eq_self, ne_eq, ren, renL, renM, renRes, putAll, ha, hb, e1]
      refine ⟨⟨by omega, by omega⟩, ⟨by omega, by omega⟩, ?_⟩
      refine HO_pure ty_ok (digit_ac a) rfl rfl rfl (by kernel_rfl) (fun _ => rfl) (fun _ => rfl) rfl (by repeat' (first | exact trivial | exact WeakA.refl _ | exact WeakA.toD rfl | exact WeakA.nilD _ | refine ⟨?_, ?_⟩)) ?_
      simp (config := {contextual := true, maxSteps := 1000000, implicitDefEqProofs := false}) (disch := omega) only [↓SA, SB, ST, stops, dstOK, resA, resAll, resOne, resTup, initSt, mkL, gdB, Nat.reduceLT, Nat.reduceEqDiff, Nat.reduceAdd, Nat.reduceMul, Nat.reduceLeDiff, Nat.reduceSub, Int.reduceLT, Int.reduceLE, Int.reduceAdd, Int.reduceSub, Int.reduceMul, Int.reduceToNat, Int.reduceNeg, Int.reduceEq, Int.reduceNe, if_true, if_false, ite_true, ite_false, ↓reduceIte, reduceCtorEq, forall_const, implies_true, eq_self, ne_eq, ren, renL, renM, renRes, putAll]
      refine HO_pure ty_ok (digit_ac b) rfl rfl rfl (by kernel_rfl) (fun _ => rfl) (fun _ => rfl) rfl (by repeat' (first | exact trivial | exact WeakA.refl _ | exact WeakA.toD rfl | exact WeakA.nilD _ | refine ⟨?_, ?_⟩)) ?_
      have hda := dgi_le a
      have hdb := dgi_le b
      by_cases hab : dgi a = 16 ∨ dgi b = 16
      · rw [if_pos hab] at hu
        have h1 : ¬ dgv a < 0 → dgv b < 0 := by
          intro h
          unfold dgv at h ⊢
          split at h
          · rw [if_neg (by omega)]; omega
          · omega
        rw [unhR_none hu]
        simp (config := {contextual := true, maxSteps := 1000000, implicitDefEqProofs := false}) (disch := omega) only [↓SA, SB, ST, stops, dstOK, resA, resAll, resOne, resTup, initSt, mkL, gdB, Nat.reduceLT, Nat.reduceEqDiff, Nat.reduceAdd, Nat.reduceMul, Nat.reduceLeDiff, Nat.reduceSub, Int.reduceLT, Int.reduceLE, Int.reduceAdd, Int.reduceSub, Int.reduceMul, Int.reduceToNat, Int.reduceNeg, Int.reduceEq, Int.reduceNe, if_true, if_false, ite_true, ite_false, ↓reduceIte, reduceCtorEq, forall_const, implies_true, eq_self, ne_eq, ren, renL, renM, renRes, putAll]
        refine ⟨fun h => .inl (.refl _), fun h => .inl (.refl _)⟩
      · rw [if_neg hab] at hu
        have hva : dgv a = dgi a := by rw [dgv, if_pos (by omega)]
        have hvb : dgv b = dgi b := by rw [dgv, if_pos (by omega)]
        have hor := or4 (dgi a) (dgi b) (by omega) (by omega)
        simp (config := {contextual := true, maxSteps := 1000000, implicitDefEqProofs := false}) (disch := omega) only [↓SA, SB, ST, stops, dstOK, resA, resAll, resOne, resTup, initSt, mkL, gdB, Nat.reduceLT, Nat.reduceEqDiff, Nat.reduceAdd, Nat.reduceMul, Nat.reduceLeDiff, Nat.reduceSub, Int.reduceLT, Int.reduceLE, Int.reduceAdd, Int.reduceSub, Int.reduceMul, Int.reduceToNat, Int.reduceNeg, Int.reduceEq, Int.reduceNe, if_true, if_false, ite_true, ite_false, ↓reduceIte, reduceCtorEq, forall_const, implies_true, eq_self, ne_eq, ren, renL, renM, renRes, putAll, hva, hvb, hor]
        refine ⟨⟨by omega, by omega⟩, (acc ++ [UInt8.ofNat (16 * dgi a + dgi b)], i + 2), ⟨by simp only; omega, by simp only; omega, by simp only [List.length_append, List.length_cons, List.length_nil]; omega, ?_⟩, by simp only; omega, ?_⟩
        · rw [hu, Option.map_map]
          congr 1
          funext x
          simp
        · simp only [Fit, WkL, wfSt, wfRs, wfA, wfM, wfL, wk_refl, wk_top, wk_sl, wk_nilFull, wk_nilD, wkr_refl, get_mk, ↓lk_cons, ↓reduceIte, Nat.reduceEqDiff, List.length_cons, List.length_nil, List.length_append, decide_true, Bool.and_true, and_true, true_and, Nat.reduceLT, Nat.zero_add, Nat.reduceAdd, unSt, unRe]
          exact wk_eq (by congr 3)
    · have hlt : ¬ (i : Int) < s.size := by omega
      simp (config := {contextual := true, maxSteps := 1000000, implicitDefEqProofs := false}) (disch := omega) only [↓SA, SB, ST, stops, dstOK, resA, resAll, resOne, resTup, initSt, mkL, gdB, Nat.reduceLT, Nat.reduceEqDiff, Nat.reduceAdd, Nat.reduceMul, Nat.reduceLeDiff, Nat.reduceSub, Int.reduceLT, Int.reduceLE, Int.reduceAdd, Int.reduceSub, Int.reduceMul, Int.reduceToNat, Int.reduceNeg, Int.reduceEq, Int.reduceNe, if_true, if_false, ite_true, ite_false, ↓reduceIte, reduceCtorEq, forall_const, implies_true, eq_self, ne_eq, ren, renL, renM, renRes, putAll, unSt, unRe, hlt]
      rw [List.drop_of_length_le (by omega), unh] at hu
      rw [unhR_some hu]
      simp only [List.append_nil]
      exact wkv_tup ⟨.toD rfl, .refl _, trivial⟩
theorem mul4F : ∀ a b : Fin 16, (16 * (a.val : Int) + (b.val : Int)) = ((UInt8.ofNat (16 * a.val + b.val)).toNat : Int) := by decide +kernel
theorem mul4 (a b : Nat) (ha : a < 16) (hb : b < 16) : (16 * (a : Int) + (b : Int)) = ((UInt8.ofNat (16 * a + b)).toNat : Int) := mul4F ⟨a, ha⟩ ⟨b, hb⟩
set_option maxHeartbeats 1000000 in
theorem runhex_ac (s : ByteArray) (hs : s.size ≤ 140737488355000) :
    AC Try.prog noG 25 [.d (.c (.string s))] [] (fun v r' => v = unhR s ∧ r' = []) := by
  refine AC.wk ?_ (unhR_wf s)
  have hsl := tl_len s
  refine AC_of_R (N := 41) (res := [.tmp 2, .tmp 3]) ty_ok Try.call25 Try.func25 rfl rfl rfl (Nat.le_of_ble_eq_true rfl) ?_
  simp (config := {contextual := true, maxSteps := 1000000, implicitDefEqProofs := false}) (disch := omega) only [↓SA, SB, ST, stops, dstOK, resA, resAll, resOne, resTup, initSt, mkL, gdB, Nat.reduceLT, Nat.reduceEqDiff, Nat.reduceAdd, Nat.reduceMul, Nat.reduceLeDiff, Nat.reduceSub, Int.reduceLT, Int.reduceLE, Int.reduceAdd, Int.reduceSub, Int.reduceMul, Int.reduceToNat, Int.reduceNeg, Int.reduceEq, Int.reduceNe, if_true, if_false, ite_true, ite_false, ↓reduceIte, reduceCtorEq, forall_const, implies_true, eq_self, ne_eq, ren, renL, renM, renRes, putAll]
  refine ⟨fun ho => ?_, fun ho => HC_token 4 (WeakA.nilFull 1) (HC_loop (unSt s) unRe (fun i => i.2 ≤ s.size ∧ i.2 % 2 = 0 ∧ i.1.length = i.2 / 2 ∧ unh s.toList = (unh (s.toList.drop i.2)).map (i.1 ++ ·)) (fun i => s.size - i.2) ([], 0) ⟨by simp, by simp, by simp, by simp⟩ (fun _ => rfl) ?_ ?_)⟩
  · rw [unhR_none (unh_odd _ (by omega))]; exact .inl (.refl _)
  · simp only [Fit, WkL, wfSt, wfRs, wfA, wfM, wfL, wk_refl, wk_top, wk_sl, wk_nilFull, wk_nilD, wkr_refl, get_mk, ↓lk_cons, ↓reduceIte, Nat.reduceEqDiff, List.length_cons, List.length_nil, List.length_append, decide_true, Bool.and_true, and_true, true_and, Nat.reduceLT, Nat.zero_add, Nat.reduceAdd, unSt, unRe, bD_z, putR_some, List.nil_append]
    exact wk_eq rfl
  · intro ⟨acc, i⟩ ⟨hi, hi2, hal, hu⟩
    simp only at hi hi2 hal hu
    refine HC_of_R ty_ok ?_
    by_cases hin : i < s.size
    · obtain ⟨a, b, hd, ha, hb⟩ : ∃ a b, s.toList.drop i = a :: b :: s.toList.drop (i + 2) ∧ sB s i = (a.toNat : Int) ∧ sB s (i + 1) = (b.toNat : Int) := by
        refine ⟨s.toList[i]'(by omega), s.toList[i + 1]'(by omega), ?_, ?_, ?_⟩
        · rw [List.drop_eq_getElem_cons (by omega), List.drop_eq_getElem_cons (i := i + 1) (by omega)]
        · rw [sB, List.getD_eq_getElem?_getD, List.getElem?_eq_getElem (by omega)]; rfl
        · rw [sB, List.getD_eq_getElem?_getD, List.getElem?_eq_getElem (by omega)]; rfl
      rw [hd, unh] at hu
      have hlt : (i : Int) < s.size := by omega
      simp (config := {contextual := true, maxSteps := 1000000, implicitDefEqProofs := false}) (disch := omega) only [↓SA, SB, ST, stops, dstOK, resA, resAll, resOne, resTup, initSt, mkL, gdB, Nat.reduceLT, Nat.reduceEqDiff, Nat.reduceAdd, Nat.reduceMul, Nat.reduceLeDiff, Nat.reduceSub, Int.reduceLT, Int.reduceLE, Int.reduceAdd, Int.reduceSub, Int.reduceMul, Int.reduceToNat, Int.reduceNeg, Int.reduceEq, Int.reduceNe, if_true, if_false, ite_true, ite_false, ↓reduceIte, reduceCtorEq, forall_const, implies_true, eq_self, ne_eq, ren, renL, renM, renRes, putAll, unSt, unRe, hlt]
      have e1 : ((i : Int) + 1).toNat = i + 1 := by omega
      simp (config := {contextual := true, maxSteps := 1000000, implicitDefEqProofs := false}) (disch := omega) only [↓SA, SB, ST, stops, dstOK, resA, resAll, resOne, resTup, initSt, mkL, gdB, Nat.reduceLT, Nat.reduceEqDiff, Nat.reduceAdd, Nat.reduceMul, Nat.reduceLeDiff, Nat.reduceSub, Int.reduceLT, Int.reduceLE, Int.reduceAdd, Int.reduceSub, Int.reduceMul, Int.reduceToNat, Int.reduceNeg, Int.reduceEq, Int.reduceNe, if_true, if_false, ite_true, ite_false, ↓reduceIte, reduceCtorEq, forall_const, implies_true, eq_self, ne_eq, ren, renL, renM, renRes, putAll, ha, hb, e1]
      refine ⟨by omega, ?_⟩
      refine HO_pure ty_ok (rdigit_ac a) rfl rfl rfl (by kernel_rfl) (fun _ => rfl) (fun _ => rfl) rfl (by repeat' (first | exact trivial | exact WeakA.refl _ | exact WeakA.toD rfl | exact WeakA.nilD _ | refine ⟨?_, ?_⟩)) ?_
      simp (config := {contextual := true, maxSteps := 1000000, implicitDefEqProofs := false}) (disch := omega) only [↓SA, SB, ST, stops, dstOK, resA, resAll, resOne, resTup, initSt, mkL, gdB, Nat.reduceLT, Nat.reduceEqDiff, Nat.reduceAdd, Nat.reduceMul, Nat.reduceLeDiff, Nat.reduceSub, Int.reduceLT, Int.reduceLE, Int.reduceAdd, Int.reduceSub, Int.reduceMul, Int.reduceToNat, Int.reduceNeg, Int.reduceEq, Int.reduceNe, if_true, if_false, ite_true, ite_false, ↓reduceIte, reduceCtorEq, forall_const, implies_true, eq_self, ne_eq, ren, renL, renM, renRes, putAll, e1, hb]
      refine ⟨by omega, ?_⟩
      refine HO_pure ty_ok (rdigit_ac b) rfl rfl rfl (by kernel_rfl) (fun _ => rfl) (fun _ => rfl) rfl (by repeat' (first | exact trivial | exact WeakA.refl _ | exact WeakA.toD rfl | exact WeakA.nilD _ | refine ⟨?_, ?_⟩)) ?_
      have hda := dgi_le a
      have hdb := dgi_le b
      by_cases hab : dgi a = 16 ∨ dgi b = 16
      · rw [if_pos hab] at hu
        rw [unhR_none hu]
        simp (config := {contextual := true, maxSteps := 1000000, implicitDefEqProofs := false}) (disch := omega) only [↓SA, SB, ST, stops, dstOK, resA, resAll, resOne, resTup, initSt, mkL, gdB, Nat.reduceLT, Nat.reduceEqDiff, Nat.reduceAdd, Nat.reduceMul, Nat.reduceLeDiff, Nat.reduceSub, Int.reduceLT, Int.reduceLE, Int.reduceAdd, Int.reduceSub, Int.reduceMul, Int.reduceToNat, Int.reduceNeg, Int.reduceEq, Int.reduceNe, if_true, if_false, ite_true, ite_false, ↓reduceIte, reduceCtorEq, forall_const, implies_true, eq_self, ne_eq, ren, renL, renM, renRes, putAll]
        refine ⟨fun h => .inl (.refl _), fun h => .inl (.refl _)⟩
      · rw [if_neg hab] at hu
        have hor := mul4 (dgi a) (dgi b) (by omega) (by omega)
        have h1 : ¬ (dgi a : Int) = 16 := by omega
        have h2 : ¬ (dgi b : Int) = 16 := by omega
        simp (config := {contextual := true, maxSteps := 1000000, implicitDefEqProofs := false}) (disch := omega) only [↓SA, SB, ST, stops, dstOK, resA, resAll, resOne, resTup, initSt, mkL, gdB, Nat.reduceLT, Nat.reduceEqDiff, Nat.reduceAdd, Nat.reduceMul, Nat.reduceLeDiff, Nat.reduceSub, Int.reduceLT, Int.reduceLE, Int.reduceAdd, Int.reduceSub, Int.reduceMul, Int.reduceToNat, Int.reduceNeg, Int.reduceEq, Int.reduceNe, if_true, if_false, ite_true, ite_false, ↓reduceIte, reduceCtorEq, forall_const, implies_true, eq_self, ne_eq, ren, renL, renM, renRes, putAll, h1, h2, hor]
        refine ⟨⟨by omega, by omega⟩, (acc ++ [UInt8.ofNat (16 * dgi a + dgi b)], i + 2), ⟨by simp only; omega, by simp only; omega, by simp only [List.length_append, List.length_cons, List.length_nil]; omega, ?_⟩, by simp only; omega, ?_⟩
        · rw [hu, Option.map_map]
          congr 1
          funext x
          simp
        · simp only [Fit, WkL, wfSt, wfRs, wfA, wfM, wfL, wk_refl, wk_top, wk_sl, wk_nilFull, wk_nilD, wkr_refl, get_mk, ↓lk_cons, ↓reduceIte, Nat.reduceEqDiff, List.length_cons, List.length_nil, List.length_append, decide_true, Bool.and_true, and_true, true_and, Nat.reduceLT, Nat.zero_add, Nat.reduceAdd, unSt, unRe, UInt8.ofNat_toNat]
          exact wk_eq (by congr 3)
    · have hlt : ¬ (i : Int) < s.size := by omega
      simp (config := {contextual := true, maxSteps := 1000000, implicitDefEqProofs := false}) (disch := omega) only [↓SA, SB, ST, stops, dstOK, resA, resAll, resOne, resTup, initSt, mkL, gdB, Nat.reduceLT, Nat.reduceEqDiff, Nat.reduceAdd, Nat.reduceMul, Nat.reduceLeDiff, Nat.reduceSub, Int.reduceLT, Int.reduceLE, Int.reduceAdd, Int.reduceSub, Int.reduceMul, Int.reduceToNat, Int.reduceNeg, Int.reduceEq, Int.reduceNe, if_true, if_false, ite_true, ite_false, ↓reduceIte, reduceCtorEq, forall_const, implies_true, eq_self, ne_eq, ren, renL, renM, renRes, putAll, unSt, unRe, hlt]
      rw [List.drop_of_length_le (by omega), unh] at hu
      rw [unhR_some hu]
      simp only [List.append_nil]
      exact wkv_tup ⟨.toD rfl, .refl _, trivial⟩
theorem hxEF : ∀ k : Fin 16, (ByteArray.mk #[48, 49, 50, 51, 52, 53, 54, 55, 56, 57, 97, 98, 99, 100, 101, 102]).extract k.val (k.val + 1) = ⟨[hx k.val].toArray⟩ := by decide +kernel
theorem hxE (k : Nat) (h : k < 16) : (ByteArray.mk #[48, 49, 50, 51, 52, 53, 54, 55, 56, 57, 97, 98, 99, 100, 101, 102]).extract k (k + 1) = ⟨[hx k].toArray⟩ := hxEF ⟨k, h⟩
theorem ba_app (a b : List UInt8) : (ByteArray.mk a.toArray) ++ (ByteArray.mk b.toArray) = ⟨(a ++ b).toArray⟩ := by
  rw [ByteArray.ext_iff]; simp
theorem ba_size (a : List UInt8) : (ByteArray.mk a.toArray).size = a.length := by simp [ByteArray.size]
def rhexSt (b : List UInt8) (i : Nat) : List (Nat × AV) := [(0, .d (.sl 1 b.length (bD b))), (3, .d (.c (.string ⟨(hexB (b.take i)).toArray⟩))), (4, .d (.c (.int .i64 i)))]
set_option maxHeartbeats 1000000 in
theorem rhex_ac (b : List UInt8) (hb : b.length ≤ 1000000000000) :
    AC Try.prog noG 27 [.d (.sl 1 b.length (bD b))] [] (fun v r' => v = .d (.c (.string ⟨(hexB b).toArray⟩)) ∧ r' = []) := by
  refine AC.pure ?_ (by rintro v rfl; rfl)
  refine AC_of_R (N := 39) (res := [.tmp 2]) ty_ok Try.call27 Try.func27 rfl rfl rfl (Nat.le_of_ble_eq_true rfl) ?_
  simp (config := {contextual := true, maxSteps := 1000000, implicitDefEqProofs := false}) (disch := omega) only [↓SA, SB, ST, stops, dstOK, resA, resAll, resOne, resTup, initSt, mkL, gdB, Nat.reduceLT, Nat.reduceEqDiff, Nat.reduceAdd, Nat.reduceMul, Nat.reduceLeDiff, Nat.reduceSub, Int.reduceLT, Int.reduceLE, Int.reduceAdd, Int.reduceSub, Int.reduceMul, Int.reduceToNat, Int.reduceNeg, Int.reduceEq, Int.reduceNe, if_true, if_false, ite_true, ite_false, ↓reduceIte, reduceCtorEq, forall_const, implies_true, eq_self, ne_eq, ren, renL, renM, renRes, putAll]
  refine HC_loop (rhexSt b) (fun _ => []) (fun i => i ≤ b.length) (fun i => b.length - i) 0 (by simp) (fun _ => rfl) ?_ ?_
  · simp only [Fit, WkL, wfSt, wfRs, wfA, wfM, wfL, wk_refl, wk_top, wk_sl, wk_nilFull, wk_nilD, wkr_refl, get_mk, ↓lk_cons, ↓reduceIte, Nat.reduceEqDiff, List.length_cons, List.length_nil, List.length_append, decide_true, Bool.and_true, and_true, true_and, Nat.reduceLT, Nat.zero_add, Nat.reduceAdd, rhexSt, List.take_zero, hexB, List.flatMap_nil]
    exact wk_eq rfl
  · intro i hi
    refine HC_of_R ty_ok ?_
    have hlen : (hexB (b.take i)).length = 2 * i := by rw [hexB_len, List.length_take]; omega
    simp (config := {contextual := true, maxSteps := 1000000, implicitDefEqProofs := false}) (disch := omega) only [↓SA, SB, ST, stops, dstOK, resA, resAll, resOne, resTup, initSt, mkL, gdB, Nat.reduceLT, Nat.reduceEqDiff, Nat.reduceAdd, Nat.reduceMul, Nat.reduceLeDiff, Nat.reduceSub, Int.reduceLT, Int.reduceLE, Int.reduceAdd, Int.reduceSub, Int.reduceMul, Int.reduceToNat, Int.reduceNeg, Int.reduceEq, Int.reduceNe, if_true, if_false, ite_true, ite_false, ↓reduceIte, reduceCtorEq, forall_const, implies_true, eq_self, ne_eq, ren, renL, renM, renRes, putAll, rhexSt]
    refine ⟨fun hc => ?_, fun hc => ?_⟩
    · skip
      refine HC_plan [] ty_ok mix (by kernel_rfl) ?_
      have hc8 := (b.getD i 0).toNat_lt
      have hnext : hexB (b.take (i + 1)) = hexB (b.take i) ++ [hx ((b.getD i 0).toNat / 16), hx ((b.getD i 0).toNat % 16)] := by
        rw [List.take_add_one, hexB, List.flatMap_append, List.getElem?_eq_getElem (by omega), List.getD_eq_getElem?_getD, List.getElem?_eq_getElem (by omega)]
        rfl
      obtain ⟨c, hcb⟩ : ∃ c, b.getD i 0 = c := ⟨_, rfl⟩
      rw [hcb] at hc8 hnext
      have e1 : ((c.toNat : Int) / 16).toNat = c.toNat / 16 := by omega
      have e2 : ((c.toNat : Int) % 16).toNat = c.toNat % 16 := by omega
      have e3 : ((c.toNat : Int) / 16 + 1).toNat = c.toNat / 16 + 1 := by omega
      have e4 : ((c.toNat : Int) % 16 + 1).toNat = c.toNat % 16 + 1 := by omega
      have x1 := hxE (c.toNat / 16) (by omega)
      have x2 := hxE (c.toNat % 16) (by omega)
      simp (config := {contextual := true, maxSteps := 1000000, implicitDefEqProofs := false}) (disch := omega) only [↓SA, SB, ST, stops, dstOK, resA, resAll, resOne, resTup, initSt, mkL, gdB, Nat.reduceLT, Nat.reduceEqDiff, Nat.reduceAdd, Nat.reduceMul, Nat.reduceLeDiff, Nat.reduceSub, Int.reduceLT, Int.reduceLE, Int.reduceAdd, Int.reduceSub, Int.reduceMul, Int.reduceToNat, Int.reduceNeg, Int.reduceEq, Int.reduceNe, if_true, if_false, ite_true, ite_false, ↓reduceIte, reduceCtorEq, forall_const, implies_true, eq_self, ne_eq, ren, renL, renM, renRes, putAll, rhexSt, hcb, e1, e2, e3, e4, x1, x2, hlen, hexA_size, ba_app, ba_size]
      refine ⟨by omega, by omega, by omega, by omega, by omega, by omega, by omega, i + 1, by omega, by omega, ?_⟩
      simp only [Fit, WkL, wfSt, wfRs, wfA, wfM, wfL, wk_refl, wk_top, wk_sl, wk_nilFull, wk_nilD, wkr_refl, get_mk, ↓lk_cons, ↓reduceIte, Nat.reduceEqDiff, List.length_cons, List.length_nil, List.length_append, decide_true, Bool.and_true, and_true, true_and, Nat.reduceLT, Nat.zero_add, Nat.reduceAdd, rhexSt, hnext]
      exact wk_eq rfl
    · rw [List.take_of_length_le (by omega)]
end Go.Proofs.Yteeknmjjpcbphaa
