import Derived.Test.YtfeoafddagdbfaaCPutInt
set_option linter.unusedVariables false
set_option linter.unusedSimpArgs false
set_option maxRecDepth 100000
namespace Go.Proofs.Ytfeoafddagdbfaa
open Go Go.ChangeShapes Go.WideShapes
/-- The number of 'u' (even: not below zero; odd: below). -/
def zag (u : Nat) : Int := if u % 2 = 1 then -1 - ((u / 2 : Nat) : Int) else ((u / 2 : Nat) : Int)
def rdAt (at_ : Nat) : Nat → Nat → List UInt8 → Int × Int × Int
  | _, _, [] => (0, 0, 10)
  | i, u, c :: l => if i = 9 ∧ 1 < c.toNat then (0, 0, 11)
    else if 127 < c.toNat then rdAt at_ (i + 1) (u + c.toNat % 128 * 2 ^ (7 * i)) l
    else if 0 < i ∧ c.toNat = 0 then (0, 0, 11)
    else (zag (u + c.toNat % 128 * 2 ^ (7 * i)), ((at_ + i + 1 : Nat) : Int), 0)
def rdInt (b : List UInt8) (k : Int) : Int × Int × Int := if k < 0 ∨ (b.length : Int) < k then (0, 0, 2) else rdAt k.toNat 0 0 (b.drop k.toNat)
def tri (t : Int × Int × Int) : AV := .tup [.d (.c (.int .i64 t.1)), .d (.c (.int .i64 t.2.1)), .d (.c (.int .i64 t.2.2))]
def intSt (b : List UInt8) (k : Int) (i : Nat × Nat) : List (Nat × AV) := [(0, .d (.sl 1 b.length (bD b))), (1, .d (.c (.int .i64 k))), (8, .d (.c (.int .i64 i.1))), (7, .d (.c (.int .u64 i.2)))]
theorem pow7 {i : Nat} (h : i ≤ 9) : 2 ^ (7 * i) ≤ 9223372036854775808 := by
  have : 2 ^ (7 * i) ≤ 2 ^ 63 := Nat.pow_le_pow_right (by decide) (by omega)
  simpa using this
theorem or_add {u x i : Nat} (h : u < 2 ^ i) : u ||| x * 2 ^ i = u + x * 2 ^ i := by
  have := Nat.shiftLeft_add_eq_or_of_lt h x
  rw [Nat.shiftLeft_eq] at this
  rw [Nat.or_comm, ← this, Nat.add_comm]
theorem tri_eq {t : Int × Int × Int} {a b c : Int} (h1 : a = t.1) (h2 : b = t.2.1) (h3 : c = t.2.2) : AV.tup [AV.d (D.c (.int .i64 a)), AV.d (D.c (.int .i64 b)), AV.d (D.c (.int .i64 c))] = tri t := by subst h1; subst h2; subst h3; rfl
theorem zag_odd {u : Nat} (h : (u : Int) % 2 = 1) : -1 - (u : Int) / 2 = zag u := by unfold zag; rw [if_pos (by omega)]; omega
theorem zag_even {u : Nat} (h : ¬ (u : Int) % 2 = 1) : (u : Int) / 2 = zag u := by unfold zag; rw [if_neg (by omega)]; omega
set_option maxHeartbeats 1000000 in
theorem int_ac (b : List UInt8) (k : Int) (h0 : -9223372036854775808 ≤ k) (h1 : k ≤ 9223372036854775807) (hb : b.length ≤ 140737488355000) :
    AC Try.prog noG 85 [.d (.sl 1 b.length (bD b)), .d (.c (.int .i64 k))] [] (fun v r' => v = tri (rdInt b k) ∧ r' = []) := by
  refine AC_of_R (N := 67) (res := [.tmp 4, .tmp 5, .tmp 6]) ty_ok Try.call85 Try.func85 rfl rfl rfl (Nat.le_of_ble_eq_true rfl) ?_
  refine rn0 ?_
  refine ⟨fun hk => ⟨fun hl => ?_, fun hl => ?_⟩, fun hk => ?_⟩
  · rw [rdInt, if_pos (.inr hl)]; rfl
  · obtain ⟨kn, rfl⟩ := Int.eq_ofNat_of_zero_le (Int.not_lt.1 hk)
    have hR : rdInt b (kn : Int) = rdAt kn 0 0 (b.drop kn) := by rw [rdInt, if_neg (by omega)]; rfl
    refine HC_loop (intSt b kn) (fun _ => []) (fun i => rdAt kn i.1 i.2 (b.drop (kn + i.1)) = rdInt b kn ∧ i.1 ≤ 9 ∧ i.2 < 2 ^ (7 * i.1)) (fun i => 10 - i.1) (0, 0) ⟨hR.symm, by decide, by decide⟩ (fun _ => rfl) ?_ ?_
    · simp only [Fit, WkL, wfSt, wfRs, wfA, wfM, wfL, wk_refl, wk_top, wk_sl, wk_nilFull, wk_nilD, wkr_refl, get_mk, ↓lk_cons, ↓reduceIte, Nat.reduceEqDiff, List.length_cons, List.length_nil, List.length_append, decide_true, Bool.and_true, and_true, true_and, Nat.reduceLT, Nat.zero_add, Nat.reduceAdd, intSt]
      exact ⟨wk_eq rfl, wk_eq rfl⟩
    · intro ⟨i, u⟩ ⟨hp, hi, hu⟩
      simp only at hp hi hu
      refine HC_of_R ty_ok ?_
      have e1 : ((kn : Int) + (i : Int)).toNat = kn + i := by omega
      by_cases hin : kn + i < b.length
      · have hd : b.drop (kn + i) = b.getD (kn + i) 0 :: b.drop (kn + (i + 1)) := by
          rw [List.drop_eq_getElem_cons hin, List.getD_eq_getElem?_getD, List.getElem?_eq_getElem hin]; rfl
        rw [hd] at hp
        generalize hc : b.getD (kn + i) 0 = c at hp
        have hc8 := c.toNat_lt
        have hc2 : (b.getD (kn + i) 0).toNat = c.toNat := by rw [hc]
        rw [rdAt] at hp
        by_cases h9 : i = 9 ∧ 1 < c.toNat
        · rw [if_pos h9] at hp
          refine rn1 (jn @intSt.eq_1 (jn @e1 @hc2)) ?_
          exact ⟨⟨by omega, by omega⟩, by rw [← hp]; rfl⟩
        · rw [if_neg h9] at hp
          have hpw := pow7 hi
          obtain ⟨y, hy⟩ : ∃ y, y = c.toNat % 128 * 2 ^ (7 * i) := ⟨_, rfl⟩
          rw [← hy] at hp
          have hy63 : y + u < 2 ^ (7 * (i + 1)) ∧ y + u < 18446744073709551616 := by
            have h1 : c.toNat % 128 * 2 ^ (7 * i) ≤ 127 * 2 ^ (7 * i) := Nat.mul_le_mul_right _ (by omega)
            have h2 : 2 ^ (7 * (i + 1)) = 128 * 2 ^ (7 * i) := by rw [Nat.mul_add, Nat.pow_add, Nat.mul_comm]
            refine ⟨by omega, ?_⟩
            by_cases hi9 : i = 9
            · subst hi9
              have : c.toNat ≤ 1 := by omega
              have : c.toNat % 128 * 2 ^ (7 * 9) ≤ 1 * 2 ^ (7 * 9) := Nat.mul_le_mul_right _ (by omega)
              omega
            · have : 2 ^ (7 * i) ≤ 2 ^ (7 * 8) := Nat.pow_le_pow_right (by decide) (by omega)
              omega
          have hsh : ishl .u64 ((c.toNat : Int) % 128) (7 * (i : Int)) = (y : Int) := by
            have e : (7 * (i : Int)).toNat = 7 * i := by omega
            have e2 : (c.toNat : Int) % 128 * 2 ^ (7 * i) = (y : Int) := by rw [hy]; push_cast; rfl
            rw [shl64 (by omega) (by omega) (by omega) (by rw [e, e2]; omega), e, e2]
          have hsh9 (h : (i : Int) = 9) : ishl .u64 ((c.toNat : Int) % 128) 63 = (y : Int) := by rw [← hsh, h]; rfl
          have hor : ibits .or .u64 (u : Int) (y : Int) = ((u + y : Nat) : Int) := by
            rw [or64 (by omega) (by omega) (by omega) (by omega)]
            simp only [Int.toNat_natCast]
            rw [hy, or_add hu]
          refine rn1 (jn @intSt.eq_1 (jn @e1 (jn @hc2 (jn @hsh (jn @hsh9 @hor))))) ?_
          refine ⟨⟨by omega, by omega⟩, fun h9' => ⟨fun hz => ?_, fun hz => ⟨fun ho => ?_, fun ho => ?_⟩⟩, fun h9' => ⟨fun hc => ⟨(i + 1, u + y), ⟨?_, by simp only; omega, by simp only; omega⟩, by simp only; omega, ?_⟩, fun hc => ⟨fun hi0 => ⟨fun hz => ?_, fun hz => ⟨fun ho => ?_, fun ho => ?_⟩⟩, fun hi0 => ⟨fun ho => ?_, fun ho => ?_⟩⟩⟩⟩
          · rw [if_neg (by omega), if_pos (by omega)] at hp; rw [← hp]; rfl
          · rw [if_neg (by omega), if_neg (by omega)] at hp; rw [← hp]; exact tri_eq (zag_odd ho) (by simp only; omega) rfl
          · rw [if_neg (by omega), if_neg (by omega)] at hp; rw [← hp]; exact tri_eq (zag_even ho) (by simp only; omega) rfl
          · rw [if_pos (by omega)] at hp; exact hp
          · simp only [Fit, WkL, wfSt, wfRs, wfA, wfM, wfL, wk_refl, wk_top, wk_sl, wk_nilFull, wk_nilD, wkr_refl, get_mk, ↓lk_cons, ↓reduceIte, Nat.reduceEqDiff, List.length_cons, List.length_nil, List.length_append, decide_true, Bool.and_true, and_true, true_and, Nat.reduceLT, Nat.zero_add, Nat.reduceAdd, intSt]
            exact wk_eq rfl
          · rw [if_neg (by omega), if_pos (by omega)] at hp; rw [← hp]; rfl
          · rw [if_neg (by omega), if_neg (by omega)] at hp; rw [← hp]; exact tri_eq (zag_odd ho) (by simp only; omega) rfl
          · rw [if_neg (by omega), if_neg (by omega)] at hp; rw [← hp]; exact tri_eq (zag_even ho) (by simp only; omega) rfl
          · rw [if_neg (by omega), if_neg (by omega)] at hp; rw [← hp]; exact tri_eq (zag_odd ho) (by simp only; omega) rfl
          · rw [if_neg (by omega), if_neg (by omega)] at hp; rw [← hp]; exact tri_eq (zag_even ho) (by simp only; omega) rfl
      · rw [List.drop_eq_nil_of_le (by omega), rdAt] at hp
        refine rn1 @intSt.eq_1 ?_
        rw [← hp]; rfl
  · rw [rdInt, if_pos (.inl hk)]; rfl
end Go.Proofs.Ytfeoafddagdbfaa
