import Derived.Test.YtfeoafddagdbfaaCInt
set_option linter.unusedVariables false
set_option linter.unusedSimpArgs false
set_option maxRecDepth 100000
namespace Go.Proofs.Ytfeoafddagdbfaa
open Go Go.ChangeShapes Go.WideShapes
def rintSt (b : List UInt8) (k : Int) (i : Nat × Nat) : List (Nat × AV) := [(0, .d (.sl 1 b.length (bD b))), (1, .d (.c (.int .i64 k))), (8, .d (.c (.int .i64 i.1))), (7, .d (.c (.int .u64 i.2)))]
set_option maxHeartbeats 1000000 in
theorem rint_ac (b : List UInt8) (k : Int) (h0 : -9223372036854775808 ≤ k) (h1 : k ≤ 9223372036854775807) (hb : b.length ≤ 140737488355000) :
    AC Try.prog noG 88 [.d (.sl 1 b.length (bD b)), .d (.c (.int .i64 k))] [] (fun v r' => v = tri (rdInt b k) ∧ r' = []) := by
  refine AC_of_R (N := 76) (res := [.tmp 4, .tmp 5, .tmp 6]) ty_ok Try.call88 Try.func88 rfl rfl rfl (Nat.le_of_ble_eq_true rfl) ?_
  refine rn0 ?_
  refine ⟨fun hk => ⟨fun hl => ?_, fun hl => ?_⟩, fun hk => ?_⟩
  · rw [rdInt, if_pos (.inr hl)]; rfl
  · obtain ⟨kn, rfl⟩ := Int.eq_ofNat_of_zero_le (Int.not_lt.1 hk)
    have hR : rdInt b (kn : Int) = rdAt kn 0 0 (b.drop kn) := by rw [rdInt, if_neg (by omega)]; rfl
    refine HC_loop (rintSt b kn) (fun _ => []) (fun i => rdAt kn i.1 i.2 (b.drop (kn + i.1)) = rdInt b kn ∧ i.1 ≤ 9 ∧ i.2 < 2 ^ (7 * i.1) ∧ kn + i.1 ≤ b.length) (fun i => 10 - i.1) (0, 0) ⟨hR.symm, by decide, by decide, by simp only; omega⟩ (fun _ => rfl) ?_ ?_
    · simp only [Fit, WkL, wfSt, wfRs, wfA, wfM, wfL, wk_refl, wk_top, wk_sl, wk_nilFull, wk_nilD, wkr_refl, get_mk, ↓lk_cons, ↓reduceIte, Nat.reduceEqDiff, List.length_cons, List.length_nil, List.length_append, decide_true, Bool.and_true, and_true, true_and, Nat.reduceLT, Nat.zero_add, Nat.reduceAdd, rintSt]
      exact ⟨wk_eq rfl, wk_eq rfl⟩
    · intro ⟨i, u⟩ ⟨hp, hi, hu, hle⟩
      simp only at hp hi hu hle
      refine HC_of_R ty_ok ?_
      have e1 : ((kn : Int) + (i : Int)).toNat = kn + i := by omega
      by_cases hin : kn + i < b.length
      · have hd : b.drop (kn + i) = b.getD (kn + i) 0 :: b.drop (kn + (i + 1)) := by
          rw [List.drop_eq_getElem_cons hin, List.getD_eq_getElem?_getD, List.getElem?_eq_getElem hin]; rfl
        rw [hd] at hp
        generalize hc : b.getD (kn + i) 0 = c at hp
        have hc8 := c.toNat_lt
        have hc2 : (b.getD (kn + i) 0).toNat = c.toNat := by rw [hc]
        rw [rdAt] at hp
        by_cases h9 : i = 9 ∧ 1 < c.toNat
        · rw [if_pos h9] at hp
          refine rn1 (jn @rintSt.eq_1 (jn @e1 @hc2)) ?_
          exact ⟨⟨by omega, by omega⟩, by rw [← hp]; rfl⟩
        · rw [if_neg h9] at hp
          have hpw := pow7 hi
          obtain ⟨y, hy⟩ : ∃ y, y = c.toNat % 128 * 2 ^ (7 * i) := ⟨_, rfl⟩
          rw [← hy] at hp
          have hy63 : y + u < 2 ^ (7 * (i + 1)) ∧ y + u < 18446744073709551616 := by
            have h1 : c.toNat % 128 * 2 ^ (7 * i) ≤ 127 * 2 ^ (7 * i) := Nat.mul_le_mul_right _ (by omega)
            have h2 : 2 ^ (7 * (i + 1)) = 128 * 2 ^ (7 * i) := by rw [Nat.mul_add, Nat.pow_add, Nat.mul_comm]
            refine ⟨by omega, ?_⟩
            by_cases hi9 : i = 9
            · subst hi9
              have : c.toNat ≤ 1 := by omega
              have : c.toNat % 128 * 2 ^ (7 * 9) ≤ 1 * 2 ^ (7 * 9) := Nat.mul_le_mul_right _ (by omega)
              omega
            · have : 2 ^ (7 * i) ≤ 2 ^ (7 * 8) := Nat.pow_le_pow_right (by decide) (by omega)
              omega
          have hsh : ishl .u64 ((c.toNat : Int) % 128) (7 * (i : Int)) = (y : Int) := by
            have e : (7 * (i : Int)).toNat = 7 * i := by omega
            have e2 : (c.toNat : Int) % 128 * 2 ^ (7 * i) = (y : Int) := by rw [hy]; push_cast; rfl
            rw [shl64 (by omega) (by omega) (by omega) (by rw [e, e2]; omega), e, e2]
          have hsh9 (h : (i : Int) = 9) : ishl .u64 ((c.toNat : Int) % 128) 63 = (y : Int) := by rw [← hsh, h]; rfl
          refine rn1 (jn @rintSt.eq_1 (jn @e1 (jn @hc2 (jn @hsh @hsh9)))) ?_
          have odd : ∀ q : Int, (u : Int) + y = (u + y : Nat) := fun q => by omega
          have fin : ∀ p : Int, p = ((kn + i + 1 : Nat) : Int) → ¬ 127 < c.toNat → ¬ (0 < i ∧ c.toNat = 0) → (((u : Int) + y) % 2 = 1 → AV.tup [.d (.c (.int .i64 (0 - ((u : Int) + y) / 2 - 1))), .d (.c (.int .i64 p)), .d (.c (.int .i64 0))] = tri (rdInt b kn)) ∧
              (¬ ((u : Int) + y) % 2 = 1 → AV.tup [.d (.c (.int .i64 (((u : Int) + y) / 2))), .d (.c (.int .i64 p)), .d (.c (.int .i64 0))] = tri (rdInt b kn)) := by
            rintro p rfl h1 h2
            rw [if_neg h1, if_neg h2] at hp
            refine ⟨fun ho => ?_, fun ho => ?_⟩ <;> rw [← hp]
            · exact tri_eq (by have := zag_odd (u := u + y) (by omega); simp only; omega) rfl rfl
            · exact tri_eq (by have := zag_even (u := u + y) (by omega); simp only; omega) rfl rfl
          have bad : ¬ 127 < c.toNat → (0 < i ∧ c.toNat = 0) → AV.tup [.d (.c (.int .i64 0)), .d (.c (.int .i64 0)), .d (.c (.int .i64 11))] = tri (rdInt b kn) := by
            intro h1 h2
            rw [if_neg h1, if_pos h2] at hp
            rw [← hp]; rfl
          refine ⟨⟨by omega, by omega⟩, fun h9' => ⟨fun hz => bad (by omega) (by omega), fun hz => fin _ (by omega) (by omega) (by omega)⟩, fun h9' => ⟨fun hc => ⟨(i + 1, u + y), ⟨?_, by simp only; omega, by simp only; omega, by simp only; omega⟩, by simp only; omega, ?_⟩, fun hc => ⟨fun hi0 => ⟨fun hz => bad (by omega) (by omega), fun hz => fin _ (by omega) (by omega) (by omega)⟩, fun hi0 => fin _ (by omega) (by omega) (by omega)⟩⟩⟩
          · rw [if_pos (by omega)] at hp; exact hp
          · simp only [Fit, WkL, wfSt, wfRs, wfA, wfM, wfL, wk_refl, wk_top, wk_sl, wk_nilFull, wk_nilD, wkr_refl, get_mk, ↓lk_cons, ↓reduceIte, Nat.reduceEqDiff, List.length_cons, List.length_nil, List.length_append, decide_true, Bool.and_true, and_true, true_and, Nat.reduceLT, Nat.zero_add, Nat.reduceAdd, rintSt]
            exact ⟨wk_eq (by congr 3), wk_eq (by congr 3)⟩
      · rw [List.drop_eq_nil_of_le (by omega), rdAt] at hp
        refine rn1 @rintSt.eq_1 ?_
        rw [← hp]; rfl
  · rw [rdInt, if_pos (.inl hk)]; rfl
end Go.Proofs.Ytfeoafddagdbfaa
