import Derived.Test.YtfeoafddagdbfaaCRInt
set_option linter.unusedVariables false
set_option linter.unusedSimpArgs false
set_option maxRecDepth 100000
namespace Go.Proofs.Ytfeoafddagdbfaa
open Go Go.ChangeShapes Go.WideShapes
theorem rdAt_bd (at_ : Nat) : ∀ (l : List UInt8) (i u : Nat), i ≤ 9 → u < 2 ^ (7 * i) →
    (-9223372036854775808 ≤ (rdAt at_ i u l).1 ∧ (rdAt at_ i u l).1 ≤ 9223372036854775807) ∧ (0 ≤ (rdAt at_ i u l).2.1 ∧ (rdAt at_ i u l).2.1 ≤ (at_ + i + l.length : Nat)) ∧ (0 ≤ (rdAt at_ i u l).2.2 ∧ (rdAt at_ i u l).2.2 ≤ 11) ∧ ((rdAt at_ i u l).2.2 = 0 → (at_ : Int) + i < (rdAt at_ i u l).2.1)
  | [], i, u, _, _ => by simp only [rdAt]; omega
  | c :: l, i, u, hi, hu => by
    have hc8 := c.toNat_lt
    simp only [rdAt]
    by_cases h9 : i = 9 ∧ 1 < c.toNat
    · rw [if_pos h9]; simp only; omega
    · rw [if_neg h9]
      have hpw := pow7 hi
      obtain ⟨y, hy⟩ : ∃ y, y = c.toNat % 128 * 2 ^ (7 * i) := ⟨_, rfl⟩
      rw [← hy]
      have hy63 : y + u < 2 ^ (7 * (i + 1)) ∧ y + u < 18446744073709551616 := by
        have h1 : c.toNat % 128 * 2 ^ (7 * i) ≤ 127 * 2 ^ (7 * i) := Nat.mul_le_mul_right _ (by omega)
        have h2 : 2 ^ (7 * (i + 1)) = 128 * 2 ^ (7 * i) := by rw [Nat.mul_add, Nat.pow_add, Nat.mul_comm]
        refine ⟨by omega, ?_⟩
        by_cases hi9 : i = 9
        · subst hi9
          have : c.toNat ≤ 1 := by omega
          have : c.toNat % 128 * 2 ^ (7 * 9) ≤ 1 * 2 ^ (7 * 9) := Nat.mul_le_mul_right _ (by omega)
          omega
        · have : 2 ^ (7 * i) ≤ 2 ^ (7 * 8) := Nat.pow_le_pow_right (by decide) (by omega)
          omega
      split
      · have := rdAt_bd at_ l (i + 1) (u + y) (by omega) (by omega)
        simp only [List.length_cons]
        omega
      · split
        · simp only; omega
        · simp only [List.length_cons, zag]
          split <;> omega
theorem rdInt_bd (b : List UInt8) (k : Int) : (-9223372036854775808 ≤ (rdInt b k).1 ∧ (rdInt b k).1 ≤ 9223372036854775807) ∧ (0 ≤ (rdInt b k).2.1 ∧ (rdInt b k).2.1 ≤ b.length) ∧ (0 ≤ (rdInt b k).2.2 ∧ (rdInt b k).2.2 ≤ 11) ∧ ((rdInt b k).2.2 = 0 → 0 ≤ k ∧ k < (rdInt b k).2.1) := by
  unfold rdInt
  split
  · simp only; omega
  · have := rdAt_bd k.toNat (b.drop k.toNat) 0 0 (by omega) (by decide)
    rw [List.length_drop] at this
    omega
def cnt (b : List UInt8) (k most : Int) : Int × Int × Int := if (rdInt b k).2.2 ≠ 0 then (0, 0, (rdInt b k).2.2) else if (rdInt b k).1 < 0 ∨ most < (rdInt b k).1 then (0, 0, 11) else rdInt b k
theorem cnt_bd (b : List UInt8) (k most : Int) : (0 ≤ (cnt b k most).1 ∧ (cnt b k most).1 ≤ 9223372036854775807) ∧ (0 ≤ (cnt b k most).2.1 ∧ (cnt b k most).2.1 ≤ b.length) ∧ (0 ≤ (cnt b k most).2.2 ∧ (cnt b k most).2.2 ≤ 11) ∧ ((cnt b k most).2.2 = 0 → (cnt b k most).1 ≤ most ∧ 0 ≤ k ∧ k < (cnt b k most).2.1) := by
  have := rdInt_bd b k
  unfold cnt
  split
  · simp only; omega
  · split
    · simp only; omega
    · omega
set_option maxHeartbeats 1000000 in
theorem count_ac (b : List UInt8) (k most : Int) (h0 : -9223372036854775808 ≤ k) (h1 : k ≤ 9223372036854775807) (hb : b.length ≤ 140737488355000) :
    AC Try.prog noG 92 [.d (.sl 1 b.length (bD b)), .d (.c (.int .i64 k)), .d (.c (.int .i64 most))] [] (fun v r' => v = tri (cnt b k most) ∧ r' = []) := by
  refine AC_of_R (N := 28) (res := [.tmp 6, .tmp 7, .tmp 8]) ty_ok Try.call92 Try.func92 rfl rfl rfl (Nat.le_of_ble_eq_true rfl) ?_
  refine rn0 ?_
  refine HO_pureA ty_ok (int_ac b k h0 h1 hb) ?_
  have hbd := rdInt_bd b k
  unfold cnt
  generalize rdInt b k = t at *
  obtain ⟨n, nx, e⟩ := t
  simp only at hbd
  exact rz1 @tri.eq_1
def txt (b : List UInt8) (k : Int) : ByteArray × Int × Int := if (cnt b k 65536).2.2 ≠ 0 then (⟨#[]⟩, 0, (cnt b k 65536).2.2) else if (b.length : Int) - (cnt b k 65536).2.1 < (cnt b k 65536).1 then (⟨#[]⟩, 0, 10)
  else (⟨((b.drop (cnt b k 65536).2.1.toNat).take (cnt b k 65536).1.toNat).toArray⟩, (cnt b k 65536).2.1 + (cnt b k 65536).1, 0)
def triS (t : ByteArray × Int × Int) : AV := .tup [.d (.c (.string t.1)), .d (.c (.int .i64 t.2.1)), .d (.c (.int .i64 t.2.2))]
set_option maxHeartbeats 1000000 in
theorem text_ac (b : List UInt8) (k : Int) (h0 : -9223372036854775808 ≤ k) (h1 : k ≤ 9223372036854775807) (hb : b.length ≤ 140737488355000) :
    AC Try.prog noG 78 [.d (.sl 1 b.length (bD b)), .d (.c (.int .i64 k))] [] (fun v r' => v = triS (txt b k) ∧ r' = []) := by
  refine AC_of_R (N := 35) (res := [.tmp 4, .tmp 5, .tmp 6]) ty_ok Try.call78 Try.func78 rfl rfl rfl (Nat.le_of_ble_eq_true rfl) ?_
  refine rn0 ?_
  refine HO_pureA ty_ok (count_ac b k 65536 h0 h1 hb) ?_
  have hbd := cnt_bd b k 65536
  unfold txt
  generalize cnt b k 65536 = t at *
  obtain ⟨n, nx, e⟩ := t
  simp only at hbd
  have e1 : (nx + n).toNat - nx.toNat = n.toNat := by omega
  refine rn1 (jn @tri.eq_1 (jn @triS.eq_1 @e1)) ?_
  intros
  omega
set_option maxHeartbeats 1000000 in
theorem rtext_ac (b : List UInt8) (k : Int) (h0 : -9223372036854775808 ≤ k) (h1 : k ≤ 9223372036854775807) (hb : b.length ≤ 140737488355000) :
    AC Try.prog noG 80 [.d (.sl 1 b.length (bD b)), .d (.c (.int .i64 k))] [] (fun v r' => v = triS (txt b k) ∧ r' = []) := by
  refine AC_of_R (N := 42) (res := [.tmp 4, .tmp 5, .tmp 6]) ty_ok Try.call80 Try.func80 rfl rfl rfl (Nat.le_of_ble_eq_true rfl) ?_
  refine rn0 ?_
  refine HO_pureA ty_ok (rint_ac b k h0 h1 hb) ?_
  have hbd := rdInt_bd b k
  unfold txt cnt
  generalize rdInt b k = t at *
  obtain ⟨n, nx, e⟩ := t
  simp only at hbd
  have e1 : (nx + n).toNat - nx.toNat = n.toNat := by omega
  refine rn1 (jn @tri.eq_1 (jn @triS.eq_1 @e1)) ?_
  intros
  omega
end Go.Proofs.Ytfeoafddagdbfaa
