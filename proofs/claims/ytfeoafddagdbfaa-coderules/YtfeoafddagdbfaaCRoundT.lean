import Derived.Test.YtfeoafddagdbfaaCText
import Derived.Test.YtfeoafddagdbfaaCPutText
set_option linter.unusedVariables false
set_option linter.unusedSimpArgs false
set_option maxRecDepth 100000
namespace Go.Proofs.Ytfeoafddagdbfaa
open Go Go.ChangeShapes Go.WideShapes
theorem zag_zig {n : Int} : zag (zig n) = n := by unfold zag zig; split <;> split <;> omega
theorem zig_zag (u : Nat) : zig (zag u) = u := by unfold zag; split <;> unfold zig <;> split <;> omega
theorem pow_step (i : Nat) : 2 ^ (7 * (i + 1)) = 128 * 2 ^ (7 * i) := by rw [Nat.mul_add, Nat.pow_add, Nat.mul_comm]
/-- What was laid is read. -/
theorem rdAt_leb (at_ : Nat) (more : List UInt8) : ∀ (v i u : Nat), (i = 0 ∨ v ≠ 0) → v * 2 ^ (7 * i) < 2 ^ 64 → i ≤ 9 →
    rdAt at_ i u (leb v ++ more) = (zag (u + v * 2 ^ (7 * i)), ((at_ + i + (leb v).length : Nat) : Int), 0) := by
  intro v
  induction v using Nat.strongRecOn with
  | _ v ih =>
    intro i u h0 hv hi
    by_cases h : v < 128
    · rw [leb_one h]
      simp only [List.cons_append, List.nil_append, rdAt, List.length_cons, List.length_nil, Nat.zero_add]
      have e : (UInt8.ofNat v).toNat = v := by rw [u8_toNat]; omega
      rw [e]
      have h9 : ¬ (i = 9 ∧ 1 < v) := by
        rintro ⟨rfl, h1⟩
        have : 2 * 2 ^ (7 * 9) ≤ v * 2 ^ (7 * 9) := Nat.mul_le_mul_right _ h1
        omega
      rw [if_neg h9, if_neg (by omega), if_neg (by omega), Nat.mod_eq_of_lt h]
    · rw [leb_more h]
      simp only [List.cons_append, rdAt, List.length_cons]
      have e : (UInt8.ofNat (v % 128 + 128)).toNat = v % 128 + 128 := by rw [u8_toNat]; omega
      rw [e]
      have hi8 : i < 9 := by
        rcases Nat.lt_or_ge i 9 with h | h
        · exact h
        · have h9 : i = 9 := by omega
          subst h9
          have : 128 * 2 ^ (7 * 9) ≤ v * 2 ^ (7 * 9) := Nat.mul_le_mul_right _ (by omega)
          omega
      rw [if_neg (by omega), if_pos (by omega)]
      have hd : 128 * (v / 128) + v % 128 = v := by omega
      have key : v * 2 ^ (7 * i) = v / 128 * 2 ^ (7 * (i + 1)) + v % 128 * 2 ^ (7 * i) := by
        rw [pow_step, ← Nat.mul_assoc, ← Nat.add_mul, Nat.mul_comm (v / 128) 128, hd]
      rw [ih (v / 128) (by omega) (i + 1) _ (by omega) (by omega) (by omega)]
      have e2 : (v % 128 + 128) % 128 = v % 128 := by omega
      rw [e2]
      refine Prod.ext ?_ (Prod.ext ?_ rfl)
      · show zag _ = zag _
        congr 1; omega
      · simp only; omega
theorem rdInt_put (b : List UInt8) (n : Int) (more : List UInt8) (h0 : -9223372036854775808 ≤ n) (h1 : n ≤ 9223372036854775807) :
    rdInt (b ++ leb (zig n) ++ more) b.length = (n, ((b.length + (leb (zig n)).length : Nat) : Int), 0) := by
  have hz := zig_lt h0 h1
  rw [rdInt, if_neg (by simp only [List.length_append]; omega), Int.toNat_natCast, List.append_assoc, List.drop_left, rdAt_leb _ _ _ _ _ (.inl rfl) (by omega) (by omega)]
  simp only [Nat.zero_add, Nat.mul_zero, Nat.pow_zero, Nat.mul_one, Nat.add_zero, zag_zig]
theorem cnt_put (b : List UInt8) (n : Nat) (more : List UInt8) (h : n ≤ 65536) :
    cnt (b ++ leb (zig n) ++ more) b.length 65536 = ((n : Int), ((b.length + (leb (zig n)).length : Nat) : Int), 0) := by
  rw [cnt, rdInt_put b n more (by omega) (by omega), if_neg (by simp), if_neg (by simp only; omega)]
theorem txt_put (b : List UInt8) (s : ByteArray) (more : List UInt8) (h : s.size ≤ 65536) :
    txt (putTx b s ++ more) b.length = (s, (((putTx b s).length : Nat) : Int), 0) := by
  have hc := cnt_put b s.size (s.toList ++ more) h
  have hl := putTx_len b s
  have hsl := tl_len s
  rw [← List.append_assoc] at hc
  rw [txt, show putTx b s ++ more = b ++ leb (zig s.size) ++ s.toList ++ more from rfl, hc, if_neg (by simp), if_neg (by simp only [List.length_append]; omega)]
  refine Prod.ext ?_ (Prod.ext ?_ rfl)
  · simp only [Int.toNat_natCast]
    rw [List.append_assoc, ← List.length_append, List.drop_left, ← hsl, List.take_left, Go.ByteArray.toList_eq]
  · simp only; omega
/-- What is read was laid so. -/
theorem rdAt_inv (at_ : Nat) : ∀ (l : List UInt8) (i u : Nat) (m nx : Int), rdAt at_ i u l = (m, nx, 0) →
    ∃ v, m = zag (u + v * 2 ^ (7 * i)) ∧ nx = ((at_ + i + (leb v).length : Nat) : Int) ∧ (leb v).length ≤ l.length ∧ l.take (leb v).length = leb v ∧ (i = 0 ∨ v ≠ 0)
  | [], i, u, m, nx, h => by simp [rdAt] at h
  | c :: l, i, u, m, nx, h => by
    have hc := c.toNat_lt
    rw [rdAt] at h
    split at h
    · simp at h
    · split at h
      · obtain ⟨v, h1, h2, h3, h4, h5⟩ := rdAt_inv at_ l (i + 1) _ m nx h
        have hv : ¬ c.toNat % 128 + 128 * v < 128 := by omega
        have e1 : (c.toNat % 128 + 128 * v) % 128 = c.toNat % 128 := by omega
        have e2 : (c.toNat % 128 + 128 * v) / 128 = v := by omega
        have e3 : UInt8.ofNat (c.toNat % 128 + 128) = c := by
          have : c.toNat % 128 + 128 = c.toNat := by omega
          rw [this, UInt8.ofNat_toNat]
        have hL : leb (c.toNat % 128 + 128 * v) = c :: leb v := by rw [leb_more hv, e1, e2, e3]
        refine ⟨c.toNat % 128 + 128 * v, ?_, ?_, ?_, ?_, .inr (by omega)⟩
        · rw [h1, pow_step, Nat.add_mul, ← Nat.mul_assoc, Nat.mul_comm v 128, Nat.add_assoc]
        · rw [h2, hL, List.length_cons]; congr 1; omega
        · rw [hL, List.length_cons, List.length_cons]; omega
        · rw [hL, List.length_cons, List.take_succ_cons, h4]
      · split at h
        · simp at h
        · injection h with h1 h; injection h with h2 _
          have e1 : c.toNat % 128 = c.toNat := by omega
          have hL : leb c.toNat = [c] := by rw [leb_one (by omega), UInt8.ofNat_toNat]
          refine ⟨c.toNat, by rw [← h1, e1], by rw [← h2, hL]; rfl, by rw [hL]; simp, by rw [hL]; simp, by omega⟩
theorem rdInt_inv (b : List UInt8) (k m nx : Int) (h : rdInt b k = (m, nx, 0)) :
    ∃ kn : Nat, k = kn ∧ nx = ((kn + (leb (zig m)).length : Nat) : Int) ∧ kn + (leb (zig m)).length ≤ b.length ∧ (b.drop kn).take (leb (zig m)).length = leb (zig m) := by
  unfold rdInt at h
  split at h
  · simp at h
  · obtain ⟨v, h1, h2, h3, h4, _⟩ := rdAt_inv k.toNat _ 0 0 m nx h
    have hz : zig m = v := by rw [h1]; simp only [Nat.zero_add, Nat.mul_zero, Nat.pow_zero, Nat.mul_one, zig_zag]
    rw [List.length_drop] at h3
    rw [hz]
    exact ⟨k.toNat, by omega, by rw [h2]; rfl, by omega, h4⟩
theorem txt_inv (b : List UInt8) (k : Int) (t : ByteArray) (nx : Int) (h : txt b k = (t, nx, 0)) :
    ∃ kn : Nat, k = kn ∧ nx = ((kn + (putTx [] t).length : Nat) : Int) ∧ kn + (putTx [] t).length ≤ b.length ∧ (b.drop kn).take (putTx [] t).length = putTx [] t ∧ t.size ≤ 65536 := by
  have hcb := cnt_bd b k 65536
  unfold txt at h
  split at h
  · rename_i h1; simp at h; exact absurd h.2.2 h1
  · rename_i he
    split at h
    · simp at h
    · rename_i hn
      injection h with h1 h; injection h with h2 _
      simp only [ne_eq, Decidable.not_not] at he
      have hr : rdInt b k = ((cnt b k 65536).1, (cnt b k 65536).2.1, 0) := by
        have hu : cnt b k 65536 = if (rdInt b k).2.2 ≠ 0 then (0, 0, (rdInt b k).2.2) else if (rdInt b k).1 < 0 ∨ 65536 < (rdInt b k).1 then (0, 0, 11) else rdInt b k := rfl
        split at hu
        · rename_i hh; rw [hu] at he; exact absurd he hh
        · split at hu
          · rw [hu] at he; simp at he
          · rw [← hu]; exact Prod.ext rfl (Prod.ext rfl he)
      obtain ⟨kn, hk, g2, g3, g4⟩ := rdInt_inv b k _ _ hr
      generalize cnt b k 65536 = c at *
      obtain ⟨n, x, e⟩ := c
      simp only at *
      obtain ⟨nn, rfl⟩ := Int.eq_ofNat_of_zero_le hcb.1.1
      have e1 : x.toNat = kn + (leb (zig nn)).length := by omega
      have hts : t.size = nn := by
        rw [← h1]; simp only [ByteArray.size, List.size_toArray, List.length_take, List.length_drop]; omega
      have htl : t.toList = (b.drop (kn + (leb (zig nn)).length)).take nn := by
        rw [← h1, Go.ByteArray.toList_eq, e1]; simp
      have hpl := putTx_len [] t
      simp only [List.length_nil, Nat.zero_add, hts] at hpl
      refine ⟨kn, hk, by omega, by omega, ?_, by omega⟩
      rw [hpl, List.take_add, g4, List.drop_drop, putTx, hts, htl, List.nil_append]
end Go.Proofs.Ytfeoafddagdbfaa
