/- The frame of these proofs, part Y: sums on machine words. -/
import Derived.Test.YteeknmjjpcbphaaDoorCX
set_option linter.unusedVariables false
set_option linter.unusedSimpArgs false
namespace Go.Proofs.YteeknmjjpcbphaaDoor
open Go
section
variable {a b : Int}
theorem of64 (h0 : 0 ≤ a) (h1 : a < 18446744073709551616) : (BitVec.ofInt 64 a).toNat = a.toNat := by
  rw [BitVec.toNat_ofInt]; omega
theorem of8 (h0 : 0 ≤ a) (h1 : a < 256) : (BitVec.ofInt 8 a).toNat = a.toNat := by
  rw [BitVec.toNat_ofInt]; omega
theorem or64 (h0 : 0 ≤ a) (h1 : a < 18446744073709551616) (h2 : 0 ≤ b) (h3 : b < 18446744073709551616) : ibits .or .u64 a b = ((a.toNat ||| b.toNat : Nat) : Int) := by
  have : ibits .or .u64 a b = IntKind.u64.wrap ((BitVec.ofInt 64 a ||| BitVec.ofInt 64 b).toNat : Int) := rfl
  rw [this, BitVec.toNat_or, of64 h0 h1, of64 h2 h3, w_u64 (by omega)]
  have : a.toNat ||| b.toNat < 2 ^ 64 := Nat.or_lt_two_pow (by omega) (by omega)
  omega
theorem and64 (h0 : 0 ≤ a) (h1 : a < 18446744073709551616) (h2 : 0 ≤ b) (h3 : b < 18446744073709551616) : ibits .and .u64 a b = ((a.toNat &&& b.toNat : Nat) : Int) := by
  have : ibits .and .u64 a b = IntKind.u64.wrap ((BitVec.ofInt 64 a &&& BitVec.ofInt 64 b).toNat : Int) := rfl
  rw [this, BitVec.toNat_and, of64 h0 h1, of64 h2 h3, w_u64 (by omega)]
  have : a.toNat &&& b.toNat < 2 ^ 64 := Nat.and_lt_two_pow _ (by omega)
  omega
theorem and64_1 (h0 : 0 ≤ a) (h1 : a < 18446744073709551616) : ibits .and .u64 a 1 = a % 2 := by
  rw [and64 h0 h1 (by omega) (by omega)]
  have : a.toNat &&& 1 = a.toNat % 2 := Nat.and_one_is_mod _
  show ((a.toNat &&& 1 : Nat) : Int) = _
  rw [this]; omega
theorem xor64 (h0 : 0 ≤ a) (h1 : a < 18446744073709551616) : ibits .xor .u64 (if IntKind.u64.signed = true then -1 else IntKind.u64.max) a = 18446744073709551615 - a := by
  have : ibits .xor .u64 (if IntKind.u64.signed = true then -1 else IntKind.u64.max) a = IntKind.u64.wrap ((BitVec.allOnes 64 ^^^ BitVec.ofInt 64 a).toNat : Int) := rfl
  rw [this, BitVec.allOnes_xor, BitVec.toNat_not, of64 h0 h1, w_u64 (by omega) (by omega)]
  omega
theorem xori64 (h0 : -9223372036854775808 ≤ a) (h1 : a ≤ 9223372036854775807) : ibits .xor .i64 (if IntKind.i64.signed = true then -1 else IntKind.i64.max) a = -1 - a := by
  have : ibits .xor .i64 (if IntKind.i64.signed = true then -1 else IntKind.i64.max) a = IntKind.i64.wrap ((BitVec.allOnes 64 ^^^ BitVec.ofInt 64 a).toNat : Int) := rfl
  rw [this, BitVec.allOnes_xor, BitVec.toNat_not, BitVec.toNat_ofInt, IntKind.wrap_i64]
  omega
theorem or8_128 (h0 : 0 ≤ a) (h1 : a < 256) : ibits .or .u8 a 128 = a % 128 + 128 := by
  have : ∀ k : Fin 256, ibits .or .u8 (k.val : Int) 128 = (k.val : Int) % 128 + 128 := by decide +kernel
  have := this ⟨a.toNat, by omega⟩
  simp only at this
  rw [Int.toNat_of_nonneg h0] at this
  exact this
theorem and8_127 (h0 : 0 ≤ a) (h1 : a < 256) : ibits .and .u8 a 127 = a % 128 := by
  have : ∀ k : Fin 256, ibits .and .u8 (k.val : Int) 127 = (k.val : Int) % 128 := by decide +kernel
  have := this ⟨a.toNat, by omega⟩
  simp only at this
  rw [Int.toNat_of_nonneg h0] at this
  exact this
theorem and8_15 (h0 : 0 ≤ a) (h1 : a < 256) : ibits .and .u8 a 15 = a % 16 := by
  have : ∀ k : Fin 256, ibits .and .u8 (k.val : Int) 15 = (k.val : Int) % 16 := by decide +kernel
  have := this ⟨a.toNat, by omega⟩
  simp only at this
  rw [Int.toNat_of_nonneg h0] at this
  exact this
theorem shl64_1 : ishl .u64 a 1 = (a * 2) % 18446744073709551616 := by
  have : ishl .u64 a 1 = IntKind.u64.wrap (a * 2) := rfl
  rw [this, wrap_u64]
theorem shr64_1 (h : 0 ≤ a) : ishr .u64 a 1 = a / 2 := by
  have : ishr .u64 a 1 = a.fdiv 2 := rfl
  rw [this, Int.fdiv_eq_ediv_of_nonneg _ (by omega)]
theorem shr64_7 (h : 0 ≤ a) : ishr .u64 a 7 = a / 128 := by
  have : ishr .u64 a 7 = a.fdiv 128 := rfl
  rw [this, Int.fdiv_eq_ediv_of_nonneg _ (by omega)]
theorem shr8_4 (h : 0 ≤ a) : ishr .u8 a 4 = a / 16 := by
  have : ishr .u8 a 4 = a.fdiv 16 := rfl
  rw [this, Int.fdiv_eq_ediv_of_nonneg _ (by omega)]
theorem shl64 (h0 : 0 ≤ a) (h1 : 0 ≤ b) (h2 : b ≤ 64) (h3 : a * 2 ^ b.toNat < 18446744073709551616) : ishl .u64 a b = a * 2 ^ b.toNat := by
  have : ishl .u64 a b = IntKind.u64.wrap (a * 2 ^ (min b.toNat 64)) := rfl
  rw [this, Nat.min_eq_left (by omega), w_u64]
  · exact Int.mul_nonneg h0 (Int.pow_nonneg (by decide))
  · omega
end
theorem tmod_nn {a b : Int} (h : 0 ≤ a) : a.tmod b = a % b := Int.tmod_eq_emod_of_nonneg h
theorem tdiv_nn {a b : Int} (h : 0 ≤ a) : a.tdiv b = a / b := Int.tdiv_eq_ediv_of_nonneg h
theorem dec_lt_t {a b : Int} (h : a < b) : decide (a < b) = true := decide_eq_true h
theorem dec_lt_f {a b : Int} (h : b ≤ a) : decide (a < b) = false := decide_eq_false (Int.not_lt.2 h)
theorem dec_le_t {a b : Int} (h : a ≤ b) : decide (a ≤ b) = true := decide_eq_true h
theorem dec_le_f {a b : Int} (h : b < a) : decide (a ≤ b) = false := decide_eq_false (Int.not_le.2 h)
theorem dec_eq_t {a b : Int} (h : a = b) : decide (a = b) = true := decide_eq_true h
theorem dec_eq_f {a b : Int} (h : a ≠ b) : decide (a = b) = false := decide_eq_false h
/-! ### Bytes -/
theorem u8_wrap (n : Nat) : ((UInt8.ofNat n).toNat : Int) = (n % 256 : Nat) := by simp
theorem u8_toNat (n : Nat) : (UInt8.ofNat n).toNat = n % 256 := by simp
theorem bD_one (n : Nat) (h : n < 256) : [D.c (.int .u8 (n : Int))] = bD [UInt8.ofNat n] := by
  simp only [bD, List.map_cons, List.map_nil, u8_toNat, Nat.mod_eq_of_lt h]
theorem bD_single {x : Int} (h0 : 0 ≤ x) (h1 : x < 256) : [D.c (.int .u8 x)] = bD [UInt8.ofNat x.toNat] := by
  simp only [bD, List.map_cons, List.map_nil, u8_toNat]
  rw [Nat.mod_eq_of_lt (by omega), Int.toNat_of_nonneg h0]
theorem bD_consx {x : Int} {l : List UInt8} (h0 : 0 ≤ x) (h1 : x < 256) : D.c (.int .u8 x) :: bD l = bD (UInt8.ofNat x.toNat :: l) := by
  simp only [bD, List.map_cons, u8_toNat]
  rw [Nat.mod_eq_of_lt (by omega), Int.toNat_of_nonneg h0]
theorem bD_u {u : UInt8} : [D.c (.int .u8 (u.toNat : Int))] = bD [u] := rfl
theorem bD_z : bD [] = [] := rfl
theorem u8_congr {a b : Nat} (h : a % 256 = b % 256) : UInt8.ofNat a = UInt8.ofNat b := by
  apply UInt8.toNat_inj.1; rw [u8_toNat, u8_toNat, h]
end Go.Proofs.YteeknmjjpcbphaaDoor
