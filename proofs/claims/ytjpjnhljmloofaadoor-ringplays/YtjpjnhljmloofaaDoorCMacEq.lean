import Derived.Test.YtjpjnhljmloofaaDoorCMacKey
set_option linter.unusedVariables false
set_option linter.unusedSimpArgs false
set_option maxRecDepth 100000
namespace Go.Proofs.YtjpjnhljmloofaaDoor
open Go Go.ChangeShapes Go.WideShapes
theorem of8b (x : UInt8) : BitVec.ofInt 8 (x.toNat : Int) = x.toBitVec := by
  rw [BitVec.ofInt_natCast]; exact BitVec.ofNat_toNat _ _
theorem u8w (x : UInt8) : IntKind.u8.wrap (x.toNat : Int) = (x.toNat : Int) := by
  have := x.toNat_lt; rw [wrap_u8]; omega
theorem or_u8 (x y : UInt8) : ibits .or .u8 (x.toNat : Int) (y.toNat : Int) = ((x ||| y).toNat : Int) := by
  have : ibits .or .u8 (x.toNat : Int) (y.toNat : Int) = IntKind.u8.wrap ((BitVec.ofInt 8 (x.toNat : Int) ||| BitVec.ofInt 8 (y.toNat : Int)).toNat : Int) := rfl
  rw [this, of8b, of8b]; exact u8w (x ||| y)
theorem xor_u8 (x y : UInt8) : ibits .xor .u8 (x.toNat : Int) (y.toNat : Int) = ((x ^^^ y).toNat : Int) := by
  have : ibits .xor .u8 (x.toNat : Int) (y.toNat : Int) = IntKind.u8.wrap ((BitVec.ofInt 8 (x.toNat : Int) ^^^ BitVec.ofInt 8 (y.toNat : Int)).toNat : Int) := rfl
  rw [this, of8b, of8b]; exact u8w (x ^^^ y)
theorem ox_zero (x a b : UInt8) : x ||| (a ^^^ b) = 0 ↔ x = 0 ∧ a = b := by
  rw [UInt8.or_eq_zero_iff, UInt8.xor_eq_zero_iff]
def eqSt (a b : List UInt8) (i : Nat × UInt8) : List (Nat × AV) := [(0, .d (.sl 1 a.length (bD a))), (1, .d (.sl 1 b.length (bD b))), (5, .d (.c (.int .u8 i.2.toNat))), (13, .d (.c (.int .i64 a.length))), (14, .d (.c (.int .i64 i.1)))]
theorem takeE (a b : List UInt8) (i : Nat) (h : i < a.length) (k : a.length = b.length) : a.take (i + 1) = b.take (i + 1) ↔ a.take i = b.take i ∧ a.getD i 0 = b.getD i 0 := by
  rw [List.take_succ_eq_append_getElem h, List.take_succ_eq_append_getElem (by omega), List.getD_eq_getElem?_getD, List.getD_eq_getElem?_getD, List.getElem?_eq_getElem h, List.getElem?_eq_getElem (k ▸ h)]
  constructor
  · intro e
    have := List.append_inj e (by simp; omega)
    exact ⟨this.1, by simpa using this.2⟩
  · rintro ⟨e1, e2⟩
    rw [e1]; simp only [Option.getD_some] at e2; rw [e2]
set_option maxHeartbeats 400000 in
theorem equal_ac (a b : List UInt8) (ha : a.length ≤ 140737488355000) (hb : b.length ≤ 140737488355000) :
    AC Tryd.prog noG 20 [.d (.sl 1 a.length (bD a)), .d (.sl 1 b.length (bD b))] [] (fun v r' => v = .d (.c (.bool (decide (a = b)))) ∧ r' = []) := by
  refine AC.pure ?_ (by rintro v rfl; rfl)
  refine AC_of_R (N := 31) (res := [.tmp 4]) ty_ok Tryd.call20 Tryd.func20 rfl rfl rfl (Nat.le_of_ble_eq_true rfl) ?_
  by_cases hab : a.length = b.length
  · have hi : ¬ ((a.length : Int) ≠ b.length) := by omega
    refine rn1 @hi ?_
    refine HC_loopR (eqSt a b) (fun _ => []) (fun i => i.1 ≤ a.length ∧ (i.2 = 0 ↔ a.take i.1 = b.take i.1)) (fun i => a.length - i.1) (0, 0) [] [] ⟨by simp, by simp⟩ ?_ ?_
    · exact ft1 (jn @eqSt.eq_1 @UInt8.toNat_zero)
    · intro ⟨i, x⟩ ⟨h1, h2⟩
      simp only at h1 h2
      refine HC_of_R ty_ok ?_
      by_cases hlt : i < a.length
      · have hi : (i : Int) < a.length := by omega
        refine rn1 (jn @eqSt.eq_1 @hi) ?_
        refine HC_plan [] ty_ok mix (by kernel_rfl) ?_
        refine rn1 (jn @xor_u8 @or_u8) ?_
        refine ⟨⟨by omega, by omega⟩, ⟨by omega, by omega⟩, (i + 1, x ||| (a.getD i 0 ^^^ b.getD i 0)), ⟨by simp only; omega, ?_⟩, by simp only; omega, [], [], ?_⟩
        · simp only
          rw [ox_zero, takeE a b i hlt hab, h2]
        · exact ft1 @eqSt.eq_1
      · have hi : ¬ (i : Int) < a.length := by omega
        have hb0 : (((x.toNat : Int) = 0) = (a = b)) := by
          rw [List.take_of_length_le (by omega), List.take_of_length_le (by omega)] at h2
          rw [← h2]
          refine propext ⟨fun h => UInt8.toNat.inj (by simpa using h), fun h => by rw [h]; rfl⟩
        exact rz1 (jn @eqSt.eq_1 (jn @hi @hb0))
  · have hi : (a.length : Int) ≠ b.length := by omega
    have hne : a ≠ b := fun h => hab (by rw [h])
    exact rz1 (jn @hi @hne)
end Go.Proofs.YtjpjnhljmloofaaDoor
