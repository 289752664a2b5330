import Derived.Test.YtjpjnhljmloofaaDoorCPutInt
set_option linter.unusedVariables false
set_option linter.unusedSimpArgs false
set_option maxRecDepth 100000
namespace Go.Proofs.YtjpjnhljmloofaaDoor
open Go Go.ChangeShapes Go.WideShapes
theorem leb_pos (u : Nat) : 1 ≤ (leb u).length := by rw [leb]; split <;> simp
theorem u8_inj {a b : Nat} (ha : a < 256) (hb : b < 256) (h : UInt8.ofNat a = UInt8.ofNat b) : a = b := by
  have := congrArg UInt8.toNat h
  rw [u8_toNat, u8_toNat, Nat.mod_eq_of_lt ha, Nat.mod_eq_of_lt hb] at this
  exact this
/-- Neither begins the other. -/
theorem leb_apart : ∀ (u v : Nat), (leb u).take (min (leb u).length (leb v).length) = (leb v).take (min (leb u).length (leb v).length) → u = v := by
  intro u
  induction u using Nat.strongRecOn with
  | _ u ih =>
    intro v h
    have h1 := leb_pos (u / 128)
    have h2 := leb_pos (v / 128)
    by_cases hu : u < 128
    · by_cases hv : v < 128
      · rw [leb_one hu, leb_one hv] at h
        simp only [List.length_cons, List.length_nil, Nat.min_self, List.take_succ_cons, List.take_zero, List.cons.injEq, and_true] at h
        exact u8_inj (by omega) (by omega) h
      · rw [leb_one hu, leb_more hv] at h
        simp only [List.length_cons, List.length_nil, Nat.zero_add] at h
        rw [Nat.min_eq_left (by omega)] at h
        simp only [List.take_succ_cons, List.take_zero, List.cons.injEq, and_true] at h
        have := u8_inj (by omega) (by omega) h
        omega
    · by_cases hv : v < 128
      · rw [leb_one hv, leb_more hu] at h
        simp only [List.length_cons, List.length_nil, Nat.zero_add] at h
        rw [Nat.min_eq_right (by omega)] at h
        simp only [List.take_succ_cons, List.take_zero, List.cons.injEq, and_true] at h
        have := u8_inj (by omega) (by omega) h
        omega
      · rw [leb_more hu, leb_more hv] at h
        simp only [List.length_cons] at h
        rw [Nat.add_min_add_right] at h
        simp only [List.take_succ_cons, List.cons.injEq] at h
        have e1 := u8_inj (by omega) (by omega) h.1
        have e2 := ih (u / 128) (by omega) (v / 128) h.2
        omega
theorem zig_inj {n m : Int} (h : zig n = zig m) : n = m := by unfold zig at h; split at h <;> split at h <;> omega
end Go.Proofs.YtjpjnhljmloofaaDoor
