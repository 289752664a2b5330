import Derived.Test.YtjpjnhljmloofaaDoorCBase
set_option linter.unusedVariables false
set_option linter.unusedSimpArgs false
set_option maxRecDepth 100000
namespace Go.Proofs.YtjpjnhljmloofaaDoor
open Go Go.ChangeShapes Go.WideShapes
def leb (u : Nat) : List UInt8 := if u < 128 then [UInt8.ofNat u] else UInt8.ofNat (u % 128 + 128) :: leb (u / 128)
def zig (n : Int) : Nat := if n < 0 then (2 * (-(n + 1)) + 1).toNat else (2 * n).toNat
theorem leb_one {u : Nat} (h : u < 128) : leb u = [UInt8.ofNat u] := by rw [leb, if_pos h]
theorem leb_more {u : Nat} (h : ¬ u < 128) : leb u = UInt8.ofNat (u % 128 + 128) :: leb (u / 128) := by rw [leb, if_neg h]
theorem leb_len : ∀ (k u : Nat), u < 128 ^ (k + 1) → (leb u).length ≤ k + 1
  | 0, u, h => by rw [leb_one (by omega)]; simp
  | k + 1, u, h => by
    by_cases hu : u < 128
    · rw [leb_one hu]; simp
    · rw [leb_more hu]
      have := leb_len k (u / 128) (by rw [Nat.pow_succ] at h; omega)
      simp; omega
theorem zig_lt {n : Int} (h0 : -9223372036854775808 ≤ n) (h1 : n ≤ 9223372036854775807) : zig n < 18446744073709551616 := by unfold zig; split <;> omega
def putSt (i : List UInt8 × Nat) : List (Nat × AV) := [(6, .sl (.own 0) 1 i.1.length (bD i.1)), (5, .d (.c (.int .u64 i.2)))]
def putRe (i : List UInt8 × Nat) : Rs := [some (.tok i.1.length)]
set_option maxHeartbeats 1000000 in
theorem putInt_ac (b : List UInt8) (n : Int) (h0 : -9223372036854775808 ≤ n) (h1 : n ≤ 9223372036854775807) (hb : b.length ≤ 140737488355000) :
    AC Tryd.prog noG 48 [.d (.sl 1 b.length (bD b)), .d (.c (.int .i64 n))] [] (fun v r' => v = .sl (.own 0) 1 (b ++ leb (zig n)).length (bD (b ++ leb (zig n))) ∧ r' = [some (.tok (b ++ leb (zig n)).length)]) := by
  have hz := zig_lt h0 h1
  have hl := leb_len 9 (zig n) (by omega)
  have hw : IntKind.u64.wrap n = n % 18446744073709551616 := wrap_u64 n
  refine AC_of_R (N := 31) (res := [.tmp 4]) ty_ok Tryd.call48 Tryd.func48 rfl rfl rfl (Nat.le_of_ble_eq_true rfl) ?_
  refine rn1 @hw ?_
  refine ⟨fun hn => ⟨⟨by omega, by omega⟩, HC_loop putSt putRe (fun i => i.1 ++ leb i.2 = b ++ leb (zig n) ∧ i.2 < 18446744073709551616) (fun i => i.2) (b, zig n) ⟨rfl, hz⟩ (fun _ => rfl) ?_ ?_⟩, fun hn => ⟨⟨by omega, by omega⟩, HC_loop putSt putRe (fun i => i.1 ++ leb i.2 = b ++ leb (zig n) ∧ i.2 < 18446744073709551616) (fun i => i.2) (b, zig n) ⟨rfl, hz⟩ (fun _ => rfl) ?_ ?_⟩⟩
  · simp only [Fit, WkL, wfSt, wfRs, wfA, wfM, wfL, wk_refl, wk_top, wk_sl, wk_nilFull, wk_nilD, wkr_refl, get_mk, ↓lk_cons, ↓reduceIte, Nat.reduceEqDiff, List.length_cons, List.length_nil, List.length_append, decide_true, Bool.and_true, and_true, true_and, Nat.reduceLT, Nat.zero_add, Nat.reduceAdd, putSt, putRe]
    refine wk_eq ?_
    congr 3
    unfold zig
    split <;> omega
  · intro ⟨acc, u⟩ ⟨hp, hu⟩
    refine HC_of_R ty_ok ?_
    simp only at hp hu
    have hlen := congrArg List.length hp
    simp only [List.length_append] at hlen
    have e1 : UInt8.ofNat ((u : Int) % 256 % 128 + 128).toNat = UInt8.ofNat (u % 128 + 128) := u8_congr (by omega)
    have e2 : UInt8.ofNat ((u : Int) % 256).toNat = UInt8.ofNat u := u8_congr (by omega)
    refine rn1 (jn @putSt.eq_1 (jn @putRe.eq_1 (jn @wrap_u8 (jn @e1 @e2)))) ?_
    refine ⟨fun hc => ⟨⟨by omega, by omega⟩, (acc ++ [UInt8.ofNat (u % 128 + 128)], u / 128), ⟨?_, by simp only; omega⟩, by simp only; omega, ?_⟩, fun hc => ⟨⟨by omega, by omega⟩, ?_⟩⟩
    · rw [← hp, leb_more (u := u) (by omega)]; simp
    · simp (disch := omega) only [Fit, WkL, wfSt, wfRs, wfA, wfM, wfL, wk_refl, wk_top, wk_sl, wk_nilFull, wk_nilD, wkr_refl, get_mk, ↓lk_cons, ↓reduceIte, Nat.reduceEqDiff, List.length_cons, List.length_nil, List.length_append, decide_true, Bool.and_true, and_true, true_and, Nat.reduceLT, Nat.zero_add, Nat.reduceAdd, putSt, putRe]
      exact wk_eq rfl
    · rw [leb_one (u := u) (by omega)] at hp
      have hl2 := congrArg List.length hp
      simp only [List.length_append, List.length_cons, List.length_nil, Nat.zero_add] at hl2
      rw [← hp, ← hl2]
      exact ⟨rfl, rfl⟩
  · simp only [Fit, WkL, wfSt, wfRs, wfA, wfM, wfL, wk_refl, wk_top, wk_sl, wk_nilFull, wk_nilD, wkr_refl, get_mk, ↓lk_cons, ↓reduceIte, Nat.reduceEqDiff, List.length_cons, List.length_nil, List.length_append, decide_true, Bool.and_true, and_true, true_and, Nat.reduceLT, Nat.zero_add, Nat.reduceAdd, putSt, putRe]
    refine wk_eq ?_
    congr 3
    unfold zig
    split <;> omega
  · intro ⟨acc, u⟩ ⟨hp, hu⟩
    refine HC_of_R ty_ok ?_
    simp only at hp hu
    have hlen := congrArg List.length hp
    simp only [List.length_append] at hlen
    have e1 : UInt8.ofNat ((u : Int) % 256 % 128 + 128).toNat = UInt8.ofNat (u % 128 + 128) := u8_congr (by omega)
    have e2 : UInt8.ofNat ((u : Int) % 256).toNat = UInt8.ofNat u := u8_congr (by omega)
    refine rn1 (jn @putSt.eq_1 (jn @putRe.eq_1 (jn @wrap_u8 (jn @e1 @e2)))) ?_
    refine ⟨fun hc => ⟨⟨by omega, by omega⟩, (acc ++ [UInt8.ofNat (u % 128 + 128)], u / 128), ⟨?_, by simp only; omega⟩, by simp only; omega, ?_⟩, fun hc => ⟨⟨by omega, by omega⟩, ?_⟩⟩
    · rw [← hp, leb_more (u := u) (by omega)]; simp
    · simp (disch := omega) only [Fit, WkL, wfSt, wfRs, wfA, wfM, wfL, wk_refl, wk_top, wk_sl, wk_nilFull, wk_nilD, wkr_refl, get_mk, ↓lk_cons, ↓reduceIte, Nat.reduceEqDiff, List.length_cons, List.length_nil, List.length_append, decide_true, Bool.and_true, and_true, true_and, Nat.reduceLT, Nat.zero_add, Nat.reduceAdd, putSt, putRe]
      exact wk_eq rfl
    · rw [leb_one (u := u) (by omega)] at hp
      have hl2 := congrArg List.length hp
      simp only [List.length_append, List.length_cons, List.length_nil, Nat.zero_add] at hl2
      rw [← hp, ← hl2]
      exact ⟨rfl, rfl⟩
end Go.Proofs.YtjpjnhljmloofaaDoor
