/- Parts of the proof: PutText, Int, RInt, Text, RoundT, PutC, Term, PutT. -/
import Derived.Test.YtdbicadncccpoaaGreatCJ0
set_option linter.unusedVariables false
set_option linter.unusedSimpArgs false
set_option maxRecDepth 100000
namespace Go.Proofs.YtdbicadncccpoaaGreat
open Go Go.ChangeShapes Go.WideShapes
theorem zig_nat (n : Nat) : zig n = 2 * n := by unfold zig; split <;> omega
def putTx (b : List UInt8) (s : ByteArray) : List UInt8 := b ++ leb (zig s.size) ++ s.toList
theorem tl_len (s : ByteArray) : s.toList.length = s.size := by rw [Go.ByteArray.toList_eq, Array.length_toList]; rfl
theorem putTx_len (b : List UInt8) (s : ByteArray) : (putTx b s).length = b.length + (leb (zig s.size)).length + s.size := by simp only [putTx, List.length_append, tl_len]
set_option maxHeartbeats 1000000 in
theorem putText_ac (b : List UInt8) (s : ByteArray) (hb : b.length ≤ 140737488355000) (hs : b.length + s.size ≤ 140737488355000) :
    AC Tryz.prog noG 41 [.d (.sl 1 b.length (bD b)), .d (.c (.string s))] [] (fun v r' => v = .sl (.own 0) 1 (putTx b s).length (bD (putTx b s)) ∧ r' = [some (.tok (putTx b s).length)]) := by
  have hz := zig_nat s.size
  have hl := leb_len 9 (zig s.size) (by omega)
  refine AC_of_R (N := 11) (res := [.tmp 4]) ty_ok Tryz.call41 Tryz.func41 rfl rfl rfl (Nat.le_of_ble_eq_true rfl) ?_
  refine rn0 ?_
  refine HO_callX ty_ok [] (putInt_ac b s.size (by omega) (by omega) (by omega)) (trivial) rfl ?_
  rintro v r' ⟨rfl, rfl⟩ _
  refine rn1 (jn @tl_len @putTx_len) ?_
  exact ⟨⟨by omega, by omega⟩, rfl⟩
set_option maxHeartbeats 1000000 in
theorem rputInt_ac (b : List UInt8) (n : Int) (h0 : -9223372036854775808 ≤ n) (h1 : n ≤ 9223372036854775807) (hb : b.length ≤ 140737488355000) :
    AC Tryz.prog noG 24 [.d (.sl 1 b.length (bD b)), .d (.c (.int .i64 n))] [] (fun v r' => v = .sl (.own 0) 1 (b ++ leb (zig n)).length (bD (b ++ leb (zig n))) ∧ r' = [some (.tok (b ++ leb (zig n)).length)]) := by
  have hz := zig_lt h0 h1
  have hl := leb_len 9 (zig n) (by omega)
  have hw : IntKind.u64.wrap n = n % 18446744073709551616 := wrap_u64 n
  refine AC_of_R (N := 37) (res := [.tmp 4]) ty_ok Tryz.call24 Tryz.func24 rfl rfl rfl (Nat.le_of_ble_eq_true rfl) ?_
  refine rn1 @hw ?_
  refine ⟨fun hn => ⟨⟨by omega, by omega⟩, HC_loop putSt putRe (fun i => i.1 ++ leb i.2 = b ++ leb (zig n) ∧ i.2 < 18446744073709551616) (fun i => i.2) (b, zig n) ⟨rfl, hz⟩ (fun _ => rfl) ?a ?b⟩, fun hn => ⟨⟨by omega, by omega⟩, HC_loop putSt putRe (fun i => i.1 ++ leb i.2 = b ++ leb (zig n) ∧ i.2 < 18446744073709551616) (fun i => i.2) (b, zig n) ⟨rfl, hz⟩ (fun _ => rfl) ?c ?d⟩⟩
  case a | c =>
    simp only [Fit, WkL, wfSt, wfRs, wfA, wfM, wfL, wk_refl, wk_top, wk_sl, wk_nilFull, wk_nilD, wkr_refl, get_mk, ↓lk_cons, ↓reduceIte, Nat.reduceEqDiff, List.length_cons, List.length_nil, List.length_append, decide_true, Bool.and_true, and_true, true_and, Nat.reduceLT, Nat.zero_add, Nat.reduceAdd, putSt, putRe]
    refine wk_eq ?_
    congr 3
    unfold zig
    split <;> omega
  case b | d =>
    intro ⟨acc, u⟩ ⟨hp, hu⟩
    refine HC_of_R ty_ok ?_
    simp only at hp hu
    have hlen := congrArg List.length hp
    simp only [List.length_append] at hlen
    have e1 : UInt8.ofNat (((u : Int) % 128 % 256 + 128) % 256).toNat = UInt8.ofNat (u % 128 + 128) := u8_congr (by omega)
    have e2 : UInt8.ofNat ((u : Int) % 256).toNat = UInt8.ofNat u := u8_congr (by omega)
    refine rn1 (jn @putSt.eq_1 (jn @putRe.eq_1 (jn @wrap_u8 (jn @e1 @e2)))) ?_
    refine ⟨fun hc => ⟨⟨by omega, by omega⟩, (acc ++ [UInt8.ofNat (u % 128 + 128)], u / 128), ⟨?_, by simp only; omega⟩, by simp only; omega, ?_⟩, fun hc => ⟨⟨by omega, by omega⟩, ?_⟩⟩
    · rw [← hp, leb_more (u := u) (by omega)]; simp
    · simp (disch := omega) only [Fit, WkL, wfSt, wfRs, wfA, wfM, wfL, wk_refl, wk_top, wk_sl, wk_nilFull, wk_nilD, wkr_refl, get_mk, ↓lk_cons, ↓reduceIte, Nat.reduceEqDiff, List.length_cons, List.length_nil, List.length_append, decide_true, Bool.and_true, and_true, true_and, Nat.reduceLT, Nat.zero_add, Nat.reduceAdd, putSt, putRe]
      exact wk_eq (by congr 3)
    · rw [leb_one (u := u) (by omega)] at hp
      have hl2 := congrArg List.length hp
      simp only [List.length_append, List.length_cons, List.length_nil, Nat.zero_add] at hl2
      rw [← hp, ← hl2]
      exact ⟨rfl, rfl⟩
set_option maxHeartbeats 1000000 in
theorem rputText_ac (b : List UInt8) (s : ByteArray) (hb : b.length ≤ 140737488355000) (hs : b.length + s.size ≤ 140737488355000) :
    AC Tryz.prog noG 44 [.d (.sl 1 b.length (bD b)), .d (.c (.string s))] [] (fun v r' => v = .sl (.own 0) 1 (putTx b s).length (bD (putTx b s)) ∧ r' = [some (.tok (putTx b s).length)]) := by
  have hz := zig_nat s.size
  have hl := leb_len 9 (zig s.size) (by omega)
  refine AC_of_R (N := 11) (res := [.tmp 4]) ty_ok Tryz.call44 Tryz.func44 rfl rfl rfl (Nat.le_of_ble_eq_true rfl) ?_
  refine rn0 ?_
  refine HO_callX ty_ok [] (rputInt_ac b s.size (by omega) (by omega) (by omega)) (trivial) rfl ?_
  rintro v r' ⟨rfl, rfl⟩ _
  refine rn1 (jn @tl_len @putTx_len) ?_
  exact ⟨⟨by omega, by omega⟩, rfl⟩
end Go.Proofs.YtdbicadncccpoaaGreat

set_option linter.unusedVariables false
set_option linter.unusedSimpArgs false
set_option maxRecDepth 100000
namespace Go.Proofs.YtdbicadncccpoaaGreat
open Go Go.ChangeShapes Go.WideShapes
/-- The number of 'u' (even: not below zero; odd: below). -/
def zag (u : Nat) : Int := if u % 2 = 1 then -1 - ((u / 2 : Nat) : Int) else ((u / 2 : Nat) : Int)
def rdAt (at_ : Nat) : Nat → Nat → List UInt8 → Int × Int × Int
  | _, _, [] => (0, 0, 10)
  | i, u, c :: l => if i = 9 ∧ 1 < c.toNat then (0, 0, 11)
    else if 127 < c.toNat then rdAt at_ (i + 1) (u + c.toNat % 128 * 2 ^ (7 * i)) l
    else if 0 < i ∧ c.toNat = 0 then (0, 0, 11)
    else (zag (u + c.toNat % 128 * 2 ^ (7 * i)), ((at_ + i + 1 : Nat) : Int), 0)
def rdInt (b : List UInt8) (k : Int) : Int × Int × Int := if k < 0 ∨ (b.length : Int) < k then (0, 0, 2) else rdAt k.toNat 0 0 (b.drop k.toNat)
def tri (t : Int × Int × Int) : AV := .tup [.d (.c (.int .i64 t.1)), .d (.c (.int .i64 t.2.1)), .d (.c (.int .i64 t.2.2))]
def intSt (b : List UInt8) (k : Int) (i : Nat × Nat) : List (Nat × AV) := [(0, .d (.sl 1 b.length (bD b))), (1, .d (.c (.int .i64 k))), (8, .d (.c (.int .i64 i.1))), (7, .d (.c (.int .u64 i.2)))]
theorem pow7 {i : Nat} (h : i ≤ 9) : 2 ^ (7 * i) ≤ 9223372036854775808 := by
  have : 2 ^ (7 * i) ≤ 2 ^ 63 := Nat.pow_le_pow_right (by decide) (by omega)
  simpa using this
theorem or_add {u x i : Nat} (h : u < 2 ^ i) : u ||| x * 2 ^ i = u + x * 2 ^ i := by
  have := Nat.shiftLeft_add_eq_or_of_lt h x
  rw [Nat.shiftLeft_eq] at this
  rw [Nat.or_comm, ← this, Nat.add_comm]
theorem tri_eq {t : Int × Int × Int} {a b c : Int} (h1 : a = t.1) (h2 : b = t.2.1) (h3 : c = t.2.2) : AV.tup [AV.d (D.c (.int .i64 a)), AV.d (D.c (.int .i64 b)), AV.d (D.c (.int .i64 c))] = tri t := by subst h1; subst h2; subst h3; rfl
theorem zag_odd {u : Nat} (h : (u : Int) % 2 = 1) : -1 - (u : Int) / 2 = zag u := by unfold zag; rw [if_pos (by omega)]; omega
theorem zag_even {u : Nat} (h : ¬ (u : Int) % 2 = 1) : (u : Int) / 2 = zag u := by unfold zag; rw [if_neg (by omega)]; omega
set_option maxHeartbeats 1000000 in
theorem int_ac (b : List UInt8) (k : Int) (h0 : -9223372036854775808 ≤ k) (h1 : k ≤ 9223372036854775807) (hb : b.length ≤ 140737488355000) :
    AC Tryz.prog noG 46 [.d (.sl 1 b.length (bD b)), .d (.c (.int .i64 k))] [] (fun v r' => v = tri (rdInt b k) ∧ r' = []) := by
  refine AC_of_R (N := 67) (res := [.tmp 4, .tmp 5, .tmp 6]) ty_ok Tryz.call46 Tryz.func46 rfl rfl rfl (Nat.le_of_ble_eq_true rfl) ?_
  refine rn0 ?_
  refine ⟨fun hk => ⟨fun hl => ?_, fun hl => ?_⟩, fun hk => ?_⟩
  · rw [rdInt, if_pos (.inr hl)]; rfl
  · obtain ⟨kn, rfl⟩ := Int.eq_ofNat_of_zero_le (Int.not_lt.1 hk)
    have hR : rdInt b (kn : Int) = rdAt kn 0 0 (b.drop kn) := by rw [rdInt, if_neg (by omega)]; rfl
    refine HC_loop (intSt b kn) (fun _ => []) (fun i => rdAt kn i.1 i.2 (b.drop (kn + i.1)) = rdInt b kn ∧ i.1 ≤ 9 ∧ i.2 < 2 ^ (7 * i.1)) (fun i => 10 - i.1) (0, 0) ⟨hR.symm, by decide, by decide⟩ (fun _ => rfl) ?_ ?_
    · simp only [Fit, WkL, wfSt, wfRs, wfA, wfM, wfL, wk_refl, wk_top, wk_sl, wk_nilFull, wk_nilD, wkr_refl, get_mk, ↓lk_cons, ↓reduceIte, Nat.reduceEqDiff, List.length_cons, List.length_nil, List.length_append, decide_true, Bool.and_true, and_true, true_and, Nat.reduceLT, Nat.zero_add, Nat.reduceAdd, intSt]
      exact ⟨wk_eq rfl, wk_eq rfl⟩
    · intro ⟨i, u⟩ ⟨hp, hi, hu⟩
      simp only at hp hi hu
      refine HC_of_R ty_ok ?_
      have e1 : ((kn : Int) + (i : Int)).toNat = kn + i := by omega
      by_cases hin : kn + i < b.length
      · have hd : b.drop (kn + i) = b.getD (kn + i) 0 :: b.drop (kn + (i + 1)) := by
          rw [List.drop_eq_getElem_cons hin, List.getD_eq_getElem?_getD, List.getElem?_eq_getElem hin]; rfl
        rw [hd] at hp
        generalize hc : b.getD (kn + i) 0 = c at hp
        have hc8 := c.toNat_lt
        have hc2 : (b.getD (kn + i) 0).toNat = c.toNat := by rw [hc]
        rw [rdAt] at hp
        by_cases h9 : i = 9 ∧ 1 < c.toNat
        · rw [if_pos h9] at hp
          refine rn1 (jn @intSt.eq_1 (jn @e1 @hc2)) ?_
          exact ⟨⟨by omega, by omega⟩, by rw [← hp]; rfl⟩
        · rw [if_neg h9] at hp
          have hpw := pow7 hi
          obtain ⟨y, hy⟩ : ∃ y, y = c.toNat % 128 * 2 ^ (7 * i) := ⟨_, rfl⟩
          rw [← hy] at hp
          have hy63 : y + u < 2 ^ (7 * (i + 1)) ∧ y + u < 18446744073709551616 := by
            have h1 : c.toNat % 128 * 2 ^ (7 * i) ≤ 127 * 2 ^ (7 * i) := Nat.mul_le_mul_right _ (by omega)
            have h2 : 2 ^ (7 * (i + 1)) = 128 * 2 ^ (7 * i) := by rw [Nat.mul_add, Nat.pow_add, Nat.mul_comm]
            refine ⟨by omega, ?_⟩
            by_cases hi9 : i = 9
            · subst hi9
              have : c.toNat ≤ 1 := by omega
              have : c.toNat % 128 * 2 ^ (7 * 9) ≤ 1 * 2 ^ (7 * 9) := Nat.mul_le_mul_right _ (by omega)
              omega
            · have : 2 ^ (7 * i) ≤ 2 ^ (7 * 8) := Nat.pow_le_pow_right (by decide) (by omega)
              omega
          have hsh : ishl .u64 ((c.toNat : Int) % 128) (7 * (i : Int)) = (y : Int) := by
            have e : (7 * (i : Int)).toNat = 7 * i := by omega
            have e2 : (c.toNat : Int) % 128 * 2 ^ (7 * i) = (y : Int) := by rw [hy]; push_cast; rfl
            rw [shl64 (by omega) (by omega) (by omega) (by rw [e, e2]; omega), e, e2]
          have hsh9 (h : (i : Int) = 9) : ishl .u64 ((c.toNat : Int) % 128) 63 = (y : Int) := by rw [← hsh, h]; rfl
          have hor : ibits .or .u64 (u : Int) (y : Int) = ((u + y : Nat) : Int) := by
            rw [or64 (by omega) (by omega) (by omega) (by omega)]
            simp only [Int.toNat_natCast]
            rw [hy, or_add hu]
          refine rn1 (jn @intSt.eq_1 (jn @e1 (jn @hc2 (jn @hsh (jn @hsh9 @hor))))) ?_
          refine ⟨⟨by omega, by omega⟩, fun h9' => ⟨fun hz => ?_, fun hz => ⟨fun ho => ?_, fun ho => ?_⟩⟩, fun h9' => ⟨fun hc => ⟨(i + 1, u + y), ⟨?_, by simp only; omega, by simp only; omega⟩, by simp only; omega, ?_⟩, fun hc => ⟨fun hi0 => ⟨fun hz => ?_, fun hz => ⟨fun ho => ?_, fun ho => ?_⟩⟩, fun hi0 => ⟨fun ho => ?_, fun ho => ?_⟩⟩⟩⟩
          · rw [if_neg (by omega), if_pos (by omega)] at hp; rw [← hp]; rfl
          · rw [if_neg (by omega), if_neg (by omega)] at hp; rw [← hp]; exact tri_eq (zag_odd ho) (by simp only; omega) rfl
          · rw [if_neg (by omega), if_neg (by omega)] at hp; rw [← hp]; exact tri_eq (zag_even ho) (by simp only; omega) rfl
          · rw [if_pos (by omega)] at hp; exact hp
          · simp only [Fit, WkL, wfSt, wfRs, wfA, wfM, wfL, wk_refl, wk_top, wk_sl, wk_nilFull, wk_nilD, wkr_refl, get_mk, ↓lk_cons, ↓reduceIte, Nat.reduceEqDiff, List.length_cons, List.length_nil, List.length_append, decide_true, Bool.and_true, and_true, true_and, Nat.reduceLT, Nat.zero_add, Nat.reduceAdd, intSt]
            exact wk_eq rfl
          · rw [if_neg (by omega), if_pos (by omega)] at hp; rw [← hp]; rfl
          · rw [if_neg (by omega), if_neg (by omega)] at hp; rw [← hp]; exact tri_eq (zag_odd ho) (by simp only; omega) rfl
          · rw [if_neg (by omega), if_neg (by omega)] at hp; rw [← hp]; exact tri_eq (zag_even ho) (by simp only; omega) rfl
          · rw [if_neg (by omega), if_neg (by omega)] at hp; rw [← hp]; exact tri_eq (zag_odd ho) (by simp only; omega) rfl
          · rw [if_neg (by omega), if_neg (by omega)] at hp; rw [← hp]; exact tri_eq (zag_even ho) (by simp only; omega) rfl
      · rw [List.drop_eq_nil_of_le (by omega), rdAt] at hp
        refine rn1 @intSt.eq_1 ?_
        rw [← hp]; rfl
  · rw [rdInt, if_pos (.inl hk)]; rfl
end Go.Proofs.YtdbicadncccpoaaGreat

set_option linter.unusedVariables false
set_option linter.unusedSimpArgs false
set_option maxRecDepth 100000
namespace Go.Proofs.YtdbicadncccpoaaGreat
open Go Go.ChangeShapes Go.WideShapes
def rintSt (b : List UInt8) (k : Int) (i : Nat × Nat) : List (Nat × AV) := [(0, .d (.sl 1 b.length (bD b))), (1, .d (.c (.int .i64 k))), (8, .d (.c (.int .i64 i.1))), (7, .d (.c (.int .u64 i.2)))]
set_option maxHeartbeats 1000000 in
theorem rint_ac (b : List UInt8) (k : Int) (h0 : -9223372036854775808 ≤ k) (h1 : k ≤ 9223372036854775807) (hb : b.length ≤ 140737488355000) :
    AC Tryz.prog noG 48 [.d (.sl 1 b.length (bD b)), .d (.c (.int .i64 k))] [] (fun v r' => v = tri (rdInt b k) ∧ r' = []) := by
  refine AC_of_R (N := 76) (res := [.tmp 4, .tmp 5, .tmp 6]) ty_ok Tryz.call48 Tryz.func48 rfl rfl rfl (Nat.le_of_ble_eq_true rfl) ?_
  refine rn0 ?_
  refine ⟨fun hk => ⟨fun hl => ?_, fun hl => ?_⟩, fun hk => ?_⟩
  · rw [rdInt, if_pos (.inr hl)]; rfl
  · obtain ⟨kn, rfl⟩ := Int.eq_ofNat_of_zero_le (Int.not_lt.1 hk)
    have hR : rdInt b (kn : Int) = rdAt kn 0 0 (b.drop kn) := by rw [rdInt, if_neg (by omega)]; rfl
    refine HC_loop (rintSt b kn) (fun _ => []) (fun i => rdAt kn i.1 i.2 (b.drop (kn + i.1)) = rdInt b kn ∧ i.1 ≤ 9 ∧ i.2 < 2 ^ (7 * i.1) ∧ kn + i.1 ≤ b.length) (fun i => 10 - i.1) (0, 0) ⟨hR.symm, by decide, by decide, by simp only; omega⟩ (fun _ => rfl) ?_ ?_
    · simp only [Fit, WkL, wfSt, wfRs, wfA, wfM, wfL, wk_refl, wk_top, wk_sl, wk_nilFull, wk_nilD, wkr_refl, get_mk, ↓lk_cons, ↓reduceIte, Nat.reduceEqDiff, List.length_cons, List.length_nil, List.length_append, decide_true, Bool.and_true, and_true, true_and, Nat.reduceLT, Nat.zero_add, Nat.reduceAdd, rintSt]
      exact ⟨wk_eq rfl, wk_eq rfl⟩
    · intro ⟨i, u⟩ ⟨hp, hi, hu, hle⟩
      simp only at hp hi hu hle
      refine HC_of_R ty_ok ?_
      have e1 : ((kn : Int) + (i : Int)).toNat = kn + i := by omega
      by_cases hin : kn + i < b.length
      · have hd : b.drop (kn + i) = b.getD (kn + i) 0 :: b.drop (kn + (i + 1)) := by
          rw [List.drop_eq_getElem_cons hin, List.getD_eq_getElem?_getD, List.getElem?_eq_getElem hin]; rfl
        rw [hd] at hp
        generalize hc : b.getD (kn + i) 0 = c at hp
        have hc8 := c.toNat_lt
        have hc2 : (b.getD (kn + i) 0).toNat = c.toNat := by rw [hc]
        rw [rdAt] at hp
        by_cases h9 : i = 9 ∧ 1 < c.toNat
        · rw [if_pos h9] at hp
          refine rn1 (jn @rintSt.eq_1 (jn @e1 @hc2)) ?_
          exact ⟨⟨by omega, by omega⟩, by rw [← hp]; rfl⟩
        · rw [if_neg h9] at hp
          have hpw := pow7 hi
          obtain ⟨y, hy⟩ : ∃ y, y = c.toNat % 128 * 2 ^ (7 * i) := ⟨_, rfl⟩
          rw [← hy] at hp
          have hy63 : y + u < 2 ^ (7 * (i + 1)) ∧ y + u < 18446744073709551616 := by
            have h1 : c.toNat % 128 * 2 ^ (7 * i) ≤ 127 * 2 ^ (7 * i) := Nat.mul_le_mul_right _ (by omega)
            have h2 : 2 ^ (7 * (i + 1)) = 128 * 2 ^ (7 * i) := by rw [Nat.mul_add, Nat.pow_add, Nat.mul_comm]
            refine ⟨by omega, ?_⟩
            by_cases hi9 : i = 9
            · subst hi9
              have : c.toNat ≤ 1 := by omega
              have : c.toNat % 128 * 2 ^ (7 * 9) ≤ 1 * 2 ^ (7 * 9) := Nat.mul_le_mul_right _ (by omega)
              omega
            · have : 2 ^ (7 * i) ≤ 2 ^ (7 * 8) := Nat.pow_le_pow_right (by decide) (by omega)
              omega
          have hsh : ishl .u64 ((c.toNat : Int) % 128) (7 * (i : Int)) = (y : Int) := by
            have e : (7 * (i : Int)).toNat = 7 * i := by omega
            have e2 : (c.toNat : Int) % 128 * 2 ^ (7 * i) = (y : Int) := by rw [hy]; push_cast; rfl
            rw [shl64 (by omega) (by omega) (by omega) (by rw [e, e2]; omega), e, e2]
          have hsh9 (h : (i : Int) = 9) : ishl .u64 ((c.toNat : Int) % 128) 63 = (y : Int) := by rw [← hsh, h]; rfl
          refine rn1 (jn @rintSt.eq_1 (jn @e1 (jn @hc2 (jn @hsh @hsh9)))) ?_
          have odd : ∀ q : Int, (u : Int) + y = (u + y : Nat) := fun q => by omega
          have fin : ∀ p : Int, p = ((kn + i + 1 : Nat) : Int) → ¬ 127 < c.toNat → ¬ (0 < i ∧ c.toNat = 0) → (((u : Int) + y) % 2 = 1 → AV.tup [.d (.c (.int .i64 (0 - ((u : Int) + y) / 2 - 1))), .d (.c (.int .i64 p)), .d (.c (.int .i64 0))] = tri (rdInt b kn)) ∧
              (¬ ((u : Int) + y) % 2 = 1 → AV.tup [.d (.c (.int .i64 (((u : Int) + y) / 2))), .d (.c (.int .i64 p)), .d (.c (.int .i64 0))] = tri (rdInt b kn)) := by
            rintro p rfl h1 h2
            rw [if_neg h1, if_neg h2] at hp
            refine ⟨fun ho => ?_, fun ho => ?_⟩ <;> rw [← hp]
            · exact tri_eq (by have := zag_odd (u := u + y) (by omega); simp only; omega) rfl rfl
            · exact tri_eq (by have := zag_even (u := u + y) (by omega); simp only; omega) rfl rfl
          have bad : ¬ 127 < c.toNat → (0 < i ∧ c.toNat = 0) → AV.tup [.d (.c (.int .i64 0)), .d (.c (.int .i64 0)), .d (.c (.int .i64 11))] = tri (rdInt b kn) := by
            intro h1 h2
            rw [if_neg h1, if_pos h2] at hp
            rw [← hp]; rfl
          refine ⟨⟨by omega, by omega⟩, fun h9' => ⟨fun hz => bad (by omega) (by omega), fun hz => fin _ (by omega) (by omega) (by omega)⟩, fun h9' => ⟨fun hc => ⟨(i + 1, u + y), ⟨?_, by simp only; omega, by simp only; omega, by simp only; omega⟩, by simp only; omega, ?_⟩, fun hc => ⟨fun hi0 => ⟨fun hz => bad (by omega) (by omega), fun hz => fin _ (by omega) (by omega) (by omega)⟩, fun hi0 => fin _ (by omega) (by omega) (by omega)⟩⟩⟩
          · rw [if_pos (by omega)] at hp; exact hp
          · simp only [Fit, WkL, wfSt, wfRs, wfA, wfM, wfL, wk_refl, wk_top, wk_sl, wk_nilFull, wk_nilD, wkr_refl, get_mk, ↓lk_cons, ↓reduceIte, Nat.reduceEqDiff, List.length_cons, List.length_nil, List.length_append, decide_true, Bool.and_true, and_true, true_and, Nat.reduceLT, Nat.zero_add, Nat.reduceAdd, rintSt]
            exact ⟨wk_eq (by congr 3), wk_eq (by congr 3)⟩
      · rw [List.drop_eq_nil_of_le (by omega), rdAt] at hp
        refine rn1 @rintSt.eq_1 ?_
        rw [← hp]; rfl
  · rw [rdInt, if_pos (.inl hk)]; rfl
end Go.Proofs.YtdbicadncccpoaaGreat

set_option linter.unusedVariables false
set_option linter.unusedSimpArgs false
set_option maxRecDepth 100000
namespace Go.Proofs.YtdbicadncccpoaaGreat
open Go Go.ChangeShapes Go.WideShapes
theorem rdAt_bd (at_ : Nat) : ∀ (l : List UInt8) (i u : Nat), i ≤ 9 → u < 2 ^ (7 * i) →
    (-9223372036854775808 ≤ (rdAt at_ i u l).1 ∧ (rdAt at_ i u l).1 ≤ 9223372036854775807) ∧ (0 ≤ (rdAt at_ i u l).2.1 ∧ (rdAt at_ i u l).2.1 ≤ (at_ + i + l.length : Nat)) ∧ (0 ≤ (rdAt at_ i u l).2.2 ∧ (rdAt at_ i u l).2.2 ≤ 11) ∧ ((rdAt at_ i u l).2.2 = 0 → (at_ : Int) + i < (rdAt at_ i u l).2.1)
  | [], i, u, _, _ => by simp only [rdAt]; omega
  | c :: l, i, u, hi, hu => by
    have hc8 := c.toNat_lt
    simp only [rdAt]
    by_cases h9 : i = 9 ∧ 1 < c.toNat
    · rw [if_pos h9]; simp only; omega
    · rw [if_neg h9]
      have hpw := pow7 hi
      obtain ⟨y, hy⟩ : ∃ y, y = c.toNat % 128 * 2 ^ (7 * i) := ⟨_, rfl⟩
      rw [← hy]
      have hy63 : y + u < 2 ^ (7 * (i + 1)) ∧ y + u < 18446744073709551616 := by
        have h1 : c.toNat % 128 * 2 ^ (7 * i) ≤ 127 * 2 ^ (7 * i) := Nat.mul_le_mul_right _ (by omega)
        have h2 : 2 ^ (7 * (i + 1)) = 128 * 2 ^ (7 * i) := by rw [Nat.mul_add, Nat.pow_add, Nat.mul_comm]
        refine ⟨by omega, ?_⟩
        by_cases hi9 : i = 9
        · subst hi9
          have : c.toNat ≤ 1 := by omega
          have : c.toNat % 128 * 2 ^ (7 * 9) ≤ 1 * 2 ^ (7 * 9) := Nat.mul_le_mul_right _ (by omega)
          omega
        · have : 2 ^ (7 * i) ≤ 2 ^ (7 * 8) := Nat.pow_le_pow_right (by decide) (by omega)
          omega
      split
      · have := rdAt_bd at_ l (i + 1) (u + y) (by omega) (by omega)
        simp only [List.length_cons]
        omega
      · split
        · simp only; omega
        · simp only [List.length_cons, zag]
          split <;> omega
theorem rdInt_bd (b : List UInt8) (k : Int) : (-9223372036854775808 ≤ (rdInt b k).1 ∧ (rdInt b k).1 ≤ 9223372036854775807) ∧ (0 ≤ (rdInt b k).2.1 ∧ (rdInt b k).2.1 ≤ b.length) ∧ (0 ≤ (rdInt b k).2.2 ∧ (rdInt b k).2.2 ≤ 11) ∧ ((rdInt b k).2.2 = 0 → 0 ≤ k ∧ k < (rdInt b k).2.1) := by
  unfold rdInt
  split
  · simp only; omega
  · have := rdAt_bd k.toNat (b.drop k.toNat) 0 0 (by omega) (by decide)
    rw [List.length_drop] at this
    omega
def cnt (b : List UInt8) (k most : Int) : Int × Int × Int := if (rdInt b k).2.2 ≠ 0 then (0, 0, (rdInt b k).2.2) else if (rdInt b k).1 < 0 ∨ most < (rdInt b k).1 then (0, 0, 11) else rdInt b k
theorem cnt_bd (b : List UInt8) (k most : Int) : (0 ≤ (cnt b k most).1 ∧ (cnt b k most).1 ≤ 9223372036854775807) ∧ (0 ≤ (cnt b k most).2.1 ∧ (cnt b k most).2.1 ≤ b.length) ∧ (0 ≤ (cnt b k most).2.2 ∧ (cnt b k most).2.2 ≤ 11) ∧ ((cnt b k most).2.2 = 0 → (cnt b k most).1 ≤ most ∧ 0 ≤ k ∧ k < (cnt b k most).2.1) := by
  have := rdInt_bd b k
  unfold cnt
  split
  · simp only; omega
  · split
    · simp only; omega
    · omega
set_option maxHeartbeats 1000000 in
theorem count_ac (b : List UInt8) (k most : Int) (h0 : -9223372036854775808 ≤ k) (h1 : k ≤ 9223372036854775807) (hb : b.length ≤ 140737488355000) :
    AC Tryz.prog noG 26 [.d (.sl 1 b.length (bD b)), .d (.c (.int .i64 k)), .d (.c (.int .i64 most))] [] (fun v r' => v = tri (cnt b k most) ∧ r' = []) := by
  refine AC_of_R (N := 28) (res := [.tmp 6, .tmp 7, .tmp 8]) ty_ok Tryz.call26 Tryz.func26 rfl rfl rfl (Nat.le_of_ble_eq_true rfl) ?_
  refine rn0 ?_
  refine HO_pureA ty_ok (int_ac b k h0 h1 hb) ?_
  have hbd := rdInt_bd b k
  unfold cnt
  generalize rdInt b k = t at *
  obtain ⟨n, nx, e⟩ := t
  simp only at hbd
  exact rz1 @tri.eq_1
def txt (b : List UInt8) (k : Int) : ByteArray × Int × Int := if (cnt b k 65536).2.2 ≠ 0 then (⟨#[]⟩, 0, (cnt b k 65536).2.2) else if (b.length : Int) - (cnt b k 65536).2.1 < (cnt b k 65536).1 then (⟨#[]⟩, 0, 10)
  else (⟨((b.drop (cnt b k 65536).2.1.toNat).take (cnt b k 65536).1.toNat).toArray⟩, (cnt b k 65536).2.1 + (cnt b k 65536).1, 0)
def triS (t : ByteArray × Int × Int) : AV := .tup [.d (.c (.string t.1)), .d (.c (.int .i64 t.2.1)), .d (.c (.int .i64 t.2.2))]
set_option maxHeartbeats 1000000 in
theorem text_ac (b : List UInt8) (k : Int) (h0 : -9223372036854775808 ≤ k) (h1 : k ≤ 9223372036854775807) (hb : b.length ≤ 140737488355000) :
    AC Tryz.prog noG 88 [.d (.sl 1 b.length (bD b)), .d (.c (.int .i64 k))] [] (fun v r' => v = triS (txt b k) ∧ r' = []) := by
  refine AC_of_R (N := 35) (res := [.tmp 4, .tmp 5, .tmp 6]) ty_ok Tryz.call88 Tryz.func88 rfl rfl rfl (Nat.le_of_ble_eq_true rfl) ?_
  refine rn0 ?_
  refine HO_pureA ty_ok (count_ac b k 65536 h0 h1 hb) ?_
  have hbd := cnt_bd b k 65536
  unfold txt
  generalize cnt b k 65536 = t at *
  obtain ⟨n, nx, e⟩ := t
  simp only at hbd
  have e1 : (nx + n).toNat - nx.toNat = n.toNat := by omega
  refine rn1 (jn @tri.eq_1 (jn @triS.eq_1 @e1)) ?_
  intros
  omega
set_option maxHeartbeats 1000000 in
theorem rtext_ac (b : List UInt8) (k : Int) (h0 : -9223372036854775808 ≤ k) (h1 : k ≤ 9223372036854775807) (hb : b.length ≤ 140737488355000) :
    AC Tryz.prog noG 91 [.d (.sl 1 b.length (bD b)), .d (.c (.int .i64 k))] [] (fun v r' => v = triS (txt b k) ∧ r' = []) := by
  refine AC_of_R (N := 42) (res := [.tmp 4, .tmp 5, .tmp 6]) ty_ok Tryz.call91 Tryz.func91 rfl rfl rfl (Nat.le_of_ble_eq_true rfl) ?_
  refine rn0 ?_
  refine HO_pureA ty_ok (rint_ac b k h0 h1 hb) ?_
  have hbd := rdInt_bd b k
  unfold txt cnt
  generalize rdInt b k = t at *
  obtain ⟨n, nx, e⟩ := t
  simp only at hbd
  have e1 : (nx + n).toNat - nx.toNat = n.toNat := by omega
  refine rn1 (jn @tri.eq_1 (jn @triS.eq_1 @e1)) ?_
  intros
  omega
end Go.Proofs.YtdbicadncccpoaaGreat

set_option linter.unusedVariables false
set_option linter.unusedSimpArgs false
set_option maxRecDepth 100000
namespace Go.Proofs.YtdbicadncccpoaaGreat
open Go Go.ChangeShapes Go.WideShapes
theorem zig_zag (u : Nat) : zig (zag u) = u := by unfold zag; split <;> unfold zig <;> split <;> omega
theorem pow_step (i : Nat) : 2 ^ (7 * (i + 1)) = 128 * 2 ^ (7 * i) := by rw [Nat.mul_add, Nat.pow_add, Nat.mul_comm]
/-- What is read was laid so. -/
theorem rdAt_inv (at_ : Nat) : ∀ (l : List UInt8) (i u : Nat) (m nx : Int), rdAt at_ i u l = (m, nx, 0) →
    ∃ v, m = zag (u + v * 2 ^ (7 * i)) ∧ nx = ((at_ + i + (leb v).length : Nat) : Int) ∧ (leb v).length ≤ l.length ∧ l.take (leb v).length = leb v ∧ (i = 0 ∨ v ≠ 0)
  | [], i, u, m, nx, h => by simp [rdAt] at h
  | c :: l, i, u, m, nx, h => by
    have hc := c.toNat_lt
    rw [rdAt] at h
    split at h
    · simp at h
    · split at h
      · obtain ⟨v, h1, h2, h3, h4, h5⟩ := rdAt_inv at_ l (i + 1) _ m nx h
        have hv : ¬ c.toNat % 128 + 128 * v < 128 := by omega
        have e1 : (c.toNat % 128 + 128 * v) % 128 = c.toNat % 128 := by omega
        have e2 : (c.toNat % 128 + 128 * v) / 128 = v := by omega
        have e3 : UInt8.ofNat (c.toNat % 128 + 128) = c := by
          have : c.toNat % 128 + 128 = c.toNat := by omega
          rw [this, UInt8.ofNat_toNat]
        have hL : leb (c.toNat % 128 + 128 * v) = c :: leb v := by rw [leb_more hv, e1, e2, e3]
        refine ⟨c.toNat % 128 + 128 * v, ?_, ?_, ?_, ?_, .inr (by omega)⟩
        · rw [h1, pow_step, Nat.add_mul, ← Nat.mul_assoc, Nat.mul_comm v 128, Nat.add_assoc]
        · rw [h2, hL, List.length_cons]; congr 1; omega
        · rw [hL, List.length_cons, List.length_cons]; omega
        · rw [hL, List.length_cons, List.take_succ_cons, h4]
      · split at h
        · simp at h
        · injection h with h1 h; injection h with h2 _
          have e1 : c.toNat % 128 = c.toNat := by omega
          have hL : leb c.toNat = [c] := by rw [leb_one (by omega), UInt8.ofNat_toNat]
          refine ⟨c.toNat, by rw [← h1, e1], by rw [← h2, hL]; rfl, by rw [hL]; simp, by rw [hL]; simp, by omega⟩
theorem rdInt_inv (b : List UInt8) (k m nx : Int) (h : rdInt b k = (m, nx, 0)) :
    ∃ kn : Nat, k = kn ∧ nx = ((kn + (leb (zig m)).length : Nat) : Int) ∧ kn + (leb (zig m)).length ≤ b.length ∧ (b.drop kn).take (leb (zig m)).length = leb (zig m) := by
  unfold rdInt at h
  split at h
  · simp at h
  · obtain ⟨v, h1, h2, h3, h4, _⟩ := rdAt_inv k.toNat _ 0 0 m nx h
    have hz : zig m = v := by rw [h1]; simp only [Nat.zero_add, Nat.mul_zero, Nat.pow_zero, Nat.mul_one, zig_zag]
    rw [List.length_drop] at h3
    rw [hz]
    exact ⟨k.toNat, by omega, by rw [h2]; rfl, by omega, h4⟩
theorem txt_inv (b : List UInt8) (k : Int) (t : ByteArray) (nx : Int) (h : txt b k = (t, nx, 0)) :
    ∃ kn : Nat, k = kn ∧ nx = ((kn + (putTx [] t).length : Nat) : Int) ∧ kn + (putTx [] t).length ≤ b.length ∧ (b.drop kn).take (putTx [] t).length = putTx [] t ∧ t.size ≤ 65536 := by
  have hcb := cnt_bd b k 65536
  unfold txt at h
  split at h
  · rename_i h1; simp at h; exact absurd h.2.2 h1
  · rename_i he
    split at h
    · simp at h
    · rename_i hn
      injection h with h1 h; injection h with h2 _
      simp only [ne_eq, Decidable.not_not] at he
      have hr : rdInt b k = ((cnt b k 65536).1, (cnt b k 65536).2.1, 0) := by
        have hu : cnt b k 65536 = if (rdInt b k).2.2 ≠ 0 then (0, 0, (rdInt b k).2.2) else if (rdInt b k).1 < 0 ∨ 65536 < (rdInt b k).1 then (0, 0, 11) else rdInt b k := rfl
        split at hu
        · rename_i hh; rw [hu] at he; exact absurd he hh
        · split at hu
          · rw [hu] at he; simp at he
          · rw [← hu]; exact Prod.ext rfl (Prod.ext rfl he)
      obtain ⟨kn, hk, g2, g3, g4⟩ := rdInt_inv b k _ _ hr
      generalize cnt b k 65536 = c at *
      obtain ⟨n, x, e⟩ := c
      simp only at *
      obtain ⟨nn, rfl⟩ := Int.eq_ofNat_of_zero_le hcb.1.1
      have e1 : x.toNat = kn + (leb (zig nn)).length := by omega
      have hts : t.size = nn := by
        rw [← h1]; simp only [ByteArray.size, List.size_toArray, List.length_take, List.length_drop]; omega
      have htl : t.toList = (b.drop (kn + (leb (zig nn)).length)).take nn := by
        rw [← h1, Go.ByteArray.toList_eq, e1]; simp
      have hpl := putTx_len [] t
      simp only [List.length_nil, Nat.zero_add, hts] at hpl
      refine ⟨kn, hk, by omega, by omega, ?_, by omega⟩
      rw [hpl, List.take_add, g4, List.drop_drop, putTx, hts, htl, List.nil_append]
end Go.Proofs.YtdbicadncccpoaaGreat

set_option linter.unusedVariables false
set_option linter.unusedSimpArgs false
set_option maxRecDepth 100000
namespace Go.Proofs.YtdbicadncccpoaaGreat
open Go Go.ChangeShapes Go.WideShapes
def putC (b : List UInt8) (c : Cst) : List UInt8 := if c.num then b ++ [0] ++ leb (zig c.n) else putTx (b ++ [1]) c.s
def okC (c : Cst) : Prop := -9223372036854775808 ≤ c.n ∧ c.n ≤ 9223372036854775807
theorem leb64_len {n : Int} (h0 : -9223372036854775808 ≤ n) (h1 : n ≤ 9223372036854775807) : (leb (zig n)).length ≤ 10 := leb_len 9 _ (by have := zig_lt h0 h1; omega)
theorem l1 (b : List UInt8) (x : UInt8) : (b ++ [x]).length = b.length + 1 := by simp
theorem l2 (b : List UInt8) (x : UInt8) (l : List UInt8) : (b ++ [x] ++ l).length = b.length + 1 + l.length := by simp; omega
theorem l3 (b : List UInt8) (x : UInt8) (s : ByteArray) : (putTx (b ++ [x]) s).length = b.length + 1 + (leb (zig s.size)).length + s.size := by rw [putTx_len, l1]
set_option maxHeartbeats 400000 in
theorem putC_ac (b : List UInt8) (c : Cst) (hc : okC c) (hb : b.length + c.s.size ≤ 140737488350000) : AC Tryz.prog noG 42 [.sl (.own 0) 1 b.length (bD b), .d (.agg (cstE c))] [some (.tok b.length)]
    (fun v r' => v = .sl (.own 1) 1 (putC b c).length (bD (putC b c)) ∧ r' = [none, some (.tok (putC b c).length)]) := by
  refine AC.fit ?_
  refine AC_of_R (N := 19) (res := [.tmp 4]) ty_ok Tryz.call42 Tryz.func42 rfl rfl rfl (Nat.le_of_ble_eq_true rfl) ?_
  obtain ⟨q, n, s⟩ := c
  obtain ⟨h0, h1⟩ := hc
  simp only at h0 h1 hb
  cases q with
  | true =>
    have e : putC b ⟨true, n, s⟩ = b ++ [0] ++ leb (zig n) := rfl
    rw [e, l2]
    refine rn1 @cstE.eq_1 ?_
    refine HC_of_HV mix ?_
    refine HV_split 4 2 (by decide) ?_ ?_
    · simp only [addAt]
      refine HV_order [] ty_ok [0, 3, 4, 1, 2, 5, 6] (by kernel_rfl) rfl _ rfl ?_
      simp only [opl_nil', opl_cons', oplC_some, List.getElem?_toArray, List.getElem?_cons_zero, List.getElem?_cons_succ]
      refine rn0 ?_
      (repeat (refine And.intro (by omega) ?_))
      have kk := putInt_ac (b ++ [0]) n h0 h1 (by simp; omega)
      rw [l1] at kk
      refine HO_callX ty_ok [] kk (trivial) rfl ?_
      rintro v r' ⟨rfl, rfl⟩ _
      refine rn1 (jn @l2 @l3) ?_
      exact fv0 [0,2] []
    · simp only [addAt]
      refine HV_order [] ty_ok [0, 3, 1, 2, 4, 5, 6] (by kernel_rfl) rfl _ rfl ?_
      simp only [opl_nil', opl_cons', oplC_some, List.getElem?_toArray, List.getElem?_cons_zero, List.getElem?_cons_succ]
      refine rn0 ?_
      (repeat (refine And.intro (by omega) ?_))
      have kk := putInt_ac (b ++ [0]) n h0 h1 (by simp; omega)
      rw [l1] at kk
      refine HO_callX ty_ok [] kk (trivial) rfl ?_
      rintro v r' ⟨rfl, rfl⟩ _
      refine rn1 (jn @l2 @l3) ?_
      exact fv0 [0,2] []
  | false =>
    have e : putC b ⟨false, n, s⟩ = putTx (b ++ [1]) s := rfl
    rw [e, l3]
    refine rn1 @cstE.eq_1 ?_
    refine HC_of_HV mix ?_
    refine HV_split 4 2 (by decide) ?_ ?_
    · simp only [addAt]
      refine HV_order [] ty_ok [0, 3, 4, 1, 2, 5, 6] (by kernel_rfl) rfl _ rfl ?_
      simp only [opl_nil', opl_cons', oplC_some, List.getElem?_toArray, List.getElem?_cons_zero, List.getElem?_cons_succ]
      refine rn0 ?_
      (repeat (refine And.intro (by omega) ?_))
      have kk := putText_ac (b ++ [1]) s (by simp; omega) (by simp; omega)
      rw [l1] at kk
      refine HO_callX ty_ok [] kk (trivial) rfl ?_
      rintro v r' ⟨rfl, rfl⟩ _
      refine rn1 (jn @l2 @l3) ?_
      exact fv0 [0,2] []
    · simp only [addAt]
      refine HV_order [] ty_ok [0, 3, 1, 2, 4, 5, 6] (by kernel_rfl) rfl _ rfl ?_
      simp only [opl_nil', opl_cons', oplC_some, List.getElem?_toArray, List.getElem?_cons_zero, List.getElem?_cons_succ]
      refine rn0 ?_
      (repeat (refine And.intro (by omega) ?_))
      have kk := putText_ac (b ++ [1]) s (by simp; omega) (by simp; omega)
      rw [l1] at kk
      refine HO_callX ty_ok [] kk (trivial) rfl ?_
      rintro v r' ⟨rfl, rfl⟩ _
      refine rn1 (jn @l2 @l3) ?_
      exact fv0 [0,2] []
set_option maxHeartbeats 400000 in
theorem rputC_ac (b : List UInt8) (c : Cst) (hc : okC c) (hb : b.length + c.s.size ≤ 140737488350000) : AC Tryz.prog noG 45 [.sl (.own 0) 1 b.length (bD b), .d (.agg (cstE c))] [some (.tok b.length)]
    (fun v r' => v = .sl (.own 1) 1 (putC b c).length (bD (putC b c)) ∧ r' = [none, some (.tok (putC b c).length)]) := by
  refine AC.fit ?_
  refine AC_of_R (N := 19) (res := [.tmp 4]) ty_ok Tryz.call45 Tryz.func45 rfl rfl rfl (Nat.le_of_ble_eq_true rfl) ?_
  obtain ⟨q, n, s⟩ := c
  obtain ⟨h0, h1⟩ := hc
  simp only at h0 h1 hb
  cases q with
  | true =>
    have e : putC b ⟨true, n, s⟩ = b ++ [0] ++ leb (zig n) := rfl
    rw [e, l2]
    refine rn1 @cstE.eq_1 ?_
    refine HC_of_HV mix ?_
    refine HV_split 4 2 (by decide) ?_ ?_
    · simp only [addAt]
      refine HV_order [] ty_ok [0, 3, 4, 1, 2, 5, 6] (by kernel_rfl) rfl _ rfl ?_
      simp only [opl_nil', opl_cons', oplC_some, List.getElem?_toArray, List.getElem?_cons_zero, List.getElem?_cons_succ]
      refine rn0 ?_
      (repeat (refine And.intro (by omega) ?_))
      have kk := rputInt_ac (b ++ [0]) n h0 h1 (by simp; omega)
      rw [l1] at kk
      refine HO_callX ty_ok [] kk (trivial) rfl ?_
      rintro v r' ⟨rfl, rfl⟩ _
      refine rn1 (jn @l2 @l3) ?_
      exact fv0 [0,2] []
    · simp only [addAt]
      refine HV_order [] ty_ok [0, 3, 1, 2, 4, 5, 6] (by kernel_rfl) rfl _ rfl ?_
      simp only [opl_nil', opl_cons', oplC_some, List.getElem?_toArray, List.getElem?_cons_zero, List.getElem?_cons_succ]
      refine rn0 ?_
      (repeat (refine And.intro (by omega) ?_))
      have kk := rputInt_ac (b ++ [0]) n h0 h1 (by simp; omega)
      rw [l1] at kk
      refine HO_callX ty_ok [] kk (trivial) rfl ?_
      rintro v r' ⟨rfl, rfl⟩ _
      refine rn1 (jn @l2 @l3) ?_
      exact fv0 [0,2] []
  | false =>
    have e : putC b ⟨false, n, s⟩ = putTx (b ++ [1]) s := rfl
    rw [e, l3]
    refine rn1 @cstE.eq_1 ?_
    refine HC_of_HV mix ?_
    refine HV_split 4 2 (by decide) ?_ ?_
    · simp only [addAt]
      refine HV_order [] ty_ok [0, 3, 4, 1, 2, 5, 6] (by kernel_rfl) rfl _ rfl ?_
      simp only [opl_nil', opl_cons', oplC_some, List.getElem?_toArray, List.getElem?_cons_zero, List.getElem?_cons_succ]
      refine rn0 ?_
      (repeat (refine And.intro (by omega) ?_))
      have kk := rputText_ac (b ++ [1]) s (by simp; omega) (by simp; omega)
      rw [l1] at kk
      refine HO_callX ty_ok [] kk (trivial) rfl ?_
      rintro v r' ⟨rfl, rfl⟩ _
      refine rn1 (jn @l2 @l3) ?_
      exact fv0 [0,2] []
    · simp only [addAt]
      refine HV_order [] ty_ok [0, 3, 1, 2, 4, 5, 6] (by kernel_rfl) rfl _ rfl ?_
      simp only [opl_nil', opl_cons', oplC_some, List.getElem?_toArray, List.getElem?_cons_zero, List.getElem?_cons_succ]
      refine rn0 ?_
      (repeat (refine And.intro (by omega) ?_))
      have kk := rputText_ac (b ++ [1]) s (by simp; omega) (by simp; omega)
      rw [l1] at kk
      refine HO_callX ty_ok [] kk (trivial) rfl ?_
      rintro v r' ⟨rfl, rfl⟩ _
      refine rn1 (jn @l2 @l3) ?_
      exact fv0 [0,2] []
end Go.Proofs.YtdbicadncccpoaaGreat

set_option linter.unusedVariables false
set_option linter.unusedSimpArgs false
set_option maxRecDepth 100000
namespace Go.Proofs.YtdbicadncccpoaaGreat
open Go Go.ChangeShapes Go.WideShapes
structure Trm where
  v : ByteArray
  c : Cst
deriving DecidableEq
end Go.Proofs.YtdbicadncccpoaaGreat

set_option linter.unusedVariables false
set_option linter.unusedSimpArgs false
set_option maxRecDepth 100000
namespace Go.Proofs.YtdbicadncccpoaaGreat
open Go Go.ChangeShapes Go.WideShapes
theorem putC_len (b : List UInt8) (c : Cst) : (putC b c).length = b.length + 1 + (leb (zig (if c.num then c.n else c.s.size))).length + (if c.num then 0 else c.s.size) := by
  unfold putC
  cases c.num with
  | true => simp only [if_true]; rw [l2]; omega
  | false => simp only [Bool.false_eq_true, if_false]; rw [l3]
theorem putC_bd {b : List UInt8} {c : Cst} (hc : okC c) (hs : c.s.size ≤ 140737488355000) : (putC b c).length ≤ b.length + 11 + c.s.size ∧ b.length < (putC b c).length := by
  rw [putC_len]
  obtain ⟨h0, h1⟩ := hc
  have e : (leb (zig (if c.num then c.n else c.s.size))).length ≤ 10 := by
    split
    · exact leb64_len h0 h1
    · exact leb64_len (by omega) (by omega)
  generalize (leb (zig (if c.num then c.n else c.s.size))).length = L at *
  split <;> omega
theorem putTx_bd (b : List UInt8) {s : ByteArray} (hs : s.size ≤ 140737488355000) : (putTx b s).length ≤ b.length + 10 + s.size := by
  have := leb64_len (n := s.size) (by omega) (by omega)
  rw [putTx_len]; omega
end Go.Proofs.YtdbicadncccpoaaGreat
