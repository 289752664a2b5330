import Derived.Test.YtjpjnhljmloofaaDoorCSame
set_option linter.unusedVariables false
set_option linter.unusedSimpArgs false
set_option maxRecDepth 100000
namespace Go.Proofs.YtjpjnhljmloofaaDoor
open Go Go.ChangeShapes Go.WideShapes
theorem zig_nat (n : Nat) : zig n = 2 * n := by unfold zig; split <;> omega
def putTx (b : List UInt8) (s : ByteArray) : List UInt8 := b ++ leb (zig s.size) ++ s.toList
theorem tl_len (s : ByteArray) : s.toList.length = s.size := by rw [Go.ByteArray.toList_eq, Array.length_toList]; rfl
theorem putTx_len (b : List UInt8) (s : ByteArray) : (putTx b s).length = b.length + (leb (zig s.size)).length + s.size := by simp only [putTx, List.length_append, tl_len]
set_option maxHeartbeats 1000000 in
theorem putText_ac (b : List UInt8) (s : ByteArray) (hb : b.length ≤ 140737488355000) (hs : b.length + s.size ≤ 140737488355000) :
    AC Tryd.prog noG 43 [.d (.sl 1 b.length (bD b)), .d (.c (.string s))] [] (fun v r' => v = .sl (.own 0) 1 (putTx b s).length (bD (putTx b s)) ∧ r' = [some (.tok (putTx b s).length)]) := by
  have hz := zig_nat s.size
  have hl := leb_len 9 (zig s.size) (by omega)
  refine AC_of_R (N := 11) (res := [.tmp 4]) ty_ok Tryd.call43 Tryd.func43 rfl rfl rfl (Nat.le_of_ble_eq_true rfl) ?_
  refine rn0 ?_
  refine HO_callX ty_ok [] (putInt_ac b s.size (by omega) (by omega) (by omega)) (trivial) rfl ?_
  rintro v r' ⟨rfl, rfl⟩ _
  refine rn1 (jn @tl_len @putTx_len) ?_
  exact ⟨⟨by omega, by omega⟩, rfl⟩
theorem putText_dat (b : List UInt8) (s : ByteArray) (hb : b.length ≤ 140737488355000) (hs : b.length + s.size ≤ 140737488355000) :
    AC Tryd.prog noG 43 [.d (.sl 1 b.length (bD b)), .d (.c (.string s))] [] (fun v r' => v = .d (.sl 1 (putTx b s).length (bD (putTx b s))) ∧ r' = []) :=
  AC.dat ((putText_ac b s hb hs).mono (by rintro v r' ⟨rfl, rfl⟩; rfl))
set_option maxHeartbeats 1000000 in
theorem rputInt_ac (b : List UInt8) (n : Int) (h0 : -9223372036854775808 ≤ n) (h1 : n ≤ 9223372036854775807) (hb : b.length ≤ 140737488355000) :
    AC Tryd.prog noG 49 [.d (.sl 1 b.length (bD b)), .d (.c (.int .i64 n))] [] (fun v r' => v = .sl (.own 0) 1 (b ++ leb (zig n)).length (bD (b ++ leb (zig n))) ∧ r' = [some (.tok (b ++ leb (zig n)).length)]) := by
  have hz := zig_lt h0 h1
  have hl := leb_len 9 (zig n) (by omega)
  have hw : IntKind.u64.wrap n = n % 18446744073709551616 := wrap_u64 n
  refine AC_of_R (N := 37) (res := [.tmp 4]) ty_ok Tryd.call49 Tryd.func49 rfl rfl rfl (Nat.le_of_ble_eq_true rfl) ?_
  refine rn1 @hw ?_
  refine ⟨fun hn => ⟨⟨by omega, by omega⟩, HC_loop putSt putRe (fun i => i.1 ++ leb i.2 = b ++ leb (zig n) ∧ i.2 < 18446744073709551616) (fun i => i.2) (b, zig n) ⟨rfl, hz⟩ (fun _ => rfl) ?a ?b⟩, fun hn => ⟨⟨by omega, by omega⟩, HC_loop putSt putRe (fun i => i.1 ++ leb i.2 = b ++ leb (zig n) ∧ i.2 < 18446744073709551616) (fun i => i.2) (b, zig n) ⟨rfl, hz⟩ (fun _ => rfl) ?c ?d⟩⟩
  case a | c =>
    simp only [Fit, WkL, wfSt, wfRs, wfA, wfM, wfL, wk_refl, wk_top, wk_sl, wk_nilFull, wk_nilD, wkr_refl, get_mk, ↓lk_cons, ↓reduceIte, Nat.reduceEqDiff, List.length_cons, List.length_nil, List.length_append, decide_true, Bool.and_true, and_true, true_and, Nat.reduceLT, Nat.zero_add, Nat.reduceAdd, putSt, putRe]
    refine wk_eq ?_
    congr 3
    unfold zig
    split <;> omega
  case b | d =>
    intro ⟨acc, u⟩ ⟨hp, hu⟩
    refine HC_of_R ty_ok ?_
    simp only at hp hu
    have hlen := congrArg List.length hp
    simp only [List.length_append] at hlen
    have e1 : UInt8.ofNat (((u : Int) % 128 % 256 + 128) % 256).toNat = UInt8.ofNat (u % 128 + 128) := u8_congr (by omega)
    have e2 : UInt8.ofNat ((u : Int) % 256).toNat = UInt8.ofNat u := u8_congr (by omega)
    refine rn1 (jn @putSt.eq_1 (jn @putRe.eq_1 (jn @wrap_u8 (jn @e1 @e2)))) ?_
    refine ⟨fun hc => ⟨⟨by omega, by omega⟩, (acc ++ [UInt8.ofNat (u % 128 + 128)], u / 128), ⟨?_, by simp only; omega⟩, by simp only; omega, ?_⟩, fun hc => ⟨⟨by omega, by omega⟩, ?_⟩⟩
    · rw [← hp, leb_more (u := u) (by omega)]; simp
    · simp (disch := omega) only [Fit, WkL, wfSt, wfRs, wfA, wfM, wfL, wk_refl, wk_top, wk_sl, wk_nilFull, wk_nilD, wkr_refl, get_mk, ↓lk_cons, ↓reduceIte, Nat.reduceEqDiff, List.length_cons, List.length_nil, List.length_append, decide_true, Bool.and_true, and_true, true_and, Nat.reduceLT, Nat.zero_add, Nat.reduceAdd, putSt, putRe]
      exact wk_eq (by congr 3)
    · rw [leb_one (u := u) (by omega)] at hp
      have hl2 := congrArg List.length hp
      simp only [List.length_append, List.length_cons, List.length_nil, Nat.zero_add] at hl2
      rw [← hp, ← hl2]
      exact ⟨rfl, rfl⟩
theorem rputInt_dat (b : List UInt8) (n : Int) (h0 : -9223372036854775808 ≤ n) (h1 : n ≤ 9223372036854775807) (hb : b.length ≤ 140737488355000) :
    AC Tryd.prog noG 49 [.d (.sl 1 b.length (bD b)), .d (.c (.int .i64 n))] [] (fun v r' => v = .d (.sl 1 (putI b n).length (bD (putI b n))) ∧ r' = []) :=
  AC.dat ((rputInt_ac b n h0 h1 hb).mono (by rintro v r' ⟨rfl, rfl⟩; rfl))
set_option maxHeartbeats 1000000 in
theorem rputText_ac (b : List UInt8) (s : ByteArray) (hb : b.length ≤ 140737488355000) (hs : b.length + s.size ≤ 140737488355000) :
    AC Tryd.prog noG 44 [.d (.sl 1 b.length (bD b)), .d (.c (.string s))] [] (fun v r' => v = .sl (.own 0) 1 (putTx b s).length (bD (putTx b s)) ∧ r' = [some (.tok (putTx b s).length)]) := by
  have hz := zig_nat s.size
  have hl := leb_len 9 (zig s.size) (by omega)
  refine AC_of_R (N := 11) (res := [.tmp 4]) ty_ok Tryd.call44 Tryd.func44 rfl rfl rfl (Nat.le_of_ble_eq_true rfl) ?_
  refine rn0 ?_
  refine HO_callX ty_ok [] (rputInt_ac b s.size (by omega) (by omega) (by omega)) (trivial) rfl ?_
  rintro v r' ⟨rfl, rfl⟩ _
  refine rn1 (jn @tl_len @putTx_len) ?_
  exact ⟨⟨by omega, by omega⟩, rfl⟩
theorem rputText_dat (b : List UInt8) (s : ByteArray) (hb : b.length ≤ 140737488355000) (hs : b.length + s.size ≤ 140737488355000) :
    AC Tryd.prog noG 44 [.d (.sl 1 b.length (bD b)), .d (.c (.string s))] [] (fun v r' => v = .d (.sl 1 (putTx b s).length (bD (putTx b s))) ∧ r' = []) :=
  AC.dat ((rputText_ac b s hb hs).mono (by rintro v r' ⟨rfl, rfl⟩; rfl))
end Go.Proofs.YtjpjnhljmloofaaDoor
