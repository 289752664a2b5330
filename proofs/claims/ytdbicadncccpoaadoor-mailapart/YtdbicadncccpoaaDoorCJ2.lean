/- Parts of the proof: PutInt, Same, PutText, HashObj, MacTag. -/
import Derived.Test.YtdbicadncccpoaaDoorCJ0
import Derived.Test.YtdbicadncccpoaaDoorCJ1
set_option linter.unusedVariables false
set_option linter.unusedSimpArgs false
set_option maxRecDepth 100000
namespace Go.Proofs.YtdbicadncccpoaaDoor
open Go Go.ChangeShapes Go.WideShapes
def leb (u : Nat) : List UInt8 := if u < 128 then [UInt8.ofNat u] else UInt8.ofNat (u % 128 + 128) :: leb (u / 128)
def zig (n : Int) : Nat := if n < 0 then (2 * (-(n + 1)) + 1).toNat else (2 * n).toNat
theorem leb_one {u : Nat} (h : u < 128) : leb u = [UInt8.ofNat u] := by rw [leb, if_pos h]
theorem leb_more {u : Nat} (h : ¬ u < 128) : leb u = UInt8.ofNat (u % 128 + 128) :: leb (u / 128) := by rw [leb, if_neg h]
theorem leb_len : ∀ (k u : Nat), u < 128 ^ (k + 1) → (leb u).length ≤ k + 1
  | 0, u, h => by rw [leb_one (by omega)]; simp
  | k + 1, u, h => by
    by_cases hu : u < 128
    · rw [leb_one hu]; simp
    · rw [leb_more hu]
      have := leb_len k (u / 128) (by rw [Nat.pow_succ] at h; omega)
      simp; omega
theorem zig_lt {n : Int} (h0 : -9223372036854775808 ≤ n) (h1 : n ≤ 9223372036854775807) : zig n < 18446744073709551616 := by unfold zig; split <;> omega
def putSt (i : List UInt8 × Nat) : List (Nat × AV) := [(6, .sl (.own 0) 1 i.1.length (bD i.1)), (5, .d (.c (.int .u64 i.2)))]
def putRe (i : List UInt8 × Nat) : Rs := [some (.tok i.1.length)]
set_option maxHeartbeats 1000000 in
theorem putInt_ac (b : List UInt8) (n : Int) (h0 : -9223372036854775808 ≤ n) (h1 : n ≤ 9223372036854775807) (hb : b.length ≤ 140737488355000) :
    AC Tryd.prog noG 35 [.d (.sl 1 b.length (bD b)), .d (.c (.int .i64 n))] [] (fun v r' => v = .sl (.own 0) 1 (b ++ leb (zig n)).length (bD (b ++ leb (zig n))) ∧ r' = [some (.tok (b ++ leb (zig n)).length)]) := by
  have hz := zig_lt h0 h1
  have hl := leb_len 9 (zig n) (by omega)
  have hw : IntKind.u64.wrap n = n % 18446744073709551616 := wrap_u64 n
  refine AC_of_R (N := 31) (res := [.tmp 4]) ty_ok Tryd.call35 Tryd.func35 rfl rfl rfl (Nat.le_of_ble_eq_true rfl) ?_
  refine rn1 @hw ?_
  refine ⟨fun hn => ⟨⟨by omega, by omega⟩, HC_loop putSt putRe (fun i => i.1 ++ leb i.2 = b ++ leb (zig n) ∧ i.2 < 18446744073709551616) (fun i => i.2) (b, zig n) ⟨rfl, hz⟩ (fun _ => rfl) ?_ ?_⟩, fun hn => ⟨⟨by omega, by omega⟩, HC_loop putSt putRe (fun i => i.1 ++ leb i.2 = b ++ leb (zig n) ∧ i.2 < 18446744073709551616) (fun i => i.2) (b, zig n) ⟨rfl, hz⟩ (fun _ => rfl) ?_ ?_⟩⟩
  · simp only [Fit, WkL, wfSt, wfRs, wfA, wfM, wfL, wk_refl, wk_top, wk_sl, wk_nilFull, wk_nilD, wkr_refl, get_mk, ↓lk_cons, ↓reduceIte, Nat.reduceEqDiff, List.length_cons, List.length_nil, List.length_append, decide_true, Bool.and_true, and_true, true_and, Nat.reduceLT, Nat.zero_add, Nat.reduceAdd, putSt, putRe]
    refine wk_eq ?_
    congr 3
    unfold zig
    split <;> omega
  · intro ⟨acc, u⟩ ⟨hp, hu⟩
    refine HC_of_R ty_ok ?_
    simp only at hp hu
    have hlen := congrArg List.length hp
    simp only [List.length_append] at hlen
    have e1 : UInt8.ofNat ((u : Int) % 256 % 128 + 128).toNat = UInt8.ofNat (u % 128 + 128) := u8_congr (by omega)
    have e2 : UInt8.ofNat ((u : Int) % 256).toNat = UInt8.ofNat u := u8_congr (by omega)
    refine rn1 (jn @putSt.eq_1 (jn @putRe.eq_1 (jn @wrap_u8 (jn @e1 @e2)))) ?_
    refine ⟨fun hc => ⟨⟨by omega, by omega⟩, (acc ++ [UInt8.ofNat (u % 128 + 128)], u / 128), ⟨?_, by simp only; omega⟩, by simp only; omega, ?_⟩, fun hc => ⟨⟨by omega, by omega⟩, ?_⟩⟩
    · rw [← hp, leb_more (u := u) (by omega)]; simp
    · simp (disch := omega) only [Fit, WkL, wfSt, wfRs, wfA, wfM, wfL, wk_refl, wk_top, wk_sl, wk_nilFull, wk_nilD, wkr_refl, get_mk, ↓lk_cons, ↓reduceIte, Nat.reduceEqDiff, List.length_cons, List.length_nil, List.length_append, decide_true, Bool.and_true, and_true, true_and, Nat.reduceLT, Nat.zero_add, Nat.reduceAdd, putSt, putRe]
      exact wk_eq rfl
    · rw [leb_one (u := u) (by omega)] at hp
      have hl2 := congrArg List.length hp
      simp only [List.length_append, List.length_cons, List.length_nil, Nat.zero_add] at hl2
      rw [← hp, ← hl2]
      exact ⟨rfl, rfl⟩
  · simp only [Fit, WkL, wfSt, wfRs, wfA, wfM, wfL, wk_refl, wk_top, wk_sl, wk_nilFull, wk_nilD, wkr_refl, get_mk, ↓lk_cons, ↓reduceIte, Nat.reduceEqDiff, List.length_cons, List.length_nil, List.length_append, decide_true, Bool.and_true, and_true, true_and, Nat.reduceLT, Nat.zero_add, Nat.reduceAdd, putSt, putRe]
    refine wk_eq ?_
    congr 3
    unfold zig
    split <;> omega
  · intro ⟨acc, u⟩ ⟨hp, hu⟩
    refine HC_of_R ty_ok ?_
    simp only at hp hu
    have hlen := congrArg List.length hp
    simp only [List.length_append] at hlen
    have e1 : UInt8.ofNat ((u : Int) % 256 % 128 + 128).toNat = UInt8.ofNat (u % 128 + 128) := u8_congr (by omega)
    have e2 : UInt8.ofNat ((u : Int) % 256).toNat = UInt8.ofNat u := u8_congr (by omega)
    refine rn1 (jn @putSt.eq_1 (jn @putRe.eq_1 (jn @wrap_u8 (jn @e1 @e2)))) ?_
    refine ⟨fun hc => ⟨⟨by omega, by omega⟩, (acc ++ [UInt8.ofNat (u % 128 + 128)], u / 128), ⟨?_, by simp only; omega⟩, by simp only; omega, ?_⟩, fun hc => ⟨⟨by omega, by omega⟩, ?_⟩⟩
    · rw [← hp, leb_more (u := u) (by omega)]; simp
    · simp (disch := omega) only [Fit, WkL, wfSt, wfRs, wfA, wfM, wfL, wk_refl, wk_top, wk_sl, wk_nilFull, wk_nilD, wkr_refl, get_mk, ↓lk_cons, ↓reduceIte, Nat.reduceEqDiff, List.length_cons, List.length_nil, List.length_append, decide_true, Bool.and_true, and_true, true_and, Nat.reduceLT, Nat.zero_add, Nat.reduceAdd, putSt, putRe]
      exact wk_eq rfl
    · rw [leb_one (u := u) (by omega)] at hp
      have hl2 := congrArg List.length hp
      simp only [List.length_append, List.length_cons, List.length_nil, Nat.zero_add] at hl2
      rw [← hp, ← hl2]
      exact ⟨rfl, rfl⟩
end Go.Proofs.YtdbicadncccpoaaDoor

set_option linter.unusedVariables false
set_option linter.unusedSimpArgs false
set_option maxRecDepth 100000
namespace Go.Proofs.YtdbicadncccpoaaDoor
open Go Go.ChangeShapes Go.WideShapes
set_option maxHeartbeats 1000000 in
theorem same_ac (a b : List UInt8) (ha : a.length ≤ 140737488355000) (hb : b.length ≤ 1000000000000) :
    AC Tryd.prog noG 12 [.d (.sl 1 a.length (bD a)), .d (.sl 1 b.length (bD b))] [] (fun v r' => v = .d (.c (.bool (decide (a = b)))) ∧ r' = []) := by
  refine AC_of_R (N := 10) (res := [.tmp 4]) ty_ok Tryd.call12 Tryd.func12 rfl rfl rfl (Nat.le_of_ble_eq_true rfl) ?_
  refine rn0 ?_
  have : (({ data := a.toArray } : ByteArray) = { data := b.toArray }) = (a = b) := by
    rw [ByteArray.mk.injEq]; exact propext ⟨fun h => by simpa using congrArg Array.toList h, fun h => by rw [h]⟩
  simp only [this]
def putI (b : List UInt8) (n : Int) : List UInt8 := b ++ leb (zig n)
theorem putI_len (b : List UInt8) (n : Int) : (putI b n).length = b.length + (leb (zig n)).length := by simp only [putI, List.length_append]
theorem putInt_dat (b : List UInt8) (n : Int) (h0 : -9223372036854775808 ≤ n) (h1 : n ≤ 9223372036854775807) (hb : b.length ≤ 140737488355000) :
    AC Tryd.prog noG 35 [.d (.sl 1 b.length (bD b)), .d (.c (.int .i64 n))] [] (fun v r' => v = .d (.sl 1 (putI b n).length (bD (putI b n))) ∧ r' = []) :=
  AC.dat ((putInt_ac b n h0 h1 hb).mono (by rintro v r' ⟨rfl, rfl⟩; rfl))
end Go.Proofs.YtdbicadncccpoaaDoor

set_option linter.unusedVariables false
set_option linter.unusedSimpArgs false
set_option maxRecDepth 100000
namespace Go.Proofs.YtdbicadncccpoaaDoor
open Go Go.ChangeShapes Go.WideShapes
theorem zig_nat (n : Nat) : zig n = 2 * n := by unfold zig; split <;> omega
def putTx (b : List UInt8) (s : ByteArray) : List UInt8 := b ++ leb (zig s.size) ++ s.toList
theorem tl_len (s : ByteArray) : s.toList.length = s.size := by rw [Go.ByteArray.toList_eq, Array.length_toList]; rfl
theorem putTx_len (b : List UInt8) (s : ByteArray) : (putTx b s).length = b.length + (leb (zig s.size)).length + s.size := by simp only [putTx, List.length_append, tl_len]
set_option maxHeartbeats 1000000 in
theorem putText_ac (b : List UInt8) (s : ByteArray) (hb : b.length ≤ 140737488355000) (hs : b.length + s.size ≤ 140737488355000) :
    AC Tryd.prog noG 34 [.d (.sl 1 b.length (bD b)), .d (.c (.string s))] [] (fun v r' => v = .sl (.own 0) 1 (putTx b s).length (bD (putTx b s)) ∧ r' = [some (.tok (putTx b s).length)]) := by
  have hz := zig_nat s.size
  have hl := leb_len 9 (zig s.size) (by omega)
  refine AC_of_R (N := 11) (res := [.tmp 4]) ty_ok Tryd.call34 Tryd.func34 rfl rfl rfl (Nat.le_of_ble_eq_true rfl) ?_
  refine rn0 ?_
  refine HO_callX ty_ok [] (putInt_ac b s.size (by omega) (by omega) (by omega)) (trivial) rfl ?_
  rintro v r' ⟨rfl, rfl⟩ _
  refine rn1 (jn @tl_len @putTx_len) ?_
  exact ⟨⟨by omega, by omega⟩, rfl⟩
theorem putText_dat (b : List UInt8) (s : ByteArray) (hb : b.length ≤ 140737488355000) (hs : b.length + s.size ≤ 140737488355000) :
    AC Tryd.prog noG 34 [.d (.sl 1 b.length (bD b)), .d (.c (.string s))] [] (fun v r' => v = .d (.sl 1 (putTx b s).length (bD (putTx b s))) ∧ r' = []) :=
  AC.dat ((putText_ac b s hb hs).mono (by rintro v r' ⟨rfl, rfl⟩; rfl))
set_option maxHeartbeats 1000000 in
theorem rputInt_ac (b : List UInt8) (n : Int) (h0 : -9223372036854775808 ≤ n) (h1 : n ≤ 9223372036854775807) (hb : b.length ≤ 140737488355000) :
    AC Tryd.prog noG 47 [.d (.sl 1 b.length (bD b)), .d (.c (.int .i64 n))] [] (fun v r' => v = .sl (.own 0) 1 (b ++ leb (zig n)).length (bD (b ++ leb (zig n))) ∧ r' = [some (.tok (b ++ leb (zig n)).length)]) := by
  have hz := zig_lt h0 h1
  have hl := leb_len 9 (zig n) (by omega)
  have hw : IntKind.u64.wrap n = n % 18446744073709551616 := wrap_u64 n
  refine AC_of_R (N := 37) (res := [.tmp 4]) ty_ok Tryd.call47 Tryd.func47 rfl rfl rfl (Nat.le_of_ble_eq_true rfl) ?_
  refine rn1 @hw ?_
  refine ⟨fun hn => ⟨⟨by omega, by omega⟩, HC_loop putSt putRe (fun i => i.1 ++ leb i.2 = b ++ leb (zig n) ∧ i.2 < 18446744073709551616) (fun i => i.2) (b, zig n) ⟨rfl, hz⟩ (fun _ => rfl) ?a ?b⟩, fun hn => ⟨⟨by omega, by omega⟩, HC_loop putSt putRe (fun i => i.1 ++ leb i.2 = b ++ leb (zig n) ∧ i.2 < 18446744073709551616) (fun i => i.2) (b, zig n) ⟨rfl, hz⟩ (fun _ => rfl) ?c ?d⟩⟩
  case a | c =>
    simp only [Fit, WkL, wfSt, wfRs, wfA, wfM, wfL, wk_refl, wk_top, wk_sl, wk_nilFull, wk_nilD, wkr_refl, get_mk, ↓lk_cons, ↓reduceIte, Nat.reduceEqDiff, List.length_cons, List.length_nil, List.length_append, decide_true, Bool.and_true, and_true, true_and, Nat.reduceLT, Nat.zero_add, Nat.reduceAdd, putSt, putRe]
    refine wk_eq ?_
    congr 3
    unfold zig
    split <;> omega
  case b | d =>
    intro ⟨acc, u⟩ ⟨hp, hu⟩
    refine HC_of_R ty_ok ?_
    simp only at hp hu
    have hlen := congrArg List.length hp
    simp only [List.length_append] at hlen
    have e1 : UInt8.ofNat (((u : Int) % 128 % 256 + 128) % 256).toNat = UInt8.ofNat (u % 128 + 128) := u8_congr (by omega)
    have e2 : UInt8.ofNat ((u : Int) % 256).toNat = UInt8.ofNat u := u8_congr (by omega)
    refine rn1 (jn @putSt.eq_1 (jn @putRe.eq_1 (jn @wrap_u8 (jn @e1 @e2)))) ?_
    refine ⟨fun hc => ⟨⟨by omega, by omega⟩, (acc ++ [UInt8.ofNat (u % 128 + 128)], u / 128), ⟨?_, by simp only; omega⟩, by simp only; omega, ?_⟩, fun hc => ⟨⟨by omega, by omega⟩, ?_⟩⟩
    · rw [← hp, leb_more (u := u) (by omega)]; simp
    · simp (disch := omega) only [Fit, WkL, wfSt, wfRs, wfA, wfM, wfL, wk_refl, wk_top, wk_sl, wk_nilFull, wk_nilD, wkr_refl, get_mk, ↓lk_cons, ↓reduceIte, Nat.reduceEqDiff, List.length_cons, List.length_nil, List.length_append, decide_true, Bool.and_true, and_true, true_and, Nat.reduceLT, Nat.zero_add, Nat.reduceAdd, putSt, putRe]
      exact wk_eq (by congr 3)
    · rw [leb_one (u := u) (by omega)] at hp
      have hl2 := congrArg List.length hp
      simp only [List.length_append, List.length_cons, List.length_nil, Nat.zero_add] at hl2
      rw [← hp, ← hl2]
      exact ⟨rfl, rfl⟩
theorem rputInt_dat (b : List UInt8) (n : Int) (h0 : -9223372036854775808 ≤ n) (h1 : n ≤ 9223372036854775807) (hb : b.length ≤ 140737488355000) :
    AC Tryd.prog noG 47 [.d (.sl 1 b.length (bD b)), .d (.c (.int .i64 n))] [] (fun v r' => v = .d (.sl 1 (putI b n).length (bD (putI b n))) ∧ r' = []) :=
  AC.dat ((rputInt_ac b n h0 h1 hb).mono (by rintro v r' ⟨rfl, rfl⟩; rfl))
set_option maxHeartbeats 1000000 in
theorem rputText_ac (b : List UInt8) (s : ByteArray) (hb : b.length ≤ 140737488355000) (hs : b.length + s.size ≤ 140737488355000) :
    AC Tryd.prog noG 46 [.d (.sl 1 b.length (bD b)), .d (.c (.string s))] [] (fun v r' => v = .sl (.own 0) 1 (putTx b s).length (bD (putTx b s)) ∧ r' = [some (.tok (putTx b s).length)]) := by
  have hz := zig_nat s.size
  have hl := leb_len 9 (zig s.size) (by omega)
  refine AC_of_R (N := 11) (res := [.tmp 4]) ty_ok Tryd.call46 Tryd.func46 rfl rfl rfl (Nat.le_of_ble_eq_true rfl) ?_
  refine rn0 ?_
  refine HO_callX ty_ok [] (rputInt_ac b s.size (by omega) (by omega) (by omega)) (trivial) rfl ?_
  rintro v r' ⟨rfl, rfl⟩ _
  refine rn1 (jn @tl_len @putTx_len) ?_
  exact ⟨⟨by omega, by omega⟩, rfl⟩
theorem rputText_dat (b : List UInt8) (s : ByteArray) (hb : b.length ≤ 140737488355000) (hs : b.length + s.size ≤ 140737488355000) :
    AC Tryd.prog noG 46 [.d (.sl 1 b.length (bD b)), .d (.c (.string s))] [] (fun v r' => v = .d (.sl 1 (putTx b s).length (bD (putTx b s))) ∧ r' = []) :=
  AC.dat ((rputText_ac b s hb hs).mono (by rintro v r' ⟨rfl, rfl⟩; rfl))
end Go.Proofs.YtdbicadncccpoaaDoor

set_option linter.unusedVariables false
set_option linter.unusedSimpArgs false
set_option maxRecDepth 100000
namespace Go.Proofs.YtdbicadncccpoaaDoor
open Go Go.ChangeShapes Go.WideShapes
def adoSt (i : List Int × List UInt8) : List (Nat × AV) := [(0, .ptr 0 0)]
def adoRe (X : List UInt8) (n : Int) (m : Nat) (i : List Int × List UInt8) : Rs := [some (.obj (wA i.1 ++ [.d (.sl 1 i.2.length (bD i.2)), .d (.c (.int .i64 n)), .d (.c (.bool true))])), some (.tok m), some (.obj (bA X))]
set_option maxHeartbeats 400000 in
theorem addO_ac (s : List Int) (rest X b : List UInt8) (hX : X.take b.length = b) (hb0 : 0 < b.length) (n : Int) (hs : s.length = 8) (hn : 0 ≤ n ∧ n + b.length ≤ 140737488355000) (hr : rest.length + b.length ≤ 140737488355000) :
    AC Tryd.prog noG 86 [.ptr 0 0, .osl 2 0 1 b.length] [some (.obj (hashC s rest n 1)), some (.tok rest.length), some (.obj (bA X))]
      (fun v r' => v = .tup [] ∧ r' = [some (.obj (hashC (blkAll s (rest ++ b)) (tailB (rest ++ b)) (n + b.length) 3)), none, some (.obj (bA X)), some (.tok (tailB (rest ++ b)).length)]) := by
  refine AC.fit ?_
  obtain ⟨q0, q1, q2, q3, q4, q5, q6, q7, rfl⟩ := len8 hs
  refine AC_of_R (N := 65) (res := []) ty_ok Tryd.call86 Tryd.func86 rfl rfl rfl (Nat.le_of_ble_eq_true rfl) ?_
  have hXd : allD ((bA X).take b.length) = some (bD b) := by rw [bA, ← List.map_take, bD_take, hX]; exact allD_map _
  refine rn1 (jn @hashC.eq_1 (jn @wA_cons (jn @wA_nil (jn @hXd @hb0)))) ?_
  refine ⟨⟨by omega, by omega⟩, HC_loopR adoSt (adoRe X (n + b.length) (rest.length + b.length)) (fun i => i.1.length = 8 ∧ i.2.length ≤ rest.length + b.length ∧ blkAll i.1 i.2 = blkAll [q0, q1, q2, q3, q4, q5, q6, q7] (rest ++ b) ∧ tailB i.2 = tailB (rest ++ b)) (fun i => i.2.length) ([q0, q1, q2, q3, q4, q5, q6, q7], rest ++ b) [0, 1, 2] [] ⟨rfl, by simp, rfl, rfl⟩ ?_ ?_⟩
  · exact ft1 (jn @adoSt.eq_1 (jn @adoRe.eq_1 (jn @wA_cons (jn @wA_nil @bA_wf))))
  · intro ⟨s, x⟩ ⟨hs, hx, hb1, hb2⟩
    simp only at hs hx hb1 hb2
    refine HC_of_R ty_ok ?_
    obtain ⟨p0, p1, p2, p3, p4, p5, p6, p7, rfl⟩ := len8 hs
    by_cases h64 : 64 ≤ x.length
    · have hi : (64 : Int) ≤ x.length := by omega
      refine rn1 (jn @adoSt.eq_1 (jn @adoRe.eq_1 (jn @wA_cons (jn @wA_nil @hi)))) ?_
      refine HC_plan [] ty_ok mix (by kernel_rfl) ?_
      refine rn0 ?_
      refine HO_pureA ty_ok (block_ac [p0, p1, p2, p3, p4, p5, p6, p7] x rfl h64 (by omega)) ?_
      have hbl := blk_len [p0, p1, p2, p3, p4, p5, p6, p7] x rfl
      have hbb : blkAll (blk [p0, p1, p2, p3, p4, p5, p6, p7] x) (x.drop 64) = blkAll [q0, q1, q2, q3, q4, q5, q6, q7] (rest ++ b) := by rw [← hb1, blkAll.eq_def [p0, p1, p2, p3, p4, p5, p6, p7] x, if_pos h64]
      have htt : tailB (x.drop 64) = tailB (rest ++ b) := by rw [← hb2, tailB.eq_def x, if_pos h64]
      generalize blk [p0, p1, p2, p3, p4, p5, p6, p7] x = s2 at *
      obtain ⟨o0, o1, o2, o3, o4, o5, o6, o7, rfl⟩ := len8 hbl
      have hwd : wD [o0, o1, o2, o3, o4, o5, o6, o7] = [.c (.int .u32 o0), .c (.int .u32 o1), .c (.int .u32 o2), .c (.int .u32 o3), .c (.int .u32 o4), .c (.int .u32 o5), .c (.int .u32 o6), .c (.int .u32 o7)] := rfl
      refine rn1 (jn @hwd @hi) ?_
      refine ⟨([o0, o1, o2, o3, o4, o5, o6, o7], x.drop 64), ⟨rfl, by simp only [List.length_drop]; omega, hbb, htt⟩, by simp only [List.length_drop]; omega, [0, 1, 2], [], ?_⟩
      exact ft1 (jn @wA_cons (jn @wA_nil (jn @bA_wf @List.length_drop.{0})))
    · have hi : ¬ (64 : Int) ≤ x.length := by omega
      refine rn1 (jn @adoSt.eq_1 (jn @adoRe.eq_1 (jn @wA_cons (jn @wA_nil @hi)))) ?_
      rw [blkAll.eq_def, if_neg h64] at hb1
      rw [tailB.eq_def, if_neg h64] at hb2
      rw [← hb1, ← hb2]
      refine ⟨⟨by omega, by omega⟩, ?_⟩
      exact fv1 [0,1,2,3] [] (jn @bA_wf @wA_wf)
theorem bA_get (l : List UInt8) (o : Nat) (h : o < l.length) : (bA l)[o]? = some (.d (.c (.int .u8 ((l.getD o 0).toNat : Int)))) := by
  rw [bA, bD, List.getElem?_map, List.getElem?_map, List.getElem?_eq_getElem h, List.getD_eq_getElem?_getD, List.getElem?_eq_getElem h]; rfl
theorem hAddO_ac (x X b : List UInt8) (hX : X.take b.length = b) (hb0 : 0 < b.length) (h : x.length + b.length ≤ 140737488355000) : AC Tryd.prog noG 86 [.ptr 0 0, .osl 2 0 1 b.length] (hRs x ++ [some (Res.obj (bA X))])
    (fun v r' => v = .tup [] ∧ r' = [some (.obj (hObj (x ++ b) 3)), none, some (.obj (bA X)), some (.tok (tailB (x ++ b)).length)]) := by
  have hl := tailB_len x
  refine (addO_ac (blkAll firstL x) (tailB x) X b hX hb0 x.length (blkAll_len _ _ rfl) (by omega) (by omega)).mono fun v r' ⟨h1, h2⟩ => ⟨h1, ?_⟩
  rw [h2, hObj, blkAll_app, tailB_app, List.length_append]; rfl
theorem ren_bA (g : Nat → Nat) (l : List UInt8) : renL g (bA l) = bA l := renL_map_d g _
theorem hRsO_wf (x X : List UInt8) : wfRs (hRs x ++ [some (Res.obj (bA X))]).length (hRs x ++ [some (Res.obj (bA X))]) = true := by
  show (wfL 3 (hObj x 1) && (wfL 3 (bA X) && true)) = true
  rw [wf_hObj _ _ _ (by decide), bA_wf]; rfl
theorem hRsO_hand (x X : List UInt8) (rc : Rs) (i j k : Nat) (hi : rc[i]? = some (some (.obj (hObj x j)))) (hj : rc[j]? = some (some (.tok (tailB x).length))) (hk : rc[k]? = some (some (.obj (bA X)))) : HandOK (nm [i, j, k] rc.length) rc (hRs x ++ [some (Res.obj (bA X))]) [i, j, k] := by
  refine ⟨fun y h => ?_, fun y h => ?_, fun y h => ?_, trivial⟩
  · injection h with h; subst h
    rw [hi, renRes, ren_hObj]; rfl
  · injection h with h; subst h
    rw [hj]; rfl
  · injection h with h; subst h
    rw [hk, renRes, ren_bA]
end Go.Proofs.YtdbicadncccpoaaDoor

set_option linter.unusedVariables false
set_option linter.unusedSimpArgs false
set_option maxRecDepth 100000
namespace Go.Proofs.YtdbicadncccpoaaDoor
open Go Go.ChangeShapes Go.WideShapes
def mtx (s : ByteArray) (b : List UInt8) : List UInt8 := putTx [] s ++ b
theorem leb_le10 (n : Nat) (h : n ≤ 140737488355328) : (leb (zig n)).length ≤ 10 := leb_len 9 (zig n) (by have := zig_nat n; omega)
theorem mtx_len (s : ByteArray) (b : List UInt8) (hs : s.size ≤ 140737488354000) : (mtx s b).length ≤ s.size + b.length + 10 := by
  have := leb_le10 s.size (by omega)
  rw [mtx, List.length_append, putTx_len, List.length_nil]; omega
set_option maxHeartbeats 400000 in
theorem mText_ac (s : ByteArray) (b : List UInt8) (h : s.size + b.length ≤ 140737488354000) :
    AC Tryd.prog noG 88 [.d (.c (.string s)), .d (.sl 1 b.length (bD b))] [] (fun v r' => v = .d (.sl 1 (mtx s b).length (bD (mtx s b))) ∧ r' = []) := by
  refine AC.dat ?_
  refine AC_of_R (N := 9) (res := [.tmp 4]) ty_ok Tryd.call88 Tryd.func88 rfl rfl rfl (Nat.le_of_ble_eq_true rfl) ?_
  refine rn0 ?_
  refine HO_callX ty_ok [] (putText_ac [] s (by simp) (by simp; omega)) (trivial) rfl ?_
  rintro v r' ⟨rfl, rfl⟩ _
  have h2 := leb_le10 s.size (by omega)
  have h1 : (putTx [] s).length ≤ s.size + 10 := by rw [putTx_len, List.length_nil]; omega
  refine rn0 ?_
  first | (done) | (exact ⟨⟨by omega, by omega⟩, by rw [mtx, List.length_append]⟩)
set_option maxHeartbeats 400000 in
theorem rText_ac (s : ByteArray) (b : List UInt8) (h : s.size + b.length ≤ 140737488354000) :
    AC Tryd.prog noG 92 [.d (.c (.string s)), .d (.sl 1 b.length (bD b))] [] (fun v r' => v = .d (.sl 1 (mtx s b).length (bD (mtx s b))) ∧ r' = []) := by
  refine AC.dat ?_
  refine AC_of_R (N := 9) (res := [.tmp 4]) ty_ok Tryd.call92 Tryd.func92 rfl rfl rfl (Nat.le_of_ble_eq_true rfl) ?_
  refine rn0 ?_
  refine HO_callX ty_ok [] (rputText_ac [] s (by simp) (by simp; omega)) (trivial) rfl ?_
  rintro v r' ⟨rfl, rfl⟩ _
  have h2 := leb_le10 s.size (by omega)
  have h1 : (putTx [] s).length ≤ s.size + 10 := by rw [putTx_len, List.length_nil]; omega
  refine rn0 ?_
  first | (done) | (exact ⟨⟨by omega, by omega⟩, by rw [mtx, List.length_append]⟩)
def xb (c : Int) (x : UInt8) : UInt8 := b8 (ibits .xor .u8 x.toNat c)
theorem xb_prog (x : UInt8) (c : Int) : ibits .xor .u8 (x.toNat : Int) c = ((xb c x).toNat : Int) := by
  have h1 : ibits .xor .u8 (x.toNat : Int) c = IntKind.u8.wrap ((BitVec.ofInt 8 (x.toNat : Int) ^^^ BitVec.ofInt 8 c).toNat : Int) := rfl
  rw [xb, ← b8_wrap, h1, wrap_u8, wrap_u8]; omega
def mpT (f : UInt8 → UInt8) (l : List UInt8) (i : Nat) : List UInt8 := (l.take i).map f ++ l.drop i
theorem mpT_len (f : UInt8 → UInt8) (l : List UInt8) (i : Nat) : (mpT f l i).length = l.length := by
  unfold mpT; rw [List.length_append, List.length_map, List.length_take, List.length_drop]; omega
theorem mpT_get (f : UInt8 → UInt8) (l : List UInt8) (i : Nat) (h : i < l.length) : (mpT f l i).getD i 0 = l.getD i 0 := by
  rw [List.getD_eq_getElem?_getD]
  unfold mpT
  rw [List.getElem?_append_right (by simp; omega), List.length_map, List.length_take, Nat.min_eq_left (by omega), Nat.sub_self, List.getElem?_drop, List.getD_eq_getElem?_getD]; rfl
theorem mpT_set (f : UInt8 → UInt8) (l : List UInt8) (i : Nat) (h : i < l.length) : (mpT f l i).set i (f (l.getD i 0)) = mpT f l (i + 1) := by
  unfold mpT
  rw [List.set_append_right _ _ (by simp; omega), List.length_map, List.length_take, Nat.min_eq_left (by omega), Nat.sub_self, List.drop_eq_getElem_cons h, List.set_cons_zero, List.take_succ_eq_append_getElem h, List.map_append, List.append_assoc, List.getD_eq_getElem?_getD, List.getElem?_eq_getElem h]; rfl
theorem mpT_all (f : UInt8 → UInt8) (l : List UInt8) (i : Nat) (h : l.length ≤ i) : mpT f l i = l.map f := by
  unfold mpT; rw [List.take_of_length_le h, List.drop_of_length_le h, List.append_nil]
theorem mpT_zero (f : UInt8 → UInt8) (l : List UInt8) : mpT f l 0 = l := by simp [mpT]
def pad64 (k : List UInt8) : List UInt8 := k ++ List.replicate (64 - k.length) 0
def padK (k : List UInt8) : List UInt8 := pad64 (if 64 < k.length then sha k else k)
theorem pad64_len (k : List UInt8) (h : k.length ≤ 64) : (pad64 k).length = 64 := by
  rw [pad64, List.length_append, List.length_replicate]; omega
theorem padK_len (k : List UInt8) : (padK k).length = 64 := by
  unfold padK; split
  · exact pad64_len _ (by rw [sha_len]; decide)
  · exact pad64_len _ (by omega)
def tagS (key : List UInt8) (s : ByteArray) (b : List UInt8) : List UInt8 := sha ((padK key).map (xb 92) ++ sha ((padK key).map (xb 54) ++ mtx s b))
theorem tagS_len (key : List UInt8) (s : ByteArray) (b : List UInt8) : (tagS key s b).length = 32 := sha_len _
end Go.Proofs.YtdbicadncccpoaaDoor
