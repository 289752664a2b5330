/- Parts of the proof: PutText, Int, RInt, Text, RoundT, PutC, Term, PutT. -/
import Derived.Test.YtdbicadncccpoaaCJ0
set_option linter.unusedVariables false
set_option linter.unusedSimpArgs false
set_option maxRecDepth 100000
namespace Go.Proofs.Ytdbicadncccpoaa
open Go Go.ChangeShapes Go.WideShapes
theorem zig_nat (n : Nat) : zig n = 2 * n := by unfold zig; split <;> omega
def putTx (b : List UInt8) (s : ByteArray) : List UInt8 := b ++ leb (zig s.size) ++ s.toList
theorem tl_len (s : ByteArray) : s.toList.length = s.size := by rw [Go.ByteArray.toList_eq, Array.length_toList]; rfl
theorem putTx_len (b : List UInt8) (s : ByteArray) : (putTx b s).length = b.length + (leb (zig s.size)).length + s.size := by simp only [putTx, List.length_append, tl_len]
set_option maxHeartbeats 1000000 in
theorem putText_ac (b : List UInt8) (s : ByteArray) (hb : b.length ≤ 140737488355000) (hs : b.length + s.size ≤ 140737488355000) :
    AC Try.prog noG 34 [.d (.sl 1 b.length (bD b)), .d (.c (.string s))] [] (fun v r' => v = .sl (.own 0) 1 (putTx b s).length (bD (putTx b s)) ∧ r' = [some (.tok (putTx b s).length)]) := by
  have hz := zig_nat s.size
  have hl := leb_len 9 (zig s.size) (by omega)
  refine AC_of_R (N := 11) (res := [.tmp 4]) ty_ok Try.call34 Try.func34 rfl rfl rfl (Nat.le_of_ble_eq_true rfl) ?_
  refine rn0 ?_
  refine HO_callX ty_ok [] (putInt_ac b s.size (by omega) (by omega) (by omega)) (trivial) rfl ?_
  rintro v r' ⟨rfl, rfl⟩ _
  refine rn1 (jn @tl_len @putTx_len) ?_
  exact ⟨⟨by omega, by omega⟩, rfl⟩
end Go.Proofs.Ytdbicadncccpoaa

set_option linter.unusedVariables false
set_option linter.unusedSimpArgs false
set_option maxRecDepth 100000
namespace Go.Proofs.Ytdbicadncccpoaa
open Go Go.ChangeShapes Go.WideShapes
end Go.Proofs.Ytdbicadncccpoaa

set_option linter.unusedVariables false
set_option linter.unusedSimpArgs false
set_option maxRecDepth 100000
namespace Go.Proofs.Ytdbicadncccpoaa
open Go Go.ChangeShapes Go.WideShapes
end Go.Proofs.Ytdbicadncccpoaa

set_option linter.unusedVariables false
set_option linter.unusedSimpArgs false
set_option maxRecDepth 100000
namespace Go.Proofs.Ytdbicadncccpoaa
open Go Go.ChangeShapes Go.WideShapes
end Go.Proofs.Ytdbicadncccpoaa

set_option linter.unusedVariables false
set_option linter.unusedSimpArgs false
set_option maxRecDepth 100000
namespace Go.Proofs.Ytdbicadncccpoaa
open Go Go.ChangeShapes Go.WideShapes
end Go.Proofs.Ytdbicadncccpoaa

set_option linter.unusedVariables false
set_option linter.unusedSimpArgs false
set_option maxRecDepth 100000
namespace Go.Proofs.Ytdbicadncccpoaa
open Go Go.ChangeShapes Go.WideShapes
def putC (b : List UInt8) (c : Cst) : List UInt8 := if c.num then b ++ [0] ++ leb (zig c.n) else putTx (b ++ [1]) c.s
def okC (c : Cst) : Prop := -9223372036854775808 ≤ c.n ∧ c.n ≤ 9223372036854775807
theorem leb64_len {n : Int} (h0 : -9223372036854775808 ≤ n) (h1 : n ≤ 9223372036854775807) : (leb (zig n)).length ≤ 10 := leb_len 9 _ (by have := zig_lt h0 h1; omega)
theorem l1 (b : List UInt8) (x : UInt8) : (b ++ [x]).length = b.length + 1 := by simp
theorem l2 (b : List UInt8) (x : UInt8) (l : List UInt8) : (b ++ [x] ++ l).length = b.length + 1 + l.length := by simp; omega
theorem l3 (b : List UInt8) (x : UInt8) (s : ByteArray) : (putTx (b ++ [x]) s).length = b.length + 1 + (leb (zig s.size)).length + s.size := by rw [putTx_len, l1]
set_option maxHeartbeats 400000 in
theorem putC_ac (b : List UInt8) (c : Cst) (hc : okC c) (hb : b.length + c.s.size ≤ 140737488350000) : AC Try.prog noG 69 [.sl (.own 0) 1 b.length (bD b), .d (.agg (cstE c))] [some (.tok b.length)]
    (fun v r' => v = .sl (.own 1) 1 (putC b c).length (bD (putC b c)) ∧ r' = [none, some (.tok (putC b c).length)]) := by
  refine AC.fit ?_
  refine AC_of_R (N := 19) (res := [.tmp 4]) ty_ok Try.call69 Try.func69 rfl rfl rfl (Nat.le_of_ble_eq_true rfl) ?_
  obtain ⟨q, n, s⟩ := c
  obtain ⟨h0, h1⟩ := hc
  simp only at h0 h1 hb
  cases q with
  | true =>
    have e : putC b ⟨true, n, s⟩ = b ++ [0] ++ leb (zig n) := rfl
    rw [e, l2]
    refine rn1 @cstE.eq_1 ?_
    refine HC_of_HV mix ?_
    refine HV_split 4 2 (by decide) ?_ ?_
    · simp only [addAt]
      refine HV_order [] ty_ok [0, 3, 4, 1, 2, 5, 6] (by kernel_rfl) rfl _ rfl ?_
      simp only [opl_nil', opl_cons', oplC_some, List.getElem?_toArray, List.getElem?_cons_zero, List.getElem?_cons_succ]
      refine rn0 ?_
      (repeat (refine And.intro (by omega) ?_))
      have kk := putInt_ac (b ++ [0]) n h0 h1 (by simp; omega)
      rw [l1] at kk
      refine HO_callX ty_ok [] kk (trivial) rfl ?_
      rintro v r' ⟨rfl, rfl⟩ _
      refine rn1 (jn @l2 @l3) ?_
      exact fv0 [0,2] []
    · simp only [addAt]
      refine HV_order [] ty_ok [0, 3, 1, 2, 4, 5, 6] (by kernel_rfl) rfl _ rfl ?_
      simp only [opl_nil', opl_cons', oplC_some, List.getElem?_toArray, List.getElem?_cons_zero, List.getElem?_cons_succ]
      refine rn0 ?_
      (repeat (refine And.intro (by omega) ?_))
      have kk := putInt_ac (b ++ [0]) n h0 h1 (by simp; omega)
      rw [l1] at kk
      refine HO_callX ty_ok [] kk (trivial) rfl ?_
      rintro v r' ⟨rfl, rfl⟩ _
      refine rn1 (jn @l2 @l3) ?_
      exact fv0 [0,2] []
  | false =>
    have e : putC b ⟨false, n, s⟩ = putTx (b ++ [1]) s := rfl
    rw [e, l3]
    refine rn1 @cstE.eq_1 ?_
    refine HC_of_HV mix ?_
    refine HV_split 4 2 (by decide) ?_ ?_
    · simp only [addAt]
      refine HV_order [] ty_ok [0, 3, 4, 1, 2, 5, 6] (by kernel_rfl) rfl _ rfl ?_
      simp only [opl_nil', opl_cons', oplC_some, List.getElem?_toArray, List.getElem?_cons_zero, List.getElem?_cons_succ]
      refine rn0 ?_
      (repeat (refine And.intro (by omega) ?_))
      have kk := putText_ac (b ++ [1]) s (by simp; omega) (by simp; omega)
      rw [l1] at kk
      refine HO_callX ty_ok [] kk (trivial) rfl ?_
      rintro v r' ⟨rfl, rfl⟩ _
      refine rn1 (jn @l2 @l3) ?_
      exact fv0 [0,2] []
    · simp only [addAt]
      refine HV_order [] ty_ok [0, 3, 1, 2, 4, 5, 6] (by kernel_rfl) rfl _ rfl ?_
      simp only [opl_nil', opl_cons', oplC_some, List.getElem?_toArray, List.getElem?_cons_zero, List.getElem?_cons_succ]
      refine rn0 ?_
      (repeat (refine And.intro (by omega) ?_))
      have kk := putText_ac (b ++ [1]) s (by simp; omega) (by simp; omega)
      rw [l1] at kk
      refine HO_callX ty_ok [] kk (trivial) rfl ?_
      rintro v r' ⟨rfl, rfl⟩ _
      refine rn1 (jn @l2 @l3) ?_
      exact fv0 [0,2] []
end Go.Proofs.Ytdbicadncccpoaa

set_option linter.unusedVariables false
set_option linter.unusedSimpArgs false
set_option maxRecDepth 100000
namespace Go.Proofs.Ytdbicadncccpoaa
open Go Go.ChangeShapes Go.WideShapes
structure Trm where
  v : ByteArray
  c : Cst
deriving DecidableEq
end Go.Proofs.Ytdbicadncccpoaa

set_option linter.unusedVariables false
set_option linter.unusedSimpArgs false
set_option maxRecDepth 100000
namespace Go.Proofs.Ytdbicadncccpoaa
open Go Go.ChangeShapes Go.WideShapes
theorem putC_len (b : List UInt8) (c : Cst) : (putC b c).length = b.length + 1 + (leb (zig (if c.num then c.n else c.s.size))).length + (if c.num then 0 else c.s.size) := by
  unfold putC
  cases c.num with
  | true => simp only [if_true]; rw [l2]; omega
  | false => simp only [Bool.false_eq_true, if_false]; rw [l3]
theorem putC_bd {b : List UInt8} {c : Cst} (hc : okC c) (hs : c.s.size ≤ 140737488355000) : (putC b c).length ≤ b.length + 11 + c.s.size ∧ b.length < (putC b c).length := by
  rw [putC_len]
  obtain ⟨h0, h1⟩ := hc
  have e : (leb (zig (if c.num then c.n else c.s.size))).length ≤ 10 := by
    split
    · exact leb64_len h0 h1
    · exact leb64_len (by omega) (by omega)
  generalize (leb (zig (if c.num then c.n else c.s.size))).length = L at *
  split <;> omega
theorem putTx_bd (b : List UInt8) {s : ByteArray} (hs : s.size ≤ 140737488355000) : (putTx b s).length ≤ b.length + 10 + s.size := by
  have := leb64_len (n := s.size) (by omega) (by omega)
  rw [putTx_len]; omega
end Go.Proofs.Ytdbicadncccpoaa
