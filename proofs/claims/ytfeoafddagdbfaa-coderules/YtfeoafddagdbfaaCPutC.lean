import Derived.Test.YtfeoafddagdbfaaCFct
import Derived.Test.YtfeoafddagdbfaaCPutText
set_option linter.unusedVariables false
set_option linter.unusedSimpArgs false
set_option maxRecDepth 100000
namespace Go.Proofs.Ytfeoafddagdbfaa
open Go Go.ChangeShapes Go.WideShapes
def putC (b : List UInt8) (c : Cst) : List UInt8 := if c.num then b ++ [0] ++ leb (zig c.n) else putTx (b ++ [1]) c.s
def okC (c : Cst) : Prop := -9223372036854775808 ≤ c.n ∧ c.n ≤ 9223372036854775807
theorem leb64_len {n : Int} (h0 : -9223372036854775808 ≤ n) (h1 : n ≤ 9223372036854775807) : (leb (zig n)).length ≤ 10 := leb_len 9 _ (by have := zig_lt h0 h1; omega)
theorem l1 (b : List UInt8) (x : UInt8) : (b ++ [x]).length = b.length + 1 := by simp
theorem l2 (b : List UInt8) (x : UInt8) (l : List UInt8) : (b ++ [x] ++ l).length = b.length + 1 + l.length := by simp; omega
theorem l3 (b : List UInt8) (x : UInt8) (s : ByteArray) : (putTx (b ++ [x]) s).length = b.length + 1 + (leb (zig s.size)).length + s.size := by rw [putTx_len, l1]
set_option maxHeartbeats 400000 in
theorem putC_ac (b : List UInt8) (c : Cst) (hc : okC c) (hb : b.length + c.s.size ≤ 140737488350000) : AC Try.prog noG 45 [.sl (.own 0) 1 b.length (bD b), .d (.agg (cstE c))] [some (.tok b.length)]
    (fun v r' => v = .sl (.own 1) 1 (putC b c).length (bD (putC b c)) ∧ r' = [none, some (.tok (putC b c).length)]) := by
  refine AC.fit ?_
  refine AC_of_R (N := 19) (res := [.tmp 4]) ty_ok Try.call45 Try.func45 rfl rfl rfl (Nat.le_of_ble_eq_true rfl) ?_
  obtain ⟨q, n, s⟩ := c
  obtain ⟨h0, h1⟩ := hc
  simp only at h0 h1 hb
  cases q with
  | true =>
    have e : putC b ⟨true, n, s⟩ = b ++ [0] ++ leb (zig n) := rfl
    rw [e, l2]
    refine rn1 @cstE.eq_1 ?_
    refine HC_of_HV mix ?_
    refine HV_split 4 2 (by decide) ?_ ?_
    · simp only [addAt]
      refine HV_order [] ty_ok [0, 3, 4, 1, 2, 5, 6] (by kernel_rfl) rfl _ rfl ?_
      simp only [opl_nil', opl_cons', oplC_some, List.getElem?_toArray, List.getElem?_cons_zero, List.getElem?_cons_succ]
      refine rn0 ?_
      (repeat (refine And.intro (by omega) ?_))
      have kk := putInt_ac (b ++ [0]) n h0 h1 (by simp; omega)
      rw [l1] at kk
      refine HO_callX ty_ok [] kk (trivial) rfl ?_
      rintro v r' ⟨rfl, rfl⟩ _
      refine rn1 (jn @l2 @l3) ?_
      exact fv0 [0,2] []
    · simp only [addAt]
      refine HV_order [] ty_ok [0, 3, 1, 2, 4, 5, 6] (by kernel_rfl) rfl _ rfl ?_
      simp only [opl_nil', opl_cons', oplC_some, List.getElem?_toArray, List.getElem?_cons_zero, List.getElem?_cons_succ]
      refine rn0 ?_
      (repeat (refine And.intro (by omega) ?_))
      have kk := putInt_ac (b ++ [0]) n h0 h1 (by simp; omega)
      rw [l1] at kk
      refine HO_callX ty_ok [] kk (trivial) rfl ?_
      rintro v r' ⟨rfl, rfl⟩ _
      refine rn1 (jn @l2 @l3) ?_
      exact fv0 [0,2] []
  | false =>
    have e : putC b ⟨false, n, s⟩ = putTx (b ++ [1]) s := rfl
    rw [e, l3]
    refine rn1 @cstE.eq_1 ?_
    refine HC_of_HV mix ?_
    refine HV_split 4 2 (by decide) ?_ ?_
    · simp only [addAt]
      refine HV_order [] ty_ok [0, 3, 4, 1, 2, 5, 6] (by kernel_rfl) rfl _ rfl ?_
      simp only [opl_nil', opl_cons', oplC_some, List.getElem?_toArray, List.getElem?_cons_zero, List.getElem?_cons_succ]
      refine rn0 ?_
      (repeat (refine And.intro (by omega) ?_))
      have kk := putText_ac (b ++ [1]) s (by simp; omega) (by simp; omega)
      rw [l1] at kk
      refine HO_callX ty_ok [] kk (trivial) rfl ?_
      rintro v r' ⟨rfl, rfl⟩ _
      refine rn1 (jn @l2 @l3) ?_
      exact fv0 [0,2] []
    · simp only [addAt]
      refine HV_order [] ty_ok [0, 3, 1, 2, 4, 5, 6] (by kernel_rfl) rfl _ rfl ?_
      simp only [opl_nil', opl_cons', oplC_some, List.getElem?_toArray, List.getElem?_cons_zero, List.getElem?_cons_succ]
      refine rn0 ?_
      (repeat (refine And.intro (by omega) ?_))
      have kk := putText_ac (b ++ [1]) s (by simp; omega) (by simp; omega)
      rw [l1] at kk
      refine HO_callX ty_ok [] kk (trivial) rfl ?_
      rintro v r' ⟨rfl, rfl⟩ _
      refine rn1 (jn @l2 @l3) ?_
      exact fv0 [0,2] []
set_option maxHeartbeats 400000 in
theorem rputC_ac (b : List UInt8) (c : Cst) (hc : okC c) (hb : b.length + c.s.size ≤ 140737488350000) : AC Try.prog noG 49 [.sl (.own 0) 1 b.length (bD b), .d (.agg (cstE c))] [some (.tok b.length)]
    (fun v r' => v = .sl (.own 1) 1 (putC b c).length (bD (putC b c)) ∧ r' = [none, some (.tok (putC b c).length)]) := by
  refine AC.fit ?_
  refine AC_of_R (N := 19) (res := [.tmp 4]) ty_ok Try.call49 Try.func49 rfl rfl rfl (Nat.le_of_ble_eq_true rfl) ?_
  obtain ⟨q, n, s⟩ := c
  obtain ⟨h0, h1⟩ := hc
  simp only at h0 h1 hb
  cases q with
  | true =>
    have e : putC b ⟨true, n, s⟩ = b ++ [0] ++ leb (zig n) := rfl
    rw [e, l2]
    refine rn1 @cstE.eq_1 ?_
    refine HC_of_HV mix ?_
    refine HV_split 4 2 (by decide) ?_ ?_
    · simp only [addAt]
      refine HV_order [] ty_ok [0, 3, 4, 1, 2, 5, 6] (by kernel_rfl) rfl _ rfl ?_
      simp only [opl_nil', opl_cons', oplC_some, List.getElem?_toArray, List.getElem?_cons_zero, List.getElem?_cons_succ]
      refine rn0 ?_
      (repeat (refine And.intro (by omega) ?_))
      have kk := rputInt_ac (b ++ [0]) n h0 h1 (by simp; omega)
      rw [l1] at kk
      refine HO_callX ty_ok [] kk (trivial) rfl ?_
      rintro v r' ⟨rfl, rfl⟩ _
      refine rn1 (jn @l2 @l3) ?_
      exact fv0 [0,2] []
    · simp only [addAt]
      refine HV_order [] ty_ok [0, 3, 1, 2, 4, 5, 6] (by kernel_rfl) rfl _ rfl ?_
      simp only [opl_nil', opl_cons', oplC_some, List.getElem?_toArray, List.getElem?_cons_zero, List.getElem?_cons_succ]
      refine rn0 ?_
      (repeat (refine And.intro (by omega) ?_))
      have kk := rputInt_ac (b ++ [0]) n h0 h1 (by simp; omega)
      rw [l1] at kk
      refine HO_callX ty_ok [] kk (trivial) rfl ?_
      rintro v r' ⟨rfl, rfl⟩ _
      refine rn1 (jn @l2 @l3) ?_
      exact fv0 [0,2] []
  | false =>
    have e : putC b ⟨false, n, s⟩ = putTx (b ++ [1]) s := rfl
    rw [e, l3]
    refine rn1 @cstE.eq_1 ?_
    refine HC_of_HV mix ?_
    refine HV_split 4 2 (by decide) ?_ ?_
    · simp only [addAt]
      refine HV_order [] ty_ok [0, 3, 4, 1, 2, 5, 6] (by kernel_rfl) rfl _ rfl ?_
      simp only [opl_nil', opl_cons', oplC_some, List.getElem?_toArray, List.getElem?_cons_zero, List.getElem?_cons_succ]
      refine rn0 ?_
      (repeat (refine And.intro (by omega) ?_))
      have kk := rputText_ac (b ++ [1]) s (by simp; omega) (by simp; omega)
      rw [l1] at kk
      refine HO_callX ty_ok [] kk (trivial) rfl ?_
      rintro v r' ⟨rfl, rfl⟩ _
      refine rn1 (jn @l2 @l3) ?_
      exact fv0 [0,2] []
    · simp only [addAt]
      refine HV_order [] ty_ok [0, 3, 1, 2, 4, 5, 6] (by kernel_rfl) rfl _ rfl ?_
      simp only [opl_nil', opl_cons', oplC_some, List.getElem?_toArray, List.getElem?_cons_zero, List.getElem?_cons_succ]
      refine rn0 ?_
      (repeat (refine And.intro (by omega) ?_))
      have kk := rputText_ac (b ++ [1]) s (by simp; omega) (by simp; omega)
      rw [l1] at kk
      refine HO_callX ty_ok [] kk (trivial) rfl ?_
      rintro v r' ⟨rfl, rfl⟩ _
      refine rn1 (jn @l2 @l3) ?_
      exact fv0 [0,2] []
end Go.Proofs.Ytfeoafddagdbfaa
