import Derived.Test.YtfeoafddagdbfaaCPutC
import Derived.Test.YtfeoafddagdbfaaCTerm
set_option linter.unusedVariables false
set_option linter.unusedSimpArgs false
set_option maxRecDepth 100000
namespace Go.Proofs.Ytfeoafddagdbfaa
open Go Go.ChangeShapes Go.WideShapes
def putT (b : List UInt8) (t : Trm) : List UInt8 := if t = zT then b ++ [0] else if t.v = ⟨#[]⟩ then putC (b ++ [2]) t.c else putTx (b ++ [1]) t.v
theorem putC_len (b : List UInt8) (c : Cst) : (putC b c).length = b.length + 1 + (leb (zig (if c.num then c.n else c.s.size))).length + (if c.num then 0 else c.s.size) := by
  unfold putC
  cases c.num with
  | true => simp only [if_true]; rw [l2]; omega
  | false => simp only [Bool.false_eq_true, if_false]; rw [l3]
theorem putC_bd {b : List UInt8} {c : Cst} (hc : okC c) (hs : c.s.size ≤ 140737488355000) : (putC b c).length ≤ b.length + 11 + c.s.size ∧ b.length < (putC b c).length := by
  rw [putC_len]
  obtain ⟨h0, h1⟩ := hc
  have e : (leb (zig (if c.num then c.n else c.s.size))).length ≤ 10 := by
    split
    · exact leb64_len h0 h1
    · exact leb64_len (by omega) (by omega)
  generalize (leb (zig (if c.num then c.n else c.s.size))).length = L at *
  split <;> omega
theorem putTx_bd (b : List UInt8) {s : ByteArray} (hs : s.size ≤ 140737488355000) : (putTx b s).length ≤ b.length + 10 + s.size := by
  have := leb64_len (n := s.size) (by omega) (by omega)
  rw [putTx_len]; omega
theorem putT_bd {b : List UInt8} {t : Trm} (hc : okC t.c) (hs : t.c.s.size + t.v.size ≤ 140737488350000) : (putT b t).length ≤ b.length + 12 + t.c.s.size + t.v.size := by
  unfold putT
  split
  · rw [l1]; omega
  · split
    · have := (putC_bd (b := b ++ [2]) hc (by omega)).1
      rw [l1] at this; omega
    · have := putTx_bd (b ++ [1]) (s := t.v) (by omega)
      rw [l1] at this; omega
set_option maxHeartbeats 400000 in
theorem putT_ac (b : List UInt8) (t : Trm) (hc : okC t.c) (hb : b.length + t.c.s.size + t.v.size ≤ 140737488340000) : AC Try.prog noG 35 [.sl (.own 0) 1 b.length (bD b), .d (.agg (trmE t))] [some (.tok b.length)]
    (fun v r' => v = .sl (.own 1) 1 (putT b t).length (bD (putT b t)) ∧ r' = [none, some (.tok (putT b t).length)]) := by
  refine AC.fit ?_
  refine AC_of_R (N := 28) (res := [.tmp 4]) ty_ok Try.call35 Try.func35 rfl rfl rfl (Nat.le_of_ble_eq_true rfl) ?_
  have kz := zcD t.c
  have hz := rnone_ac t
  by_cases hv : t.v = ⟨#[]⟩
  · rw [ztD hv] at hz
    by_cases h : t.c = zC
    · have e : putT b t = b ++ [0] := by unfold putT; rw [if_pos (of_decide_eq_true ((ztD hv).trans (decide_eq_true h)))]
      rw [decide_eq_true h] at kz hz
      rw [e, l1]
      refine rn1 (jn @trmE.eq_1 (jn @hv @kz)) ?_

      (repeat (refine And.intro (by omega) ?_))
      exact fv0 [1,0] []
    · have e : putT b t = putC (b ++ [2]) t.c := by unfold putT; rw [if_neg (fun hh => h (by rw [hh]; rfl)), if_pos hv]
      rw [decide_eq_false h] at kz hz
      rw [e]
      have hlen := putC_bd (b := b ++ [2]) hc (by omega)
      generalize hP : putC (b ++ [2]) t.c = P at *
      refine rn1 (jn @trmE.eq_1 (jn @hv @kz)) ?_

      refine HC_of_HV mix ?_
      refine HV_split 4 2 (by decide) ?_ ?_
      · simp only [addAt]
        refine HV_order [] ty_ok [0, 3, 4, 1, 2, 5, 6] (by kernel_rfl) rfl _ rfl ?_
        simp only [opl_nil', opl_cons', oplC_some, List.getElem?_toArray, List.getElem?_cons_zero, List.getElem?_cons_succ]
        refine rn0 ?_
        (repeat (refine And.intro (by omega) ?_))
        have kk := (hP ▸ putC_ac (b ++ [2]) t.c hc (by simp; omega))
        rw [l1] at kk
        refine HO_callX ty_ok [0] kk (⟨fun y h => by injection h with h; subst h; rfl, trivial⟩) (rfl) ?_
        rintro v r' ⟨rfl, rfl⟩ _
        refine rn0 ?_
        exact fv0 [0,2] []
      · simp only [addAt]
        refine HV_order [] ty_ok [0, 3, 1, 2, 4, 5, 6] (by kernel_rfl) rfl _ rfl ?_
        simp only [opl_nil', opl_cons', oplC_some, List.getElem?_toArray, List.getElem?_cons_zero, List.getElem?_cons_succ]
        refine rn0 ?_
        (repeat (refine And.intro (by omega) ?_))
        have kk := (hP ▸ putC_ac (b ++ [2]) t.c hc (by simp; omega))
        rw [l1] at kk
        refine HO_callX ty_ok [0] kk (⟨fun y h => by injection h with h; subst h; rfl, trivial⟩) (rfl) ?_
        rintro v r' ⟨rfl, rfl⟩ _
        refine rn0 ?_
        exact fv0 [0,2] []
  · rw [ztN hv] at hz
    have e : putT b t = putTx (b ++ [1]) t.v := by unfold putT; rw [if_neg (fun hh => hv (by rw [hh]; rfl)), if_neg hv]
    rw [e, l3]
    refine rn1 (jn @trmE.eq_1 @hv) ?_

    refine HC_of_HV mix ?_
    refine HV_split 4 2 (by decide) ?_ ?_
    · simp only [addAt]
      refine HV_order [] ty_ok [0, 3, 4, 1, 2, 5, 6] (by kernel_rfl) rfl _ rfl ?_
      simp only [opl_nil', opl_cons', oplC_some, List.getElem?_toArray, List.getElem?_cons_zero, List.getElem?_cons_succ]
      refine rn0 ?_
      (repeat (refine And.intro (by omega) ?_))
      have kk := putText_ac (b ++ [1]) t.v (by simp; omega) (by simp; omega)
      rw [l1] at kk
      refine HO_callX ty_ok [] kk (trivial) rfl ?_
      rintro v r' ⟨rfl, rfl⟩ _
      refine rn1 @l3 ?_
      exact fv0 [0,2] []
    · simp only [addAt]
      refine HV_order [] ty_ok [0, 3, 1, 2, 4, 5, 6] (by kernel_rfl) rfl _ rfl ?_
      simp only [opl_nil', opl_cons', oplC_some, List.getElem?_toArray, List.getElem?_cons_zero, List.getElem?_cons_succ]
      refine rn0 ?_
      (repeat (refine And.intro (by omega) ?_))
      have kk := putText_ac (b ++ [1]) t.v (by simp; omega) (by simp; omega)
      rw [l1] at kk
      refine HO_callX ty_ok [] kk (trivial) rfl ?_
      rintro v r' ⟨rfl, rfl⟩ _
      refine rn1 @l3 ?_
      exact fv0 [0,2] []
set_option maxHeartbeats 400000 in
theorem rputT_ac (b : List UInt8) (t : Trm) (hc : okC t.c) (hb : b.length + t.c.s.size + t.v.size ≤ 140737488340000) : AC Try.prog noG 67 [.sl (.own 0) 1 b.length (bD b), .d (.agg (trmE t))] [some (.tok b.length)]
    (fun v r' => v = .sl (.own 1) 1 (putT b t).length (bD (putT b t)) ∧ r' = [none, some (.tok (putT b t).length)]) := by
  refine AC.fit ?_
  refine AC_of_R (N := 25) (res := [.tmp 4]) ty_ok Try.call67 Try.func67 rfl rfl rfl (Nat.le_of_ble_eq_true rfl) ?_
  have kz := zcD t.c
  have hz := rnone_ac t
  by_cases hv : t.v = ⟨#[]⟩
  · rw [ztD hv] at hz
    by_cases h : t.c = zC
    · have e : putT b t = b ++ [0] := by unfold putT; rw [if_pos (of_decide_eq_true ((ztD hv).trans (decide_eq_true h)))]
      rw [decide_eq_true h] at kz hz
      rw [e, l1]
      refine rn1 (jn @trmE.eq_1 (jn @hv @kz)) ?_
      simp only [trmE, hv] at hz
      refine HO_pureA ty_ok hz ?_
      refine rn0 ?_
      (repeat (refine And.intro (by omega) ?_))
      exact fv0 [1,0] []
    · have e : putT b t = putC (b ++ [2]) t.c := by unfold putT; rw [if_neg (fun hh => h (by rw [hh]; rfl)), if_pos hv]
      rw [decide_eq_false h] at kz hz
      rw [e]
      have hlen := putC_bd (b := b ++ [2]) hc (by omega)
      generalize hP : putC (b ++ [2]) t.c = P at *
      refine rn1 (jn @trmE.eq_1 (jn @hv @kz)) ?_
      simp only [trmE, hv] at hz
      refine HO_pureA ty_ok hz ?_
      refine rn1 @hv ?_
      refine HC_of_HV mix ?_
      refine HV_split 4 2 (by decide) ?_ ?_
      · simp only [addAt]
        refine HV_order [] ty_ok [0, 3, 4, 1, 2, 5, 6] (by kernel_rfl) rfl _ rfl ?_
        simp only [opl_nil', opl_cons', oplC_some, List.getElem?_toArray, List.getElem?_cons_zero, List.getElem?_cons_succ]
        refine rn0 ?_
        (repeat (refine And.intro (by omega) ?_))
        have kk := (hP ▸ rputC_ac (b ++ [2]) t.c hc (by simp; omega))
        rw [l1] at kk
        refine HO_callX ty_ok [0] kk (⟨fun y h => by injection h with h; subst h; rfl, trivial⟩) (rfl) ?_
        rintro v r' ⟨rfl, rfl⟩ _
        refine rn0 ?_
        exact fv0 [0,2] []
      · simp only [addAt]
        refine HV_order [] ty_ok [0, 3, 1, 2, 4, 5, 6] (by kernel_rfl) rfl _ rfl ?_
        simp only [opl_nil', opl_cons', oplC_some, List.getElem?_toArray, List.getElem?_cons_zero, List.getElem?_cons_succ]
        refine rn0 ?_
        (repeat (refine And.intro (by omega) ?_))
        have kk := (hP ▸ rputC_ac (b ++ [2]) t.c hc (by simp; omega))
        rw [l1] at kk
        refine HO_callX ty_ok [0] kk (⟨fun y h => by injection h with h; subst h; rfl, trivial⟩) (rfl) ?_
        rintro v r' ⟨rfl, rfl⟩ _
        refine rn0 ?_
        exact fv0 [0,2] []
  · rw [ztN hv] at hz
    have e : putT b t = putTx (b ++ [1]) t.v := by unfold putT; rw [if_neg (fun hh => hv (by rw [hh]; rfl)), if_neg hv]
    rw [e, l3]
    refine rn1 (jn @trmE.eq_1 @hv) ?_
    simp only [trmE] at hz
    refine HO_pureA ty_ok hz ?_
    refine rn1 @hv ?_
    refine HC_of_HV mix ?_
    refine HV_split 4 2 (by decide) ?_ ?_
    · simp only [addAt]
      refine HV_order [] ty_ok [0, 3, 4, 1, 2, 5, 6] (by kernel_rfl) rfl _ rfl ?_
      simp only [opl_nil', opl_cons', oplC_some, List.getElem?_toArray, List.getElem?_cons_zero, List.getElem?_cons_succ]
      refine rn0 ?_
      (repeat (refine And.intro (by omega) ?_))
      have kk := rputText_ac (b ++ [1]) t.v (by simp; omega) (by simp; omega)
      rw [l1] at kk
      refine HO_callX ty_ok [] kk (trivial) rfl ?_
      rintro v r' ⟨rfl, rfl⟩ _
      refine rn1 @l3 ?_
      exact fv0 [0,2] []
    · simp only [addAt]
      refine HV_order [] ty_ok [0, 3, 1, 2, 4, 5, 6] (by kernel_rfl) rfl _ rfl ?_
      simp only [opl_nil', opl_cons', oplC_some, List.getElem?_toArray, List.getElem?_cons_zero, List.getElem?_cons_succ]
      refine rn0 ?_
      (repeat (refine And.intro (by omega) ?_))
      have kk := rputText_ac (b ++ [1]) t.v (by simp; omega) (by simp; omega)
      rw [l1] at kk
      refine HO_callX ty_ok [] kk (trivial) rfl ?_
      rintro v r' ⟨rfl, rfl⟩ _
      refine rn1 @l3 ?_
      exact fv0 [0,2] []
end Go.Proofs.Ytfeoafddagdbfaa
