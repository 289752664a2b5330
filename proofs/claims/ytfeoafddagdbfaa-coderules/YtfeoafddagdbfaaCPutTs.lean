import Derived.Test.YtfeoafddagdbfaaCPutT
set_option linter.unusedVariables false
set_option linter.unusedSimpArgs false
set_option maxRecDepth 100000
namespace Go.Proofs.Ytfeoafddagdbfaa
open Go Go.ChangeShapes Go.WideShapes
def putTs (b : List UInt8) (l : List Trm) : List UInt8 := l.foldl putT (b ++ leb (zig (l.length : Int)))
def okT (t : Trm) : Prop := okC t.c ∧ t.v.size ≤ 32 ∧ t.c.s.size ≤ 32
theorem putT_le {b : List UInt8} {t : Trm} (h : okT t) : (putT b t).length ≤ b.length + 76 := by
  have := putT_bd (b := b) h.1 (by have := h.2; omega)
  have := h.2
  omega
theorem fold_le : ∀ (l : List Trm) (b : List UInt8), (∀ t ∈ l, okT t) → (l.foldl putT b).length ≤ b.length + 76 * l.length
  | [], b, _ => by simp
  | t :: l, b, h => by
    have h1 := putT_le (b := b) (h t (by simp))
    have h2 := fold_le l (putT b t) (fun x hx => h x (by simp [hx]))
    rw [List.foldl_cons, List.length_cons]; omega
theorem fold_take {α β : Type} (f : β → α → β) (l : List α) (i : Nat) (h : i < l.length) (b : β) : (l.take (i + 1)).foldl f b = f ((l.take i).foldl f b) l[i] := by rw [List.take_succ_eq_append_getElem h, List.foldl_append]; rfl
theorem leb_nat {n : Nat} (h : n ≤ 140737488355000) : (leb (zig (n : Int))).length ≤ 10 := leb64_len (by omega) (by omega)
theorem putTs_le {b : List UInt8} {l : List Trm} (h : ∀ t ∈ l, okT t) (hl : l.length ≤ 140737488355000) : (putTs b l).length ≤ b.length + 10 + 76 * l.length := by
  have h1 := fold_le l (b ++ leb (zig (l.length : Int))) h
  have h2 := leb_nat hl
  rw [List.length_append] at h1
  unfold putTs; omega
def ptRe (acc : List UInt8) : Rs := [none, none, some (.tok acc.length)]
def ptSt (l : List Trm) (i : Nat) (acc : List UInt8) : List (Nat × AV) := [(0, .sl (.own 2) 1 acc.length (bD acc)), (11, .d (.sl 4 l.length (flatE trmE l))), (12, .d (.c (.int .i64 l.length))), (13, .d (.c (.int .i64 i)))]
def rptSt (l : List Trm) (i : Nat) (acc : List UInt8) : List (Nat × AV) := [(0, .sl (.own 2) 1 acc.length (bD acc)), (1, .d (.sl 4 l.length (flatE trmE l))), (5, .d (.c (.int .i64 i)))]
set_option maxHeartbeats 400000 in
theorem putTs_ac (b : List UInt8) (l : List Trm) (ht : ∀ t ∈ l, okT t) (hl : l.length ≤ 48) (hb : b.length ≤ 140737488300000) : AC Try.prog noG 33 [.sl (.own 0) 1 b.length (bD b), .d (.sl 4 l.length (flatE trmE l))] [some (.tok b.length)]
    (fun v r' => v = .sl (.own 1) 1 (putTs b l).length (bD (putTs b l)) ∧ r' = [none, some (.tok (putTs b l).length)]) := by
  refine AC.fit ?_
  refine AC_of_R (N := 22) (res := [.tmp 4]) ty_ok Try.call33 Try.func33 rfl rfl rfl (Nat.le_of_ble_eq_true rfl) ?_
  refine rn0 ?_
  refine HO_callX ty_ok [] (putInt_ac b (l.length : Int) (by omega) (by omega) (by omega)) (trivial) rfl ?_
  rintro v r' ⟨rfl, rfl⟩ _
  obtain ⟨b0, hb0⟩ : ∃ b0, b0 = b ++ leb (zig (l.length : Int)) := ⟨_, rfl⟩
  have hb0l : b0.length ≤ b.length + 10 := by
    have := leb_nat (n := l.length) (by omega)
    rw [hb0, List.length_append]; omega
  have hps : putTs b l = l.foldl putT b0 := by rw [hb0]; rfl
  rw [← hb0, hps]
  refine rn0 ?_
  refine HC_loopR (fun i : Nat => ptSt l i ((l.take i).foldl putT b0)) (fun i => ptRe ((l.take i).foldl putT b0)) (fun i => i ≤ l.length) (fun i => l.length - i) 0 [0, 0, 1] [] (by omega) ?_ ?_
  · exact ft1 (jn @ptSt.eq_1 (jn @ptRe.eq_1 (jn @List.take_zero.{0} @List.foldl_nil.{0, 0})))
  intro i hi1
  refine HC_of_R ty_ok ?_
  by_cases hlt : i < l.length
  · have hi : (i : Int) < l.length := by omega
    have hd := flatE_drop trmE_len l i hlt
    have hle := flatE_len trmE_len l
    have hstep := fold_take putT l i hlt b0
    have hot := ht l[i] (List.getElem_mem hlt)
    have hacc := fold_le (l.take i) b0 (fun t h => ht t (List.mem_of_mem_take h))
    rw [List.length_take] at hacc
    generalize l[i] = t at *
    generalize (l.take i).foldl putT b0 = acc at *
    have hk := putT_ac acc t hot.1 (by have := hot.2; omega)
    have hn := putT_le (b := acc) hot
    rw [← hstep] at hk hn
    simp only [trmE, List.cons_append, List.nil_append] at hd hk
    refine rn1 (jn @ptSt.eq_1 (jn @ptRe.eq_1 (jn @hi (jn @hd (jn @hle @trmE.eq_1))))) ?_
    (repeat (refine And.intro (by omega) ?_))
    refine HO_callX ty_ok [2] hk (⟨fun y h => by injection h with h; subst h; rfl, trivial⟩) (rfl) ?_
    rintro v r' ⟨rfl, rfl⟩ _
    refine rn0 ?_
    (repeat (refine And.intro (by omega) ?_))
    refine ⟨i + 1, by omega, by omega, [0, 1, 4], [], ?_⟩
    exact ft1 (jn @ptSt.eq_1 @ptRe.eq_1)
  · have hi : ¬ (i : Int) < l.length := by omega
    rw [List.take_of_length_le (by omega)]
    refine rn1 (jn @ptSt.eq_1 (jn @ptRe.eq_1 @hi)) ?_
    exact fv0 [0,2] []
set_option maxHeartbeats 400000 in
theorem rputTs_ac (b : List UInt8) (l : List Trm) (ht : ∀ t ∈ l, okT t) (hl : l.length ≤ 48) (hb : b.length ≤ 140737488300000) : AC Try.prog noG 68 [.sl (.own 0) 1 b.length (bD b), .d (.sl 4 l.length (flatE trmE l))] [some (.tok b.length)]
    (fun v r' => v = .sl (.own 1) 1 (putTs b l).length (bD (putTs b l)) ∧ r' = [none, some (.tok (putTs b l).length)]) := by
  refine AC.fit ?_
  refine AC_of_R (N := 23) (res := [.tmp 4]) ty_ok Try.call68 Try.func68 rfl rfl rfl (Nat.le_of_ble_eq_true rfl) ?_
  refine rn0 ?_
  refine HO_callX ty_ok [] (rputInt_ac b (l.length : Int) (by omega) (by omega) (by omega)) (trivial) rfl ?_
  rintro v r' ⟨rfl, rfl⟩ _
  obtain ⟨b0, hb0⟩ : ∃ b0, b0 = b ++ leb (zig (l.length : Int)) := ⟨_, rfl⟩
  have hb0l : b0.length ≤ b.length + 10 := by
    have := leb_nat (n := l.length) (by omega)
    rw [hb0, List.length_append]; omega
  have hps : putTs b l = l.foldl putT b0 := by rw [hb0]; rfl
  rw [← hb0, hps]
  refine rn0 ?_
  refine HC_loopR (fun i : Nat => rptSt l i ((l.take i).foldl putT b0)) (fun i => ptRe ((l.take i).foldl putT b0)) (fun i => i ≤ l.length) (fun i => l.length - i) 0 [0, 0, 1] [] (by omega) ?_ ?_
  · exact ft1 (jn @rptSt.eq_1 (jn @ptRe.eq_1 (jn @List.take_zero.{0} @List.foldl_nil.{0, 0})))
  intro i hi1
  refine HC_of_R ty_ok ?_
  by_cases hlt : i < l.length
  · have hi : (i : Int) < l.length := by omega
    have hd := flatE_drop trmE_len l i hlt
    have hle := flatE_len trmE_len l
    have hstep := fold_take putT l i hlt b0
    have hot := ht l[i] (List.getElem_mem hlt)
    have hacc := fold_le (l.take i) b0 (fun t h => ht t (List.mem_of_mem_take h))
    rw [List.length_take] at hacc
    generalize l[i] = t at *
    generalize (l.take i).foldl putT b0 = acc at *
    have hk := rputT_ac acc t hot.1 (by have := hot.2; omega)
    have hn := putT_le (b := acc) hot
    rw [← hstep] at hk hn
    simp only [trmE, List.cons_append, List.nil_append] at hd hk
    refine rn1 (jn @rptSt.eq_1 (jn @ptRe.eq_1 (jn @hi (jn @hd (jn @hle @trmE.eq_1))))) ?_
    (repeat (refine And.intro (by omega) ?_))
    refine HO_callX ty_ok [2] hk (⟨fun y h => by injection h with h; subst h; rfl, trivial⟩) (rfl) ?_
    rintro v r' ⟨rfl, rfl⟩ _
    refine rn0 ?_
    (repeat (refine And.intro (by omega) ?_))
    refine ⟨i + 1, by omega, by omega, [0, 1, 3], [], ?_⟩
    exact ft1 (jn @rptSt.eq_1 @ptRe.eq_1)
  · have hi : ¬ (i : Int) < l.length := by omega
    rw [List.take_of_length_le (by omega)]
    refine rn1 (jn @rptSt.eq_1 (jn @ptRe.eq_1 @hi)) ?_
    exact fv0 [0,2] []
end Go.Proofs.Ytfeoafddagdbfaa
