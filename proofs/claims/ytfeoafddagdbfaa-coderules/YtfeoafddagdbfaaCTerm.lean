import Derived.Test.YtfeoafddagdbfaaCCheck
set_option linter.unusedVariables false
set_option linter.unusedSimpArgs false
set_option maxRecDepth 100000
namespace Go.Proofs.Ytfeoafddagdbfaa
open Go Go.ChangeShapes Go.WideShapes
structure Trm where
  v : ByteArray
  c : Cst
deriving DecidableEq
def trmE (t : Trm) : List D := [.c (.string t.v), .c (.bool t.c.num), .c (.int .i64 t.c.n), .c (.string t.c.s)]
theorem trmE_len (t : Trm) : (trmE t).length = 4 := rfl
def zC : Cst := ⟨false, 0, ⟨#[]⟩⟩
def zT : Trm := ⟨⟨#[]⟩, zC⟩
theorem cstEq (a b : Cst) : eqD [.bool, .int, .str] (cstE a) (cstE b) = some (decide (a = b)) := by
  obtain ⟨q, n, s⟩ := a
  obtain ⟨q', n', s'⟩ := b
  simp only [cstE, eqD, ckD, ckV, and2, if_true, Cst.mk.injEq]
  by_cases h1 : q = q' <;> by_cases h2 : n = n' <;> by_cases h3 : s = s' <;> simp [h1, h2, h3]
theorem trmEq (a b : Trm) : eqD [.str, .bool, .int, .str] (trmE a) (trmE b) = some (decide (a = b)) := by
  obtain ⟨v, q, n, s⟩ := a
  obtain ⟨v', q', n', s'⟩ := b
  simp only [trmE, eqD, ckD, ckV, and2, if_true, Trm.mk.injEq, Cst.mk.injEq]
  by_cases h0 : v = v' <;> by_cases h1 : q = q' <;> by_cases h2 : n = n' <;> by_cases h3 : s = s' <;> simp [h0, h1, h2, h3]
theorem zcD (c : Cst) : (decide (c.num = false) && (decide (c.n = 0) && decide (c.s = ⟨#[]⟩))) = decide (c = zC) := by
  obtain ⟨q, n, s⟩ := c
  simp only [zC, Cst.mk.injEq, Bool.decide_and]
theorem ztD {t : Trm} (h : t.v = ⟨#[]⟩) : decide (t = zT) = decide (t.c = zC) := by
  obtain ⟨v, c⟩ := t
  simp only at h
  subst h
  simp only [zT, Trm.mk.injEq, true_and]
theorem ztN {t : Trm} (h : ¬ t.v = ⟨#[]⟩) : decide (t = zT) = false := decide_eq_false (fun e => h (by rw [e]; rfl))
def rightT (t : Trm) : Bool := if t.v = ⟨#[]⟩ then decide (t.c = zC) || goodC t.c else txtOK t.v && decide (t.c = zC)
set_option maxHeartbeats 400000 in
theorem rnone_ac (t : Trm) : AC Try.prog noG 84 [.d (.agg (trmE t))] [] (fun v r' => v = .d (.c (.bool (decide (t = zT)))) ∧ r' = []) := by
  refine AC.pure ?_ (by rintro v rfl; rfl)
  refine AC_of_R (N := 6) (res := [.tmp 2]) ty_ok Try.call84 Try.func84 rfl rfl rfl (Nat.le_of_ble_eq_true rfl) ?_
  have kz := zcD t.c
  by_cases hv : t.v = ⟨#[]⟩
  · rw [ztD hv]
    exact rz1 (jn @trmE.eq_1 (jn @hv @kz))
  · rw [ztN hv]
    exact rz1 (jn @trmE.eq_1 (jn @hv @kz))
set_option maxHeartbeats 400000 in
theorem named_ac (s : ByteArray) : AC Try.prog noG 63 [.d (.c (.string s))] [] (fun v r' => v = .d (.c (.bool (txtOK s))) ∧ r' = []) := by
  refine AC_of_R (N := 11) (res := [.tmp 2]) ty_ok Try.call63 Try.func63 rfl rfl rfl (Nat.le_of_ble_eq_true rfl) ?_
  by_cases h1 : 1 ≤ s.size
  · have g1 : 1 ≤ (s.size : Int) := by omega
    by_cases h2 : s.size ≤ 32
    · have g2 : (s.size : Int) ≤ 32 := by omega
      have e : txtOK s = true := by simp [txtOK, h1, h2]
      exact rz1 (jn @g1 (jn @g2 @e))
    · have g2 : ¬ (s.size : Int) ≤ 32 := by omega
      have e : txtOK s = false := by simp [txtOK, h1, h2]
      exact rz1 (jn @g1 (jn @g2 @e))
  · have g1 : ¬ 1 ≤ (s.size : Int) := by omega
    have e : txtOK s = false := by simp [txtOK, h1]
    exact rz1 (jn @g1 @e)
set_option maxHeartbeats 400000 in
theorem term_ac (t : Trm) : AC Try.prog noG 62 [.d (.agg (trmE t))] [] (fun v r' => v = .d (.c (.bool (rightT t))) ∧ r' = []) := by
  refine AC.pure ?_ (by rintro v rfl; rfl)
  refine AC_of_R (N := 23) (res := [.tmp 2]) ty_ok Try.call62 Try.func62 rfl rfl rfl (Nat.le_of_ble_eq_true rfl) ?_
  have hg := fgood_ac t.c
  have kz := zcD t.c
  simp only [cstE] at hg
  by_cases hv : t.v = ⟨#[]⟩
  · have e : rightT t = (decide (t.c = zC) || goodC t.c) := if_pos hv
    by_cases h : t.c = zC
    · rw [decide_eq_true h] at e kz
      rw [Bool.true_or] at e
      exact rz1 (jn @trmE.eq_1 (jn @hv (jn @kz @e)))
    · rw [decide_eq_false h] at e kz
      rw [Bool.false_or] at e
      refine rn1 (jn @trmE.eq_1 (jn @hv (jn @kz @e))) ?_
      refine HO_pureA ty_ok hg ?_
      exact rz0
  · have e : rightT t = (txtOK t.v && decide (t.c = zC)) := if_neg hv
    have hn := named_ac t.v
    refine rn1 (jn @trmE.eq_1 @hv) ?_
    refine HO_pureA ty_ok hn ?_
    cases h : txtOK t.v with
    | true =>
      rw [h] at e
      exact rz1 (jn @kz @e)
    | false =>
      rw [h] at e
      exact rz1 @e
set_option maxHeartbeats 400000 in
theorem rterm_ac (t : Trm) : AC Try.prog noG 65 [.d (.agg (trmE t))] [] (fun v r' => v = .d (.c (.bool (rightT t))) ∧ r' = []) := by
  refine AC.pure ?_ (by rintro v rfl; rfl)
  refine AC_of_R (N := 22) (res := [.tmp 2]) ty_ok Try.call65 Try.func65 rfl rfl rfl (Nat.le_of_ble_eq_true rfl) ?_
  have hg := rfgood_ac t.c
  have hz := rnone_ac t
  have kz := zcD t.c
  simp only [cstE] at hg
  by_cases hv : t.v = ⟨#[]⟩
  · have e : rightT t = (decide (t.c = zC) || goodC t.c) := if_pos hv
    rw [ztD hv] at hz
    by_cases h : t.c = zC
    · rw [decide_eq_true h] at e hz
      rw [Bool.true_or] at e
      refine rn1 (jn @trmE.eq_1 @hv) ?_
      simp only [trmE, hv] at hz
      refine HO_pureA ty_ok hz ?_
      exact rz1 @e
    · rw [decide_eq_false h] at e hz
      rw [Bool.false_or] at e
      refine rn1 (jn @trmE.eq_1 @hv) ?_
      simp only [trmE, hv] at hz
      refine HO_pureA ty_ok hz ?_
      refine rn1 @e ?_
      refine HO_pureA ty_ok hg ?_
      exact rz0
  · have e : rightT t = (txtOK t.v && decide (t.c = zC)) := if_neg hv
    have hn := rftext_ac t.v
    refine rn1 (jn @trmE.eq_1 @hv) ?_
    refine HO_pureA ty_ok hn ?_
    cases h : txtOK t.v with
    | true =>
      rw [h] at e
      exact rz1 (jn @kz @e)
    | false =>
      rw [h] at e
      exact rz1 @e
set_option maxHeartbeats 400000 in
theorem nterm_ac (t : Trm) : AC Try.prog noG 83 [.d (.agg (trmE t))] [] (fun v r' => v = .d (.c (.bool (!rightT t))) ∧ r' = []) := by
  refine AC.pure ?_ (by rintro v rfl; rfl)
  refine AC_of_R (N := 6) (res := [.tmp 2]) ty_ok Try.call83 Try.func83 rfl rfl rfl (Nat.le_of_ble_eq_true rfl) ?_
  have h := term_ac t
  refine rn1 @trmE.eq_1 ?_
  refine HO_pureA ty_ok h ?_
  exact rz0
def rightL (l : List Trm) : Bool := decide (l.length ≤ 48) && l.all rightT
def ixSt (l : List Trm) (i : Nat) : List (Nat × AV) := [(0, .d (.sl 4 l.length (flatE trmE l))), (1, .fn (.func 83) [] []), (7, .d (.c (.int .i64 l.length))), (8, .d (.c (.int .i64 i)))]
theorem all_take {α : Type} (p : α → Bool) (l : List α) (i : Nat) (h : i < l.length) : (l.take (i + 1)).all p = ((l.take i).all p && p l[i]) := by rw [List.take_succ_eq_append_getElem h, List.all_append]; simp
theorem all_ex {α : Type} (p : α → Bool) (l : List α) (i : Nat) (h : i < l.length) (hp : p l[i] = false) : l.all p = false := by
  rw [List.all_eq_false]
  exact ⟨l[i], List.getElem_mem h, by simp [hp]⟩
set_option maxHeartbeats 400000 in
theorem ix_ac (l : List Trm) (hl : l.length ≤ 140737488352000) : AC Try.prog noG 93 [.d (.sl 4 l.length (flatE trmE l)), .fn (.func 83) [] []] []
    (fun v r' => (∃ n : Int, v = .d (.c (.int .i64 n)) ∧ decide (n ≥ 0) = !l.all rightT) ∧ r' = []) := by
  refine AC.pure ?_ (by rintro v ⟨n, rfl, _⟩; rfl)
  refine AC_of_R (N := 19) (res := [.tmp 4]) ty_ok Try.call93 Try.func93 rfl rfl rfl (Nat.le_of_ble_eq_true rfl) ?_
  refine rn0 ?_
  refine HC_loopR (ixSt l) (fun _ => []) (fun i => i ≤ l.length ∧ (l.take i).all rightT = true) (fun i => l.length - i) 0 [] [] ⟨by omega, by simp⟩ ?_ ?_
  · exact ft1 @ixSt.eq_1
  intro i ⟨hi1, hi2⟩
  refine HC_of_R ty_ok ?_
  by_cases hlt : i < l.length
  · have hi : (i : Int) < l.length := by omega
    have ht := all_take rightT l i hlt
    have hx := all_ex rightT l i hlt
    rw [hi2, Bool.true_and] at ht
    have hd := flatE_drop trmE_len l i hlt
    have hle := flatE_len trmE_len l
    have hg := nterm_ac l[i]
    generalize l[i] = c at *
    simp only [trmE, List.cons_append, List.nil_append] at hd
    refine rn1 (jn @ixSt.eq_1 (jn @hi (jn @hd (jn @hle @trmE.eq_1)))) ?_
    (repeat (refine And.intro (by omega) ?_))
    refine HO_pureA ty_ok hg ?_
    cases hc : rightT c with
    | true =>
      rw [hc] at ht
      refine rn0 ?_
      (repeat (refine And.intro (by omega) ?_))
      refine ⟨i + 1, ⟨by omega, ht⟩, by omega, [], [], ?_⟩
      exact ft1 @ixSt.eq_1
    | false =>
      refine rn0 ?_
      refine ⟨i, rfl, ?_⟩
      rw [hx hc]; simp
  · have hi : ¬ (i : Int) < l.length := by omega
    rw [List.take_of_length_le (by omega)] at hi2
    refine rn1 (jn @ixSt.eq_1 @hi) ?_
    exact ⟨-1, rfl, by rw [hi2]; rfl⟩
set_option maxHeartbeats 400000 in
theorem ctn_ac (l : List Trm) (hl : l.length ≤ 140737488352000) : AC Try.prog noG 82 [.d (.sl 4 l.length (flatE trmE l)), .fn (.func 83) [] []] []
    (fun v r' => v = .d (.c (.bool (!l.all rightT))) ∧ r' = []) := by
  refine AC.pure ?_ (by rintro v rfl; rfl)
  refine AC_of_R (N := 9) (res := [.tmp 4]) ty_ok Try.call82 Try.func82 rfl rfl rfl (Nat.le_of_ble_eq_true rfl) ?_
  have h := ix_ac l hl
  refine rn0 ?_
  refine HO_callX ty_ok [] h (trivial) rfl ?_
  rintro v r' ⟨⟨n, rfl, hn⟩, rfl⟩ _
  generalize l.all rightT = q at *
  cases q with
  | true =>
    have hn' : ¬ 0 ≤ n := by simpa using hn
    exact rz1 @hn'
  | false =>
    have hn' : 0 ≤ n := by simpa using hn
    exact rz1 @hn'
set_option maxHeartbeats 400000 in
theorem terms_ac (l : List Trm) (hl : l.length ≤ 140737488352000) : AC Try.prog noG 64 [.d (.sl 4 l.length (flatE trmE l))] [] (fun v r' => v = .d (.c (.bool (rightL l))) ∧ r' = []) := by
  refine AC_of_R (N := 11) (res := [.tmp 2]) ty_ok Try.call64 Try.func64 rfl rfl rfl (Nat.le_of_ble_eq_true rfl) ?_
  by_cases h : l.length ≤ 48
  · have g : (l.length : Int) ≤ 48 := by omega
    have e : rightL l = l.all rightT := by simp [rightL, h]
    refine rn1 @g ?_
    refine HO_pureA ty_ok (ctn_ac l hl) ?_
    exact rz1 @e
  · have g : ¬ (l.length : Int) ≤ 48 := by omega
    have e : rightL l = false := by simp [rightL, h]
    exact rz1 (jn @g @e)
def rtSt (l : List Trm) (i : Nat) : List (Nat × AV) := [(0, .d (.sl 4 l.length (flatE trmE l))), (3, .d (.c (.int .i64 i)))]
set_option maxHeartbeats 400000 in
theorem rterms_ac (l : List Trm) (hl : l.length ≤ 140737488352000) : AC Try.prog noG 66 [.d (.sl 4 l.length (flatE trmE l))] [] (fun v r' => v = .d (.c (.bool (rightL l))) ∧ r' = []) := by
  refine AC_of_R (N := 19) (res := [.tmp 2]) ty_ok Try.call66 Try.func66 rfl rfl rfl (Nat.le_of_ble_eq_true rfl) ?_
  by_cases h : l.length ≤ 48
  · have g : ¬ (l.length : Int) > 48 := by omega
    have e : rightL l = l.all rightT := by simp [rightL, h]
    refine rn1 @g ?_
    refine HC_loopR (rtSt l) (fun _ => []) (fun i => i ≤ l.length ∧ (l.drop i).all rightT = l.all rightT) (fun i => l.length - i) 0 [] [] ⟨by omega, by simp⟩ ?_ ?_
    · exact ft1 @rtSt.eq_1
    intro i ⟨hi1, hi2⟩
    refine HC_of_R ty_ok ?_
    by_cases hlt : i < l.length
    · have hi : (i : Int) < l.length := by omega
      rw [all_drop rightT l i hlt] at hi2
      have hd := flatE_drop trmE_len l i hlt
      have hle := flatE_len trmE_len l
      have hg := rterm_ac l[i]
      generalize l[i] = c at *
      simp only [trmE, List.cons_append, List.nil_append] at hd
      refine rn1 (jn @rtSt.eq_1 (jn @hi (jn @hd (jn @hle @trmE.eq_1)))) ?_
      (repeat (refine And.intro (by omega) ?_))
      refine HO_pureA ty_ok hg ?_
      cases hc : rightT c with
      | true =>
        rw [hc, Bool.true_and] at hi2
        refine rn0 ?_
        (repeat (refine And.intro (by omega) ?_))
        refine ⟨i + 1, ⟨by omega, hi2⟩, by omega, [], [], ?_⟩
        exact ft1 @rtSt.eq_1
      | false =>
        rw [hc, Bool.false_and] at hi2
        refine rn1 @e ?_
        rw [← hi2]
    · have hi : ¬ (i : Int) < l.length := by omega
      rw [List.drop_of_length_le (by omega)] at hi2
      refine rn1 (jn @rtSt.eq_1 (jn @hi @e)) ?_
      rw [← hi2]; rfl
  · have g : (l.length : Int) > 48 := by omega
    have e : rightL l = false := by simp [rightL, h]
    exact rz1 (jn @g @e)
end Go.Proofs.Ytfeoafddagdbfaa
