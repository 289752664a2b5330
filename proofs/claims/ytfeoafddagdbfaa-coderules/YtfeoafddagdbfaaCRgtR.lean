import Derived.Test.YtfeoafddagdbfaaCRdR
set_option linter.unusedVariables false
set_option linter.unusedSimpArgs false
set_option maxRecDepth 100000
namespace Go.Proofs.Ytfeoafddagdbfaa
open Go Go.ChangeShapes Go.WideShapes
def rightI (x : Lit) : Bool := rightT x.b && (rightT x.a && (txtOK x.p && rightL x.l))
def rightR (r : Rul) : Bool := rightT r.h && (rightT r.t && (txtOK r.p && (rightL r.l && (decide (r.b.length ≤ 5) && r.b.all rightI))))
def szL (l : List Trm) : Prop := l.length ≤ 140737488352000
def szR (r : Rul) : Prop := szL r.l ∧ r.b.length ≤ 140737488352000 ∧ ∀ x ∈ r.b, szL x.l
def crSt (r : Rul) (i : Nat) : List (Nat × AV) := [(34, .d (.sl 10 r.b.length (flatE litE r.b))), (35, .d (.c (.int .i64 r.b.length))), (36, .d (.c (.int .i64 i)))]
def crRe (r : Rul) : Rs := [none]
def rrSt (r : Rul) (i : Nat) : List (Nat × AV) := [(1, .ptr 0 0), (3, .d (.c (.int .i64 i)))]
def rrRe (r : Rul) : Rs := [some (.obj ((rulE r).map .d))]
set_option maxHeartbeats 1000000 in
theorem crule_ac (r : Rul) (hr : szR r) : AC Try.prog noG 32 [.d (.agg (rulE r))] [] (fun v r' => v = .d (.c (.bool (rightR r))) ∧ r' = []) := by
  refine AC.pure ?_ (by rintro v rfl; rfl)
  refine AC_of_R (N := 63) (res := [.tmp 2]) ty_ok Try.call32 Try.func32 rfl rfl rfl (Nat.le_of_ble_eq_true rfl) ?_
  obtain ⟨s1, s2, s3⟩ := hr
  have c1 := term_ac r.h
  have c2 := term_ac r.t
  have c3 := named_ac r.p
  have c4 := terms_ac r.l s1
  simp only [trmE] at c1 c2
  refine rn1 @rulE.eq_1 ?_
  refine HO_pureA ty_ok c1 ?_
  cases h1 : rightT r.h with
  | false =>
    have e : rightR r = false := by simp [rightR, h1]
    exact rz1 @e
  | true =>
  refine rn0 ?_
  refine HO_pureA ty_ok c2 ?_
  cases h2 : rightT r.t with
  | false =>
    have e : rightR r = false := by simp [rightR, h2]
    exact rz1 @e
  | true =>
  refine rn0 ?_
  refine HO_pureA ty_ok c3 ?_
  cases h3 : txtOK r.p with
  | false =>
    have e : rightR r = false := by simp [rightR, h3]
    exact rz1 @e
  | true =>
  refine rn0 ?_
  refine HO_pureA ty_ok c4 ?_
  cases h4 : rightL r.l with
  | false =>
    have e : rightR r = false := by simp [rightR, h4]
    exact rz1 @e
  | true =>
  by_cases h5 : r.b.length ≤ 5
  · have g5 : ¬ (r.b.length : Int) > 5 := by omega
    have e : rightR r = r.b.all rightI := by simp [rightR, h1, h2, h3, h4, h5]
    refine rn1 @g5 ?_
    refine HC_loopR (crSt r) (fun _ => crRe r) (fun i => i ≤ r.b.length ∧ (r.b.drop i).all rightI = r.b.all rightI) (fun i => r.b.length - i) 0 [0] [] ⟨by omega, by simp⟩ ?_ ?_
    · exact ft1 (jn @crSt.eq_1 (jn @crRe.eq_1 @rulE.eq_1))
    intro i ⟨hi1, hi2⟩
    refine HC_of_R ty_ok ?_
    by_cases hlt : i < r.b.length
    · have hi : (i : Int) < r.b.length := by omega
      rw [all_drop rightI r.b i hlt] at hi2
      have hd := flatE_drop litE_len r.b i hlt
      have hle := flatE_len litE_len r.b
      have hsz := s3 r.b[i] (List.getElem_mem hlt)
      generalize r.b[i] = x at *
      simp only [litE, List.cons_append, List.nil_append] at hd
      have d1 := term_ac x.b
      have d2 := term_ac x.a
      have d3 := named_ac x.p
      have d4 := terms_ac x.l hsz
      simp only [trmE] at d1 d2
      refine rn1 (jn @crSt.eq_1 (jn @crRe.eq_1 (jn @rulE.eq_1 (jn @hi (jn @hd @hle))))) ?_
      (repeat (refine And.intro (by omega) ?_))
      refine HO_pureA ty_ok d1 ?_
      cases k1 : rightT x.b with
      | false =>
        have ex : rightI x = false := by simp [rightI, k1]
        rw [ex, Bool.false_and] at hi2
        refine rn1 @e ?_
        rw [← hi2]
      | true =>
      refine rn0 ?_
      refine HO_pureA ty_ok d2 ?_
      cases k2 : rightT x.a with
      | false =>
        have ex : rightI x = false := by simp [rightI, k2]
        rw [ex, Bool.false_and] at hi2
        refine rn1 @e ?_
        rw [← hi2]
      | true =>
      refine rn0 ?_
      refine HO_pureA ty_ok d3 ?_
      cases k3 : txtOK x.p with
      | false =>
        have ex : rightI x = false := by simp [rightI, k3]
        rw [ex, Bool.false_and] at hi2
        refine rn1 @e ?_
        rw [← hi2]
      | true =>
      refine rn0 ?_
      refine HO_pureA ty_ok d4 ?_
      cases k4 : rightL x.l with
      | false =>
        have ex : rightI x = false := by simp [rightI, k4]
        rw [ex, Bool.false_and] at hi2
        refine rn1 @e ?_
        rw [← hi2]
      | true =>
        have ex : rightI x = true := by simp [rightI, k1, k2, k3, k4]
        rw [ex, Bool.true_and] at hi2
        refine rn0 ?_
        (repeat (refine And.intro (by omega) ?_))
        refine ⟨i + 1, ⟨by omega, hi2⟩, by omega, [0], [], ?_⟩
        exact ft1 (jn @crSt.eq_1 (jn @crRe.eq_1 @rulE.eq_1))
    · have hi : ¬ (i : Int) < r.b.length := by omega
      rw [List.drop_of_length_le (by omega)] at hi2
      refine rn1 (jn @crSt.eq_1 (jn @crRe.eq_1 (jn @rulE.eq_1 (jn @hi @e)))) ?_
      rw [← hi2]; rfl
  · have g5 : (r.b.length : Int) > 5 := by omega
    have e : rightR r = false := by simp [rightR, h5]
    exact rz1 (jn @g5 @e)
set_option maxHeartbeats 1000000 in
theorem rright_ac (r : Rul) (hr : szR r) : AC Try.prog noG 37 [.d (.agg (rulE r))] [] (fun v r' => v = .d (.c (.bool (rightR r))) ∧ r' = []) := by
  refine AC.pure ?_ (by rintro v rfl; rfl)
  refine AC_of_R (N := 67) (res := [.tmp 2]) ty_ok Try.call37 Try.func37 rfl rfl rfl (Nat.le_of_ble_eq_true rfl) ?_
  obtain ⟨s1, s2, s3⟩ := hr
  have c1 := rterm_ac r.h
  have c2 := rterm_ac r.t
  have c3 := rftext_ac r.p
  have c4 := rterms_ac r.l s1
  simp only [trmE] at c1 c2
  refine rn1 @rulE.eq_1 ?_
  refine HO_pureA ty_ok c1 ?_
  cases h1 : rightT r.h with
  | false =>
    have e : rightR r = false := by simp [rightR, h1]
    exact rz1 @e
  | true =>
  refine rn0 ?_
  refine HO_pureA ty_ok c2 ?_
  cases h2 : rightT r.t with
  | false =>
    have e : rightR r = false := by simp [rightR, h2]
    exact rz1 @e
  | true =>
  refine rn0 ?_
  refine HO_pureA ty_ok c3 ?_
  cases h3 : txtOK r.p with
  | false =>
    have e : rightR r = false := by simp [rightR, h3]
    exact rz1 @e
  | true =>
  refine rn0 ?_
  refine HO_pureA ty_ok c4 ?_
  cases h4 : rightL r.l with
  | false =>
    have e : rightR r = false := by simp [rightR, h4]
    exact rz1 @e
  | true =>
  by_cases h5 : r.b.length ≤ 5
  · have g5 : ¬ (r.b.length : Int) > 5 := by omega
    have e : rightR r = r.b.all rightI := by simp [rightR, h1, h2, h3, h4, h5]
    refine rn1 @g5 ?_
    refine HC_loopR (rrSt r) (fun _ => rrRe r) (fun i => i ≤ r.b.length ∧ (r.b.drop i).all rightI = r.b.all rightI) (fun i => r.b.length - i) 0 [0] [] ⟨by omega, by simp⟩ ?_ ?_
    · exact ft1 (jn @rrSt.eq_1 (jn @rrRe.eq_1 @rulE.eq_1))
    intro i ⟨hi1, hi2⟩
    refine HC_of_R ty_ok ?_
    by_cases hlt : i < r.b.length
    · have hi : (i : Int) < r.b.length := by omega
      rw [all_drop rightI r.b i hlt] at hi2
      have hd := flatE_drop litE_len r.b i hlt
      have hle := flatE_len litE_len r.b
      have hsz := s3 r.b[i] (List.getElem_mem hlt)
      generalize r.b[i] = x at *
      simp only [litE, List.cons_append, List.nil_append] at hd
      have d1 := rterm_ac x.b
      have d2 := rterm_ac x.a
      have d3 := rftext_ac x.p
      have d4 := rterms_ac x.l hsz
      simp only [trmE] at d1 d2
      refine rn1 (jn @rrSt.eq_1 (jn @rrRe.eq_1 (jn @rulE.eq_1 (jn @hi (jn @hd @hle))))) ?_
      (repeat (refine And.intro (by omega) ?_))
      refine HO_pureA ty_ok d1 ?_
      cases k1 : rightT x.b with
      | false =>
        have ex : rightI x = false := by simp [rightI, k1]
        rw [ex, Bool.false_and] at hi2
        refine rn1 @e ?_
        rw [← hi2]
      | true =>
      refine rn0 ?_
      refine HO_pureA ty_ok d2 ?_
      cases k2 : rightT x.a with
      | false =>
        have ex : rightI x = false := by simp [rightI, k2]
        rw [ex, Bool.false_and] at hi2
        refine rn1 @e ?_
        rw [← hi2]
      | true =>
      refine rn0 ?_
      refine HO_pureA ty_ok d3 ?_
      cases k3 : txtOK x.p with
      | false =>
        have ex : rightI x = false := by simp [rightI, k3]
        rw [ex, Bool.false_and] at hi2
        refine rn1 @e ?_
        rw [← hi2]
      | true =>
      refine rn0 ?_
      refine HO_pureA ty_ok d4 ?_
      cases k4 : rightL x.l with
      | false =>
        have ex : rightI x = false := by simp [rightI, k4]
        rw [ex, Bool.false_and] at hi2
        refine rn1 @e ?_
        rw [← hi2]
      | true =>
        have ex : rightI x = true := by simp [rightI, k1, k2, k3, k4]
        rw [ex, Bool.true_and] at hi2
        refine rn0 ?_
        (repeat (refine And.intro (by omega) ?_))
        refine ⟨i + 1, ⟨by omega, hi2⟩, by omega, [0], [], ?_⟩
        exact ft1 (jn @rrSt.eq_1 (jn @rrRe.eq_1 @rulE.eq_1))
    · have hi : ¬ (i : Int) < r.b.length := by omega
      rw [List.drop_of_length_le (by omega)] at hi2
      refine rn1 (jn @rrSt.eq_1 (jn @rrRe.eq_1 (jn @rulE.eq_1 (jn @hi @e)))) ?_
      rw [← hi2]; rfl
  · have g5 : (r.b.length : Int) > 5 := by omega
    have e : rightR r = false := by simp [rightR, h5]
    exact rz1 (jn @g5 @e)
end Go.Proofs.Ytfeoafddagdbfaa
