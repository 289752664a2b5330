import Derived.Test.YtfeoafddagdbfaaCRgtR
import Derived.Test.YtfeoafddagdbfaaCCmp
set_option linter.unusedVariables false
set_option linter.unusedSimpArgs false
set_option maxRecDepth 100000
namespace Go.Proofs.Ytfeoafddagdbfaa
open Go Go.ChangeShapes Go.WideShapes
theorem trmD (a b : Trm) : (decide (a.v = b.v) && (decide (a.c.num = b.c.num) && (decide (a.c.n = b.c.n) && decide (a.c.s = b.c.s)))) = decide (a = b) := by
  obtain ⟨v, q, n, s⟩ := a
  obtain ⟨v', q', n', s'⟩ := b
  simp only [Trm.mk.injEq, Cst.mk.injEq, Bool.decide_and]
def etSt (l m : List Trm) (i : Nat) : List (Nat × AV) := [(0, .d (.sl 4 l.length (flatE trmE l))), (1, .d (.sl 4 m.length (flatE trmE m))), (12, .d (.c (.int .i64 l.length))), (13, .d (.c (.int .i64 i)))]
def retSt (l m : List Trm) (i : Nat) : List (Nat × AV) := [(0, .d (.sl 4 l.length (flatE trmE l))), (1, .d (.sl 4 m.length (flatE trmE m))), (5, .d (.c (.int .i64 i)))]
set_option maxHeartbeats 400000 in
theorem eqTs_ac (l m : List Trm) (hl : l.length ≤ 140737488352000) (hm : m.length ≤ 140737488352000) : AC Try.prog noG 58
    [.d (.sl 4 l.length (flatE trmE l)), .d (.sl 4 m.length (flatE trmE m))] [] (fun v r' => v = .d (.c (.bool (decide (l = m)))) ∧ r' = []) := by
  refine AC.pure ?_ (by rintro v rfl; rfl)
  refine AC_of_R (N := 26) (res := [.tmp 4]) ty_ok Try.call58 Try.func58 rfl rfl rfl (Nat.le_of_ble_eq_true rfl) ?_
  by_cases hlen : l.length = m.length
  · have hlen' : (l.length : Int) = m.length := by omega
    refine rn1 @hlen' ?_
    refine HC_loopR (etSt l m) (fun _ => []) (fun i => i ≤ l.length ∧ decide (l.drop i = m.drop i) = decide (l = m)) (fun i => l.length - i) 0 [] [] ⟨by omega, by simp⟩ ?_ ?_
    · rw [← hlen']
      exact ft1 @etSt.eq_1
    intro i ⟨hi1, hi2⟩
    refine HC_of_R ty_ok ?_
    by_cases hlt : i < l.length
    · have hi : (i : Int) < l.length := by omega
      have hi' : (i : Int) < m.length := by omega
      have hlt' : i < m.length := by omega
      rw [eq_drop l m i hlt hlt'] at hi2
      have hd := flatE_drop trmE_len l i hlt
      have hle := flatE_len trmE_len l
      have hd2 := flatE_drop trmE_len m i hlt'
      have hle2 := flatE_len trmE_len m
      have hk := trmD l[i] m[i]
      generalize l[i] = c at *
      generalize m[i] = d at *
      simp only [trmE, List.cons_append, List.nil_append] at hd hd2
      by_cases hc : c = d
      · rw [decide_eq_true hc] at hk hi2
        rw [Bool.true_and] at hi2
        refine rn1 (jn @etSt.eq_1 (jn @hi @hi')) ?_
        refine HC_plan [] ty_ok mix (by kernel_rfl) ?_
        refine rn1 (jn @hd (jn @hle (jn @hd2 (jn @hle2 @hk)))) ?_
        (repeat (refine And.intro (by omega) ?_))
        refine ⟨i + 1, ⟨by omega, hi2⟩, by omega, [], [], ?_⟩
        exact ft1 @etSt.eq_1
      · rw [decide_eq_false hc] at hk hi2
        rw [Bool.false_and] at hi2
        refine rn1 (jn @etSt.eq_1 (jn @hi @hi')) ?_
        refine HC_plan [] ty_ok mix (by kernel_rfl) ?_
        refine rn1 (jn @hd (jn @hle (jn @hd2 (jn @hle2 @hk)))) ?_
        (repeat (refine And.intro (by omega) ?_))
        rw [hi2]
    · have hi : ¬ (i : Int) < l.length := by omega
      rw [List.drop_of_length_le (by omega), List.drop_of_length_le (by omega)] at hi2
      refine rn1 (jn @etSt.eq_1 @hi) ?_
      rw [← hi2]; rfl
  · have hlen' : ¬ (l.length : Int) = m.length := by omega
    refine rn1 @hlen' ?_
    have : ¬ l = m := fun h => hlen (by rw [h])
    simp [this]
set_option maxHeartbeats 400000 in
theorem reqTs_ac (l m : List Trm) (hl : l.length ≤ 140737488352000) (hm : m.length ≤ 140737488352000) : AC Try.prog noG 61
    [.d (.sl 4 l.length (flatE trmE l)), .d (.sl 4 m.length (flatE trmE m))] [] (fun v r' => v = .d (.c (.bool (decide (l = m)))) ∧ r' = []) := by
  refine AC.pure ?_ (by rintro v rfl; rfl)
  refine AC_of_R (N := 26) (res := [.tmp 4]) ty_ok Try.call61 Try.func61 rfl rfl rfl (Nat.le_of_ble_eq_true rfl) ?_
  by_cases hlen : l.length = m.length
  · have hlen' : (l.length : Int) = m.length := by omega
    refine rn1 @hlen' ?_
    refine HC_loopR (retSt l m) (fun _ => []) (fun i => i ≤ l.length ∧ decide (l.drop i = m.drop i) = decide (l = m)) (fun i => l.length - i) 0 [] [] ⟨by omega, by simp⟩ ?_ ?_
    · rw [← hlen']
      exact ft1 @retSt.eq_1
    intro i ⟨hi1, hi2⟩
    refine HC_of_R ty_ok ?_
    by_cases hlt : i < l.length
    · have hi : (i : Int) < l.length := by omega
      have hi' : (i : Int) < m.length := by omega
      have hlt' : i < m.length := by omega
      rw [eq_drop l m i hlt hlt'] at hi2
      have hd := flatE_drop trmE_len l i hlt
      have hle := flatE_len trmE_len l
      have hd2 := flatE_drop trmE_len m i hlt'
      have hle2 := flatE_len trmE_len m
      have hk := trmD l[i] m[i]
      generalize l[i] = c at *
      generalize m[i] = d at *
      simp only [trmE, List.cons_append, List.nil_append] at hd hd2
      by_cases hc : c = d
      · rw [decide_eq_true hc] at hk hi2
        rw [Bool.true_and] at hi2
        refine rn1 (jn @retSt.eq_1 (jn @hi @hi')) ?_
        refine HC_plan [] ty_ok mix (by kernel_rfl) ?_
        refine rn1 (jn @hd (jn @hle (jn @hd2 (jn @hle2 @hk)))) ?_
        (repeat (refine And.intro (by omega) ?_))
        refine ⟨i + 1, ⟨by omega, hi2⟩, by omega, [], [], ?_⟩
        exact ft1 @retSt.eq_1
      · rw [decide_eq_false hc] at hk hi2
        rw [Bool.false_and] at hi2
        refine rn1 (jn @retSt.eq_1 (jn @hi @hi')) ?_
        refine HC_plan [] ty_ok mix (by kernel_rfl) ?_
        refine rn1 (jn @hd (jn @hle (jn @hd2 (jn @hle2 @hk)))) ?_
        (repeat (refine And.intro (by omega) ?_))
        rw [hi2]
    · have hi : ¬ (i : Int) < l.length := by omega
      rw [List.drop_of_length_le (by omega), List.drop_of_length_le (by omega)] at hi2
      refine rn1 (jn @retSt.eq_1 @hi) ?_
      rw [← hi2]; rfl
  · have hlen' : ¬ (l.length : Int) = m.length := by omega
    refine rn1 @hlen' ?_
    have : ¬ l = m := fun h => hlen (by rw [h])
    simp [this]
theorem litD (x y : Lit) : (decide (x.b = y.b) && (decide (x.p = y.p) && (decide (x.a = y.a) && decide (x.l = y.l)))) = decide (x = y) := by
  obtain ⟨b, p, l, a⟩ := x
  obtain ⟨b', p', l', a'⟩ := y
  simp only [Lit.mk.injEq]
  by_cases h1 : b = b' <;> by_cases h2 : p = p' <;> by_cases h3 : a = a' <;> by_cases h4 : l = l' <;> simp [h1, h2, h3, h4]
set_option maxHeartbeats 400000 in
theorem sLit_ac (x y : Lit) (hx : szL x.l) (hy : szL y.l) : AC Try.prog noG 60 [.d (.agg (litE x)), .d (.agg (litE y))] [] (fun v r' => v = .d (.c (.bool (decide (x = y)))) ∧ r' = []) := by
  refine AC.pure ?_ (by rintro v rfl; rfl)
  refine AC_of_R (N := 31) (res := [.tmp 4]) ty_ok Try.call60 Try.func60 rfl rfl rfl (Nat.le_of_ble_eq_true rfl) ?_
  have he := eqTs_ac x.l y.l hx hy
  have k1 := trmD x.b y.b
  have k2 := trmD x.a y.a
  have hl := litD x y
  by_cases h1 : x.b = y.b
  · rw [decide_eq_true h1] at k1 hl
    by_cases h2 : x.p = y.p
    · rw [decide_eq_true h2] at hl
      by_cases h3 : x.a = y.a
      · rw [decide_eq_true h3] at k2 hl
        simp only [Bool.true_and] at hl
        rw [hl] at he
        refine rn1 (jn @litE.eq_1 (jn @k1 (jn @h2 @k2))) ?_
        refine HO_pureA ty_ok he ?_
        exact rz0
      · rw [decide_eq_false h3] at k2 hl
        simp only [Bool.true_and, Bool.false_and] at hl
        rw [← hl]
        exact rz1 (jn @litE.eq_1 (jn @k1 (jn @h2 @k2)))
    · rw [decide_eq_false h2] at hl
      simp only [Bool.true_and, Bool.false_and] at hl
      rw [← hl]
      exact rz1 (jn @litE.eq_1 (jn @k1 @h2))
  · rw [decide_eq_false h1] at k1 hl
    simp only [Bool.false_and] at hl
    rw [← hl]
    exact rz1 (jn @litE.eq_1 @k1)
def eqlSt (l m : List Lit) (i : Nat) : List (Nat × AV) := [(1, .d (.sl 10 m.length (flatE litE m))), (2, .fn (.func 60) [] []), (15, .d (.sl 10 l.length (flatE litE l))), (16, .d (.c (.int .i64 l.length))), (17, .d (.c (.int .i64 i)))]
set_option maxHeartbeats 400000 in
theorem eqLits_ac (l m : List Lit) (hl : l.length ≤ 140737488352000) (hm : m.length ≤ 140737488352000) (hsl : ∀ x ∈ l, szL x.l) (hsm : ∀ x ∈ m, szL x.l) : AC Try.prog noG 59
    [.d (.sl 10 l.length (flatE litE l)), .d (.sl 10 m.length (flatE litE m)), .fn (.func 60) [] []] [] (fun v r' => v = .d (.c (.bool (decide (l = m)))) ∧ r' = []) := by
  refine AC.pure ?_ (by rintro v rfl; rfl)
  refine AC_of_R (N := 32) (res := [.tmp 6]) ty_ok Try.call59 Try.func59 rfl rfl rfl (Nat.le_of_ble_eq_true rfl) ?_
  by_cases hlen : l.length = m.length
  · have hlen' : (l.length : Int) = m.length := by omega
    refine rn1 @hlen' ?_
    refine HC_loopR (eqlSt l m) (fun _ => []) (fun i => i ≤ l.length ∧ decide (l.drop i = m.drop i) = decide (l = m)) (fun i => l.length - i) 0 [] [] ⟨by omega, by simp⟩ ?_ ?_
    · rw [← hlen']
      exact ft1 @eqlSt.eq_1
    intro i ⟨hi1, hi2⟩
    refine HC_of_R ty_ok ?_
    by_cases hlt : i < l.length
    · have hi : (i : Int) < l.length := by omega
      have hi' : (i : Int) < m.length := by omega
      have hlt' : i < m.length := by omega
      rw [eq_drop l m i hlt hlt'] at hi2
      have hd := flatE_drop litE_len l i hlt
      have hle := flatE_len litE_len l
      have hd2 := flatE_drop litE_len m i hlt'
      have hle2 := flatE_len litE_len m
      have hg := sLit_ac l[i] m[i] (hsl _ (List.getElem_mem hlt)) (hsm _ (List.getElem_mem hlt'))
      generalize l[i] = c at *
      generalize m[i] = d at *
      simp only [litE, List.cons_append, List.nil_append] at hd hd2
      refine rn1 (jn @eqlSt.eq_1 (jn @hi (jn @hi' (jn @hd (jn @hle (jn @hd2 (jn @hle2 @litE.eq_1))))))) ?_
      (repeat (refine And.intro (by omega) ?_))
      refine HO_pureA ty_ok hg ?_
      by_cases hc : c = d
      · rw [decide_eq_true hc, Bool.true_and] at hi2
        refine rn1 @hc ?_
        (repeat (refine And.intro (by omega) ?_))
        refine ⟨i + 1, ⟨by omega, hi2⟩, by omega, [], [], ?_⟩
        exact ft1 @eqlSt.eq_1
      · rw [decide_eq_false hc, Bool.false_and] at hi2
        refine rn1 @hc ?_
        rw [hi2]
    · have hi : ¬ (i : Int) < l.length := by omega
      rw [List.drop_of_length_le (by omega), List.drop_of_length_le (by omega)] at hi2
      refine rn1 (jn @eqlSt.eq_1 @hi) ?_
      rw [← hi2]; rfl
  · have hlen' : ¬ (l.length : Int) = m.length := by omega
    refine rn1 @hlen' ?_
    have : ¬ l = m := fun h => hlen (by rw [h])
    simp [this]
theorem rulD (x y : Rul) : (decide (x.h = y.h) && (decide (x.p = y.p) && (decide (x.t = y.t) && (decide (x.l = y.l) && decide (x.b = y.b))))) = decide (x = y) := by
  obtain ⟨h, p, l, t, b⟩ := x
  obtain ⟨h', p', l', t', b'⟩ := y
  simp only [Rul.mk.injEq]
  by_cases h1 : h = h' <;> by_cases h2 : p = p' <;> by_cases h3 : l = l' <;> by_cases h4 : t = t' <;> by_cases h5 : b = b' <;> simp [h1, h2, h3, h4, h5]
set_option maxHeartbeats 400000 in
theorem sRul_ac (x y : Rul) (hx : szR x) (hy : szR y) : AC Try.prog noG 29 [.d (.agg (rulE x)), .d (.agg (rulE y))] [] (fun v r' => v = .d (.c (.bool (decide (x = y)))) ∧ r' = []) := by
  refine AC.pure ?_ (by rintro v rfl; rfl)
  refine AC_of_R (N := 38) (res := [.tmp 4]) ty_ok Try.call29 Try.func29 rfl rfl rfl (Nat.le_of_ble_eq_true rfl) ?_
  have he := eqTs_ac x.l y.l hx.1 hy.1
  have hb := eqLits_ac x.b y.b hx.2.1 hy.2.1 hx.2.2 hy.2.2
  have k1 := trmD x.h y.h
  have k2 := trmD x.t y.t
  have hl := rulD x y
  by_cases h1 : x.h = y.h
  · rw [decide_eq_true h1] at k1 hl
    by_cases h2 : x.p = y.p
    · rw [decide_eq_true h2] at hl
      by_cases h3 : x.t = y.t
      · rw [decide_eq_true h3] at k2 hl
        simp only [Bool.true_and] at hl
        by_cases h4 : x.l = y.l
        · rw [decide_eq_true h4] at hl he
          simp only [Bool.true_and] at hl
          rw [hl] at hb
          refine rn1 (jn @rulE.eq_1 (jn @k1 (jn @h2 @k2))) ?_
          refine HO_pureA ty_ok he ?_
          refine rn0 ?_
          refine HO_pureA ty_ok hb ?_
          exact rz0
        · rw [decide_eq_false h4] at hl he
          simp only [Bool.false_and] at hl
          rw [← hl]
          refine rn1 (jn @rulE.eq_1 (jn @k1 (jn @h2 @k2))) ?_
          refine HO_pureA ty_ok he ?_
          exact rz0
      · rw [decide_eq_false h3] at k2 hl
        simp only [Bool.true_and, Bool.false_and] at hl
        rw [← hl]
        exact rz1 (jn @rulE.eq_1 (jn @k1 (jn @h2 @k2)))
    · rw [decide_eq_false h2] at hl
      simp only [Bool.true_and, Bool.false_and] at hl
      rw [← hl]
      exact rz1 (jn @rulE.eq_1 (jn @k1 @h2))
  · rw [decide_eq_false h1] at k1 hl
    simp only [Bool.false_and] at hl
    rw [← hl]
    exact rz1 (jn @rulE.eq_1 @k1)
def rsrSt (i : Nat) : List (Nat × AV) := [(2, .ptr 0 0), (3, .ptr 1 0), (5, .d (.c (.int .i64 i)))]
def rsrRe (x y : Rul) : Rs := [some (.obj ((rulE x).map .d)), some (.obj ((rulE y).map .d))]
set_option maxHeartbeats 1000000 in
theorem rsRul_ac (x y : Rul) (hx : szR x) (hy : szR y) : AC Try.prog noG 30 [.d (.agg (rulE x)), .d (.agg (rulE y))] [] (fun v r' => v = .d (.c (.bool (decide (x = y)))) ∧ r' = []) := by
  refine AC.pure ?_ (by rintro v rfl; rfl)
  refine AC_of_R (N := 88) (res := [.tmp 4]) ty_ok Try.call30 Try.func30 rfl rfl rfl (Nat.le_of_ble_eq_true rfl) ?_
  have he := reqTs_ac x.l y.l hx.1 hy.1
  have hxl := hx.2.1
  have k1 := trmD x.h y.h
  have k2 := trmD x.t y.t
  have hl := rulD x y
  by_cases h1 : x.h = y.h
  · rw [decide_eq_true h1] at k1 hl
    by_cases h2 : x.p = y.p
    · rw [decide_eq_true h2] at hl
      by_cases h3 : x.t = y.t
      · rw [decide_eq_true h3] at k2 hl
        simp only [Bool.true_and] at hl
        by_cases h4 : x.l = y.l
        · rw [decide_eq_true h4] at hl he
          simp only [Bool.true_and] at hl
          refine rn1 (jn @rulE.eq_1 (jn @k1 (jn @h2 @k2))) ?_
          refine HO_pureA ty_ok he ?_
          by_cases hlen : x.b.length = y.b.length
          · have hlen' : (x.b.length : Int) = y.b.length := by omega
            refine rn1 @hlen' ?_
            refine HC_loopR rsrSt (fun _ => rsrRe x y) (fun i => i ≤ x.b.length ∧ decide (x.b.drop i = y.b.drop i) = decide (x = y)) (fun i => x.b.length - i) 0 [0, 1] [] ⟨by omega, by simpa using hl⟩ ?_ ?_
            · exact ft1 (jn @rsrSt.eq_1 (jn @rsrRe.eq_1 (jn @rulE.eq_1 @h2)))
            intro i ⟨hi1, hi2⟩
            refine HC_of_R ty_ok ?_
            by_cases hlt : i < x.b.length
            · have hi : (i : Int) < x.b.length := by omega
              have hi' : (i : Int) < y.b.length := by omega
              have hlt' : i < y.b.length := by omega
              rw [eq_drop x.b y.b i hlt hlt'] at hi2
              have hd := flatE_drop litE_len x.b i hlt
              have hle := flatE_len litE_len x.b
              have hd2 := flatE_drop litE_len y.b i hlt'
              have hle2 := flatE_len litE_len y.b
              have hs1 := hx.2.2 _ (List.getElem_mem hlt)
              have hs2 := hy.2.2 _ (List.getElem_mem hlt')
              generalize x.b[i] = c at *
              generalize y.b[i] = d at *
              have g1 := trmD c.b d.b
              have g2 := trmD c.a d.a
              have ge := reqTs_ac c.l d.l hs1 hs2
              have gl := litD c d
              simp only [litE, List.cons_append, List.nil_append] at hd hd2
              by_cases m1 : c.b = d.b
              · rw [decide_eq_true m1] at g1 gl
                by_cases m2 : c.p = d.p
                · rw [decide_eq_true m2] at gl
                  by_cases m3 : c.a = d.a
                  · rw [decide_eq_true m3] at g2 gl
                    simp only [Bool.true_and] at gl
                    refine rn1 (jn @rsrSt.eq_1 (jn @rsrRe.eq_1 (jn @rulE.eq_1 (jn @hi (jn @hi' (jn @hd (jn @hle (jn @hd2 (jn @hle2 (jn @g1 (jn @m2 @g2))))))))))) ?_
                    (repeat (refine And.intro (by omega) ?_))
                    refine HO_pureA ty_ok ge ?_
                    rw [← gl] at hi2
                    by_cases m4 : c.l = d.l
                    · rw [decide_eq_true m4, Bool.true_and] at hi2
                      refine rn1 @m4 ?_
                      (repeat (refine And.intro (by omega) ?_))
                      refine ⟨i + 1, ⟨by omega, hi2⟩, by omega, [0, 1], [], ?_⟩
                      exact ft1 (jn @rsrSt.eq_1 (jn @rsrRe.eq_1 @rulE.eq_1))
                    · rw [decide_eq_false m4, Bool.false_and] at hi2
                      refine rn1 @m4 ?_
                      rw [← hi2]
                  · rw [decide_eq_false m3] at g2 gl
                    simp only [Bool.true_and, Bool.false_and] at gl
                    rw [← gl, Bool.false_and] at hi2
                    rw [← hi2]
                    refine rn1 (jn @rsrSt.eq_1 (jn @rsrRe.eq_1 (jn @rulE.eq_1 (jn @hi (jn @hi' (jn @hd (jn @hle (jn @hd2 (jn @hle2 (jn @g1 (jn @m2 @g2))))))))))) ?_
                    omega
                · rw [decide_eq_false m2] at gl
                  simp only [Bool.true_and, Bool.false_and] at gl
                  rw [← gl, Bool.false_and] at hi2
                  rw [← hi2]
                  refine rn1 (jn @rsrSt.eq_1 (jn @rsrRe.eq_1 (jn @rulE.eq_1 (jn @hi (jn @hi' (jn @hd (jn @hle (jn @hd2 (jn @hle2 (jn @g1 @m2)))))))))) ?_
                  omega
              · rw [decide_eq_false m1] at g1 gl
                simp only [Bool.false_and] at gl
                rw [← gl, Bool.false_and] at hi2
                rw [← hi2]
                refine rn1 (jn @rsrSt.eq_1 (jn @rsrRe.eq_1 (jn @rulE.eq_1 (jn @hi (jn @hi' (jn @hd (jn @hle (jn @hd2 (jn @hle2 @g1))))))))) ?_
                omega
            · have hi : ¬ (i : Int) < x.b.length := by omega
              rw [List.drop_of_length_le (by omega), List.drop_of_length_le (by omega)] at hi2
              refine rn1 (jn @rsrSt.eq_1 (jn @rsrRe.eq_1 (jn @rulE.eq_1 @hi))) ?_
              rw [← hi2]; rfl
          · have hlen' : ¬ (x.b.length : Int) = y.b.length := by omega
            rw [decide_eq_false (fun h => hlen (by rw [h]))] at hl
            rw [← hl]
            exact rz1 @hlen'
        · rw [decide_eq_false h4] at hl he
          simp only [Bool.false_and] at hl
          rw [← hl]
          refine rn1 (jn @rulE.eq_1 (jn @k1 (jn @h2 @k2))) ?_
          refine HO_pureA ty_ok he ?_
          exact rz0
      · rw [decide_eq_false h3] at k2 hl
        simp only [Bool.true_and, Bool.false_and] at hl
        rw [← hl]
        exact rz1 (jn @rulE.eq_1 (jn @k1 (jn @h2 @k2)))
    · rw [decide_eq_false h2] at hl
      simp only [Bool.true_and, Bool.false_and] at hl
      rw [← hl]
      exact rz1 (jn @rulE.eq_1 (jn @k1 @h2))
  · rw [decide_eq_false h1] at k1 hl
    simp only [Bool.false_and] at hl
    rw [← hl]
    exact rz1 (jn @rulE.eq_1 @k1)
def lkSt (l m : List Rul) (i : Nat) : List (Nat × AV) := [(0, .d (.sl 11 l.length (flatE rulE l))), (1, .d (.sl 11 m.length (flatE rulE m))), (5, .d (.c (.int .i64 i)))]
set_option maxHeartbeats 400000 in
theorem like_ac (l m : List Rul) (hl : l.length ≤ 140737488352000) (hm : m.length ≤ 140737488352000) (hsl : ∀ x ∈ l, szR x) (hsm : ∀ x ∈ m, szR x) : AC Try.prog noG 16
    [.d (.sl 11 l.length (flatE rulE l)), .d (.sl 11 m.length (flatE rulE m))] [] (fun v r' => v = .d (.c (.bool (decide (l = m)))) ∧ r' = []) := by
  refine AC.pure ?_ (by rintro v rfl; rfl)
  refine AC_of_R (N := 27) (res := [.tmp 4]) ty_ok Try.call16 Try.func16 rfl rfl rfl (Nat.le_of_ble_eq_true rfl) ?_
  by_cases hlen : l.length = m.length
  · have hlen' : (l.length : Int) = m.length := by omega
    refine rn1 @hlen' ?_
    refine HC_loopR (lkSt l m) (fun _ => []) (fun i => i ≤ l.length ∧ decide (l.drop i = m.drop i) = decide (l = m)) (fun i => l.length - i) 0 [] [] ⟨by omega, by simp⟩ ?_ ?_
    · rw [← hlen']
      exact ft1 @lkSt.eq_1
    intro i ⟨hi1, hi2⟩
    refine HC_of_R ty_ok ?_
    by_cases hlt : i < l.length
    · have hi : (i : Int) < l.length := by omega
      have hi' : (i : Int) < m.length := by omega
      have hlt' : i < m.length := by omega
      rw [eq_drop l m i hlt hlt'] at hi2
      have hd := flatE_drop rulE_len l i hlt
      have hle := flatE_len rulE_len l
      have hd2 := flatE_drop rulE_len m i hlt'
      have hle2 := flatE_len rulE_len m
      have hg := rsRul_ac l[i] m[i] (hsl _ (List.getElem_mem hlt)) (hsm _ (List.getElem_mem hlt'))
      generalize l[i] = c at *
      generalize m[i] = d at *
      simp only [rulE, List.cons_append, List.nil_append] at hd hd2 hg
      refine rn1 (jn @lkSt.eq_1 (jn @hi @hi')) ?_
      refine HC_plan [] ty_ok mix (by kernel_rfl) ?_
      refine rn1 (jn @hd (jn @hle (jn @hd2 @hle2))) ?_
      (repeat (refine And.intro (by omega) ?_))
      refine HO_pureA ty_ok hg ?_
      by_cases hc : c = d
      · rw [decide_eq_true hc, Bool.true_and] at hi2
        refine rn1 @hc ?_
        (repeat (refine And.intro (by omega) ?_))
        refine ⟨i + 1, ⟨by omega, hi2⟩, by omega, [], [], ?_⟩
        exact ft1 @lkSt.eq_1
      · rw [decide_eq_false hc, Bool.false_and] at hi2
        refine rn1 @hc ?_
        rw [hi2]
    · have hi : ¬ (i : Int) < l.length := by omega
      rw [List.drop_of_length_le (by omega), List.drop_of_length_le (by omega)] at hi2
      refine rn1 (jn @lkSt.eq_1 @hi) ?_
      rw [← hi2]; rfl
  · have hlen' : ¬ (l.length : Int) = m.length := by omega
    refine rn1 @hlen' ?_
    have : ¬ l = m := fun h => hlen (by rw [h])
    simp [this]
end Go.Proofs.Ytfeoafddagdbfaa
