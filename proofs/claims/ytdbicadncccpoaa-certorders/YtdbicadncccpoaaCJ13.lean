/- Parts of the proof: CSame, CWt, OpenA, OpenE, CRef, CRefE, CLEnt, CLight. -/
import Derived.Test.YtdbicadncccpoaaCJ5
import Derived.Test.YtdbicadncccpoaaCJ12
import Derived.Test.YtdbicadncccpoaaCJ0
import Derived.Test.YtdbicadncccpoaaCJ8
import Derived.Test.YtdbicadncccpoaaCJ7
set_option linter.unusedVariables false
set_option linter.unusedSimpArgs false
set_option maxRecDepth 100000
namespace Go.Proofs.Ytdbicadncccpoaa
open Go Go.ChangeShapes Go.WideShapes
/-! The document's Same and Like of entries. -/
def rlSt (l m : List Fct) (i : Nat) : List (Nat × AV) := [(0, .d (.sl 4 l.length (flatE fctE l))), (1, .d (.sl 4 m.length (flatE fctE m))), (5, .d (.c (.int .i64 i)))]
theorem take_eq_step {α : Type} {l m : List α} {i : Nat} (hl : i < l.length) (hm : i < m.length) (h : l.take i = m.take i) (he : l[i] = m[i]) : l.take (i + 1) = m.take (i + 1) := by
  rw [List.take_succ_eq_append_getElem hl, List.take_succ_eq_append_getElem hm, h, he]
theorem ne_at {α : Type} {l m : List α} {i : Nat} (hl : i < l.length) (hm : i < m.length) (he : l[i] ≠ m[i]) : l ≠ m := by
  intro h; subst h; exact he rfl
set_option maxHeartbeats 400000 in
theorem rlikeF_ac (l m : List Fct) (hl : l.length ≤ 1000000) (hm : m.length ≤ 1000000) (hsl : ∀ f ∈ l, f.l.length ≤ 1000000) (hsm : ∀ f ∈ m, f.l.length ≤ 1000000) :
    AC Try.prog noG 60 [.d (.sl 4 l.length (flatE fctE l)), .d (.sl 4 m.length (flatE fctE m))] [] (fun v r' => v = .d (.c (.bool (decide (l = m)))) ∧ r' = []) := by
  refine AC.pure ?_ (by rintro v rfl; rfl)
  refine AC_of_R (N := 27) (res := [.tmp 4]) ty_ok Try.call60 Try.func60 rfl rfl rfl (Nat.le_of_ble_eq_true rfl) ?_
  by_cases hn : (l.length : Int) = m.length
  · have hn' : l.length = m.length := by omega
    refine rn1 @hn ?_
    refine HC_loopR (fun i : Nat => rlSt l m i) (fun _ => []) (fun i => i ≤ l.length ∧ l.take i = m.take i) (fun i => l.length - i) 0 [] [] ⟨by omega, rfl⟩ ?_ ?_
    · exact ft1 (jn @hn @rlSt.eq_1)
    intro i ⟨hi1, hi2⟩
    refine HC_of_R ty_ok ?_
    by_cases hlt : i < l.length
    · have hi : (i : Int) < l.length := by omega
      have him : (i : Int) < m.length := by omega
      have hltm : i < m.length := by omega
      have hd := flatE_drop fctE_len l i hlt
      have hle := flatE_len fctE_len l
      have hd2 := flatE_drop fctE_len m i hltm
      have hle2 := flatE_len fctE_len m
      have hst := take_eq_step hlt hltm hi2
      have hne := ne_at hlt hltm
      have hg := rord_ac l[i] m[i] (Nat.le_trans (hsl _ (List.getElem_mem hlt)) (by decide)) (Nat.le_trans (hsm _ (List.getElem_mem hltm)) (by decide))
      generalize l[i] = f at *
      generalize m[i] = g at *
      simp only [fctE, List.cons_append, List.nil_append] at hd hd2 hg
      refine rn1 (jn @rlSt.eq_1 (jn @hi @him)) ?_
      refine HC_plan [] ty_ok mix (by kernel_rfl) ?_
      refine rn1 (jn @hi (jn @him (jn @hd (jn @hle (jn @hd2 @hle2))))) ?_
      (repeat (refine And.intro (by omega) ?_))
      refine HO_pureA ty_ok hg ?_
      by_cases he : f = g
      · rw [ordC_zero.2 he]
        refine rn0 ?_
        (repeat (refine And.intro (by omega) ?_))
        refine ⟨i + 1, ⟨by omega, hst he⟩, by omega, [], [], ?_⟩
        exact ft1 @rlSt.eq_1
      · have h0 : ¬ ordC f g = 0 := fun h => he (ordC_zero.1 h)
        have e : decide (l = m) = false := decide_eq_false (hne he)
        rw [e]
        exact rz1 @h0
    · have hi : ¬ (i : Int) < l.length := by omega
      rw [List.take_of_length_le (by omega), List.take_of_length_le (by omega)] at hi2
      have e : decide (l = m) = true := decide_eq_true hi2
      rw [e]
      exact rz1 (jn @rlSt.eq_1 @hi)
  · have e : decide (l = m) = false := decide_eq_false (fun h => hn (by rw [h]))
    rw [e]
    exact rz1 @hn
set_option maxHeartbeats 400000 in
theorem rsameE_ac (x y : Ntr) (hx : okE x) (hy : okE y) : AC Try.prog noG 27 [.d (.agg (entE x)), .d (.agg (entE y))] [] (fun v r' => v = .d (.c (.bool (decide (x = y)))) ∧ r' = []) := by
  refine AC.pure ?_ (by rintro v rfl; rfl)
  refine AC_of_R (N := 39) (res := [.tmp 4]) ty_ok Try.call27 Try.func27 rfl rfl rfl (Nat.le_of_ble_eq_true rfl) ?_
  obtain ⟨t1, t2, t3, t4, t5, t6⟩ := tg32 x.tg hx.1
  obtain ⟨u1, u2, u3, u4, u5, u6⟩ := tg32 y.tg hy.1
  have ko := rord_ac x.f y.f (Nat.le_trans hx.2.1 (by decide)) (Nat.le_trans hy.2.1 (by decide))
  have kl := rlikeF_ac x.body y.body hx.2.2.1 hy.2.2.1 hx.2.2.2 hy.2.2.2
  obtain ⟨f, w, r, b, tg⟩ := x
  obtain ⟨f2, w2, r2, b2, tg2⟩ := y
  simp only at t1 t2 t3 t4 t5 t6 u1 u2 u3 u4 u5 u6 ko kl
  simp only [fctE] at ko
  by_cases h1 : w = w2
  · by_cases h2 : r = r2
    · by_cases h3 : tg = tg2
      · subst h1 h2 h3
        by_cases h4 : f = f2
        · rw [ordC_zero.2 h4] at ko
          have e : decide ((⟨f, w, r, b, tg⟩ : Ntr) = ⟨f2, w, r, b2, tg⟩) = decide (b = b2) := by simp [h4]
          rw [e]
          refine rn1 (jn @entE.eq_1 (jn @fctE.eq_1 (jn @t1 (jn @t2 (jn @t3 (jn @t4 (jn @t5 (jn @t6 @tA_allD)))))))) ?_
          refine HO_pureA ty_ok ko ?_
          refine rn1 (jn @t1 (jn @t2 (jn @t3 (jn @t4 (jn @t5 (jn @t6 @tA_allD)))))) ?_
          refine HO_pureA ty_ok kl ?_
          exact rz0
        · have h0 : ¬ ordC f f2 = 0 := fun h => h4 (ordC_zero.1 h)
          have e : decide ((⟨f, w, r, b, tg⟩ : Ntr) = ⟨f2, w, r, b2, tg⟩) = false := by simp [h4]
          rw [e]
          refine rn1 (jn @entE.eq_1 (jn @fctE.eq_1 (jn @t1 (jn @t2 (jn @t3 (jn @t4 (jn @t5 (jn @t6 @tA_allD)))))))) ?_
          refine HO_pureA ty_ok ko ?_
          exact rz1 @h0
      · skip
        have e : decide ((⟨f, w, r, b, tg⟩ : Ntr) = ⟨f2, w2, r2, b2, tg2⟩) = false := by simp [h1,h2,h3]
        rw [e]
        exact rz1 (jn @entE.eq_1 (jn @fctE.eq_1 (jn @t1 (jn @t2 (jn @t3 (jn @t4 (jn @t5 (jn @t6 (jn @u1 (jn @u2 (jn @u3 (jn @u4 (jn @u5 (jn @u6 (jn @tA_allD (jn @h1 (jn @h2 @h3)))))))))))))))))
    · skip
      have e : decide ((⟨f, w, r, b, tg⟩ : Ntr) = ⟨f2, w2, r2, b2, tg2⟩) = false := by simp [h1,h2]
      rw [e]
      exact rz1 (jn @entE.eq_1 (jn @fctE.eq_1 (jn @t1 (jn @t2 (jn @t3 (jn @t4 (jn @t5 (jn @t6 (jn @u1 (jn @u2 (jn @u3 (jn @u4 (jn @u5 (jn @u6 (jn @tA_allD (jn @h1 @h2))))))))))))))))
  · skip
    have e : decide ((⟨f, w, r, b, tg⟩ : Ntr) = ⟨f2, w2, r2, b2, tg2⟩) = false := by simp [h1]
    rw [e]
    exact rz1 (jn @entE.eq_1 (jn @fctE.eq_1 (jn @t1 (jn @t2 (jn @t3 (jn @t4 (jn @t5 (jn @t6 (jn @u1 (jn @u2 (jn @u3 (jn @u4 (jn @u5 (jn @u6 (jn @tA_allD @h1)))))))))))))))
def rleSt (l m : List Ntr) (i : Nat) : List (Nat × AV) := [(0, .d (.sl 39 l.length (flE l))), (1, .d (.sl 39 m.length (flE m))), (5, .d (.c (.int .i64 i)))]
set_option maxHeartbeats 400000 in
theorem rlikeE_ac (l m : List Ntr) (hl : okL l) (hm : okL m) :
    AC Try.prog noG 23 [.d (.sl 39 l.length (flE l)), .d (.sl 39 m.length (flE m))] [] (fun v r' => v = .d (.c (.bool (decide (l = m)))) ∧ r' = []) := by
  refine AC.pure ?_ (by rintro v rfl; rfl)
  refine AC_of_R (N := 27) (res := [.tmp 4]) ty_ok Try.call23 Try.func23 rfl rfl rfl (Nat.le_of_ble_eq_true rfl) ?_
  have hl1 := hl.1
  have hm1 := hm.1
  by_cases hn : (l.length : Int) = m.length
  · have hn' : l.length = m.length := by omega
    refine rn1 @hn ?_
    refine HC_loopR (fun i : Nat => rleSt l m i) (fun _ => []) (fun i => i ≤ l.length ∧ l.take i = m.take i) (fun i => l.length - i) 0 [] [] ⟨by omega, rfl⟩ ?_ ?_
    · exact ft1 (jn @hn @rleSt.eq_1)
    intro i ⟨hi1, hi2⟩
    refine HC_of_R ty_ok ?_
    by_cases hlt : i < l.length
    · have hi : (i : Int) < l.length := by omega
      have him : (i : Int) < m.length := by omega
      have hltm : i < m.length := by omega
      have hd := flE_drop hl i hlt
      have hle := flE_len hl
      have hd2 := flE_drop hm i hltm
      have hle2 := flE_len hm
      have hst := take_eq_step hlt hltm hi2
      have hne := ne_at hlt hltm
      have hox := hl.2 l[i] (List.getElem_mem hlt)
      have hoy := hm.2 m[i] (List.getElem_mem hltm)
      generalize l[i] = x at *
      generalize m[i] = y at *
      have hg := rsameE_ac x y hox hoy
      obtain ⟨t1, t2, t3, t4, t5, t6⟩ := tg32 x.tg hox.1
      obtain ⟨u1, u2, u3, u4, u5, u6⟩ := tg32 y.tg hoy.1
      have htk : (bD x.tg ++ flE (l.drop (i + 1))).take 32 = bD x.tg := by rw [← t2]; exact List.take_left
      have htk2 : (bD y.tg ++ flE (m.drop (i + 1))).take 32 = bD y.tg := by rw [← u2]; exact List.take_left
      simp only [entE, fctE, List.cons_append, List.nil_append] at hd hd2 hg
      refine rn1 (jn @rleSt.eq_1 (jn @hi @him)) ?_
      refine HC_plan [] ty_ok mix (by kernel_rfl) ?_
      refine rn1 (jn @hi (jn @him (jn @hd (jn @hle (jn @hd2 (jn @hle2 (jn @htk (jn @htk2 (jn @t1 (jn @t2 (jn @t3 (jn @t4 (jn @t5 (jn @t6 (jn @u1 (jn @u2 (jn @u3 (jn @u4 (jn @u5 @u6))))))))))))))))))) ?_
      (repeat (refine And.intro (by omega) ?_))
      refine HO_pureA ty_ok hg ?_
      by_cases he : x = y
      · rw [decide_eq_true he]
        refine rn0 ?_
        (repeat (refine And.intro (by omega) ?_))
        refine ⟨i + 1, ⟨by omega, hst he⟩, by omega, [], [], ?_⟩
        exact ft1 @rleSt.eq_1
      · have e : decide (l = m) = false := decide_eq_false (hne he)
        rw [decide_eq_false he, e]
        exact rz0
    · have hi : ¬ (i : Int) < l.length := by omega
      rw [List.take_of_length_le (by omega), List.take_of_length_le (by omega)] at hi2
      have e : decide (l = m) = true := decide_eq_true hi2
      rw [e]
      exact rz1 (jn @rleSt.eq_1 @hi)
  · have e : decide (l = m) = false := decide_eq_false (fun h => hn (by rw [h]))
    rw [e]
    exact rz1 @hn
end Go.Proofs.Ytdbicadncccpoaa

set_option linter.unusedVariables false
set_option linter.unusedSimpArgs false
set_option maxRecDepth 100000
namespace Go.Proofs.Ytdbicadncccpoaa
open Go Go.ChangeShapes Go.WideShapes
/-! The weight of entries. -/
set_option maxHeartbeats 1000000 in
theorem wF2_ac (l : List Fct) (m : Int) (hl : l.length ≤ 140737488352000) (hs : ∀ f ∈ l, szF f) (m0 : 0 ≤ m) (m1 : m ≤ 1000000) : AC Try.prog noG 32 [.d (.sl 4 l.length (flatE fctE l)), .d (.c (.int .i64 m))] []
    (fun v r' => (∃ n : Int, v = .d (.c (.int .i64 n)) ∧ (0 ≤ n ∧ n ≤ 1000000000000000) ∧ (n ≤ m → (l.length : Int) ≤ m ∧ ∀ f ∈ l, (f.l.length : Int) ≤ m)) ∧ r' = []) := by
  refine AC.pure ?_ (by rintro v ⟨n, rfl, _, _⟩; rfl)
  refine AC_of_R (N := 79) (res := [.tmp 4]) ty_ok Try.call32 Try.func32 rfl rfl rfl (Nat.le_of_ble_eq_true rfl) ?_
  refine rn0 ?_
  refine HC_loopR (wfSt1 l m) (fun _ => []) (fun x => x.1 ≤ l.length ∧ (x.1 : Int) ≤ x.2 ∧ x.2 ≤ 1000000000000000 ∧ ∀ f ∈ l.take x.1, (f.l.length : Int) ≤ x.2) (fun x => l.length - x.1) (0, 0) [] [] ⟨by simp, by simp, by simp, by simp⟩ ?_ ?_
  · exact ft1 @wfSt1.eq_1
  intro ⟨i, n⟩ ⟨h1, h2, h3, h5⟩
  simp only at h1 h2 h3 h5
  refine HC_of_R ty_ok ?_
  by_cases hlt : i < l.length
  · have hi : (i : Int) < l.length := by omega
    by_cases hn : n ≤ m
    · have hd := flatE_drop fctE_len l i hlt
      have hle := flatE_len fctE_len l
      have hsz := hs l[i] (List.getElem_mem hlt)
      have htk := List.take_succ_eq_append_getElem hlt
      generalize l[i] = f at *
      obtain ⟨z1, z2, z3, z4, z5⟩ := hsz
      simp only [fctE, List.cons_append, List.nil_append] at hd
      refine rn1 (jn @wfSt1.eq_1 (jn @hi @hn)) ?_
      refine HC_plan [] ty_ok mix (by kernel_rfl) ?_
      refine rn1 (jn @hd @hle) ?_
      (repeat (refine And.intro (by omega) ?_))
      obtain ⟨n0, hn0⟩ : ∃ n0 : Int, n0 = n + (1 + (f.l.length : Int) + ((f.a.size : Int) + f.b.size + f.p.size) / 16) := ⟨_, rfl⟩
      have hb0 : n + 1 ≤ n0 ∧ n0 ≤ 900000000000000 ∧ (f.l.length : Int) ≤ n0 := by omega
      have hnew : ∀ q : Int, n0 ≤ q → ∀ g ∈ l.take (i + 1), (g.l.length : Int) ≤ q := by
        intro q hq g hg
        rw [htk, List.mem_append, List.mem_singleton] at hg
        rcases hg with hg | rfl
        · have := h5 g hg; omega
        · omega
      refine HC_loopR (wfSt2 l m i) (fun _ => []) (fun x => x.1 ≤ f.l.length ∧ n0 ≤ x.2 ∧ x.2 ≤ 1000000000000000) (fun x => f.l.length - x.1) (0, n0) [] [] ⟨by simp, by simp, by simp only; omega⟩ ?_ ?_
      · rw [hn0]
        exact ft1 @wfSt2.eq_1
      intro ⟨k, q⟩ ⟨g1, g2, g3⟩
      simp only at g1 g2 g3
      refine HC_of_R ty_ok ?_
      by_cases hkl : k < f.l.length
      · have hk : (k : Int) < f.l.length := by omega
        by_cases hq : q ≤ m
        · have hd2 := flatE_drop cstE_len f.l k hkl
          have hle2 := flatE_len cstE_len f.l
          have hsz := z5 f.l[k] (List.getElem_mem hkl)
          generalize f.l[k] = c at *
          simp only [cstE, List.cons_append, List.nil_append] at hd2
          refine rn1 (jn @wfSt2.eq_1 (jn @hi (jn @hd (jn @hle (jn @hk (jn @hq (jn @hd2 @hle2))))))) ?_
          (repeat (refine And.intro (by omega) ?_))
          refine ⟨(k + 1, q + (c.s.size : Int) / 16), ⟨by simp only; omega, by simp only; omega, by simp only; omega⟩, by simp only; omega, [], [], ?_⟩
          exact ft1 @wfSt2.eq_1
        · refine rn1 (jn @wfSt2.eq_1 (jn @hi (jn @hd (jn @hle (jn @hk @hq))))) ?_
          (repeat (refine And.intro (by omega) ?_))
          refine ⟨(i + 1, q), ⟨by simp only; omega, by simp only; omega, by simp only; omega, hnew q (by omega)⟩, by simp only; omega, [], [], ?_⟩
          exact ft1 @wfSt1.eq_1
      · have hk : ¬ (k : Int) < f.l.length := by omega
        refine rn1 (jn @wfSt2.eq_1 (jn @hi (jn @hd (jn @hle @hk)))) ?_
        (repeat (refine And.intro (by omega) ?_))
        refine ⟨(i + 1, q), ⟨by simp only; omega, by simp only; omega, by simp only; omega, hnew q (by omega)⟩, by simp only; omega, [], [], ?_⟩
        exact ft1 @wfSt1.eq_1
    · refine rn1 (jn @wfSt1.eq_1 (jn @hi @hn)) ?_
      exact ⟨n, rfl, ⟨by omega, h3⟩, fun h => absurd h hn⟩
  · have hi : ¬ (i : Int) < l.length := by omega
    refine rn1 (jn @wfSt1.eq_1 @hi) ?_
    rw [List.take_of_length_le (by omega)] at h5
    exact ⟨n, rfl, ⟨by omega, h3⟩, fun h => ⟨by omega, fun g hg => by have := h5 g hg; omega⟩⟩
/-- Entries as memory can hold them. -/
def szE (x : Ntr) : Prop := x.tg.length = 32 ∧ szF x.f ∧ x.body.length ≤ 140737488352000 ∧ ∀ f ∈ x.body, szF f
theorem flE_drop' {L : List Ntr} (h : ∀ x ∈ L, x.tg.length = 32) (i : Nat) (hi : i < L.length) : (flE L).drop (i * 39) = entE L[i] ++ flE (L.drop (i + 1)) ∧ (flE L).length = 39 * L.length := by
  have key : ∀ (l : List Ntr) (i : Nat) (hi : i < l.length), (∀ x ∈ l, x.tg.length = 32) → (flatE entE l).drop (i * 39) = entE l[i] ++ flatE entE (l.drop (i + 1)) := by
    intro l
    induction l with
    | nil => intro i hi; simp at hi
    | cons a l ih =>
      intro i hi h
      have ha := entE_len (h a (by simp))
      cases i with
      | zero => rw [flatE_cons]; simp
      | succ i =>
        rw [flatE_cons, show (i + 1) * 39 = 39 + i * 39 by omega, ← List.drop_drop, ← ha, List.drop_left, ha, ih i (by simpa using hi) (fun x hx => h x (List.mem_cons_of_mem _ hx))]
        simp
  have key2 : ∀ l : List Ntr, (∀ x ∈ l, x.tg.length = 32) → (flatE entE l).length = 39 * l.length := by
    intro l
    induction l with
    | nil => intro _; rfl
    | cons a l ih =>
      intro h
      rw [flatE_cons, List.length_append, entE_len (h a (by simp)), ih (fun x hx => h x (List.mem_cons_of_mem _ hx)), List.length_cons]; omega
  exact ⟨key L i hi h, key2 L h⟩
def weSt (l : List Ntr) (m : Int) (x : Nat × Int) : List (Nat × AV) := [(0, .d (.sl 39 l.length (flE l))), (1, .d (.c (.int .i64 m))), (5, .d (.c (.int .i64 x.2))), (6, .d (.c (.int .i64 x.1)))]
def ltE (m : Int) (x : Ntr) : Prop := (x.f.l.length : Int) ≤ m ∧ (x.body.length : Int) ≤ m ∧ ∀ g ∈ x.body, (g.l.length : Int) ≤ m
set_option maxHeartbeats 1000000 in
theorem wE_ac (l : List Ntr) (m : Int) (hl : l.length ≤ 140737488352000) (hs : ∀ x ∈ l, szE x) (m0 : 0 ≤ m) (m1 : m ≤ 1000000) : AC Try.prog noG 24 [.d (.sl 39 l.length (flE l)), .d (.c (.int .i64 m))] []
    (fun v r' => (∃ n : Int, v = .d (.c (.int .i64 n)) ∧ (0 ≤ n ∧ n ≤ 3000000000000000) ∧ (n ≤ m → (l.length : Int) ≤ m ∧ ∀ x ∈ l, ltE m x)) ∧ r' = []) := by
  refine AC.pure ?_ (by rintro v ⟨n, rfl, _, _⟩; rfl)
  refine AC_of_R (N := 38) (res := [.tmp 4]) ty_ok Try.call24 Try.func24 rfl rfl rfl (Nat.le_of_ble_eq_true rfl) ?_
  refine rn0 ?_
  refine HC_loopR (weSt l m) (fun _ => []) (fun x => x.1 ≤ l.length ∧ (x.1 : Int) ≤ x.2 ∧ x.2 ≤ 3000000000000000 ∧ (x.2 ≤ m → ∀ y ∈ l.take x.1, ltE m y)) (fun x => l.length - x.1) (0, 0) [] [] ⟨by simp, by simp, by simp, by simp⟩ ?_ ?_
  · exact ft1 @weSt.eq_1
  intro ⟨i, n⟩ ⟨h1, h2, h3, h5⟩
  simp only at h1 h2 h3 h5
  refine HC_of_R ty_ok ?_
  by_cases hlt : i < l.length
  · have hi : (i : Int) < l.length := by omega
    by_cases hn : n ≤ m
    · obtain ⟨hd, hle⟩ := flE_drop' (fun x hx => (hs x hx).1) i hlt
      have hsz := hs l[i] (List.getElem_mem hlt)
      have htk := List.take_succ_eq_append_getElem hlt
      generalize l[i] = x at *
      have k1 := wF2_ac [x.f] m (by simp) (by simpa using hsz.2.1) m0 m1
      have k2 := wF2_ac x.body m hsz.2.2.1 hsz.2.2.2 m0 m1
      rw [show flatE fctE [x.f] = fctE x.f by simp [flatE], show [x.f].length = 1 from rfl] at k1
      simp only [entE, fctE, List.cons_append, List.nil_append] at hd k1
      refine rn1 (jn @weSt.eq_1 (jn @hi @hn)) ?_
      refine HC_order [8] ty_ok mix [0, 1, 2, 3, 4, 5, 7, 10, 11, 12, 13, 14, 15, 6, 8, 9, 16, 17, 18, 19] (by kernel_rfl) rfl _ rfl ?_
      simp only [opl_nil', opl_cons', oplC_some, List.getElem?_toArray, List.getElem?_cons_zero, List.getElem?_cons_succ]
      refine rn1 (jn @hi (jn @hd @hle)) ?_
      (repeat (refine And.intro (by omega) ?_))
      refine HO_callX ty_ok [] k1 (trivial) rfl ?_
      rintro v r' ⟨⟨n1, rfl, ⟨p1, p2⟩, p3⟩, rfl⟩ _
      refine rn1 (jn @hi (jn @hd @hle)) ?_
      (repeat (refine And.intro (by omega) ?_))
      refine HO_callX ty_ok [] k2 (trivial) rfl ?_
      rintro v r' ⟨⟨n2, rfl, ⟨q1, q2⟩, q3⟩, rfl⟩ _
      refine rn1 (jn @hi (jn @hd @hle)) ?_
      (repeat (refine And.intro (by omega) ?_))
      refine ⟨(i + 1, n + (1 + n1 + n2)), ⟨by simp only; omega, by simp only; omega, by simp only; omega, ?_⟩, by simp only; omega, [], [], ?_⟩
      · intro hq y hy
        simp only at hq hy
        rw [htk, List.mem_append, List.mem_singleton] at hy
        rcases hy with hy | rfl
        · exact h5 (by omega) y hy
        · exact ⟨(p3 (by omega)).2 _ (by simp), (q3 (by omega)).1, (q3 (by omega)).2⟩
      · exact ft1 @weSt.eq_1
    · refine rn1 (jn @weSt.eq_1 (jn @hi @hn)) ?_
      exact ⟨n, rfl, ⟨by omega, h3⟩, fun h => absurd h hn⟩
  · have hi : ¬ (i : Int) < l.length := by omega
    refine rn1 (jn @weSt.eq_1 @hi) ?_
    rw [List.take_of_length_le (by omega)] at h5
    exact ⟨n, rfl, ⟨by omega, h3⟩, fun h => ⟨by omega, h5 h⟩⟩
end Go.Proofs.Ytdbicadncccpoaa

set_option linter.unusedVariables false
set_option linter.unusedSimpArgs false
set_option maxRecDepth 100000
namespace Go.Proofs.Ytdbicadncccpoaa
open Go Go.ChangeShapes Go.WideShapes
theorem opens_array {P : Program} {t e : TypeId} {α : Type} {en : α → List D} {ms : α → Nat} {ok : α → Prop} {n sz : Nat} (ht : P.underlying t = some (.array n e)) (hsz : P.cellsOf e = sz) (hct : P.cellsOf t = n * sz) (hen : ∀ a, ok a → (en a).length = sz) (h : Opens P e en ms ok) :
    Opens P t (fun l : List α => l.flatMap en) (fun _ => 1) (fun l => l.length = n ∧ ∀ a ∈ l, ok a) := by
  intro H enc W fuel cs x hx hw
  obtain ⟨xs, m, _, rfl, hl, hlen, hf⟩ := DataW.trod_array ht hx
  have hlist : ∀ k, k ≤ n → ∃ l : List α, l.length = k ∧ (∀ a ∈ l, ok a) ∧ RL (oldT W) W (l.flatMap en) (cs.take (k * sz)) := by
    intro k
    induction k with
    | zero => exact fun _ => ⟨[], rfl, fun a ha => by simp at ha, by simp [RL]⟩
    | succ k ih =>
      intro hk
      obtain ⟨l, hl1, hok, hr⟩ := ih (by omega)
      have hi : k < xs.length := by omega
      have h1 := hf k (by omega)
      rw [List.getElem?_eq_getElem hi, hsz] at h1
      have hm : xs[k].1 ∈ xs.map (·.1) := List.mem_map.2 ⟨xs[k], List.getElem_mem hi, rfl⟩
      obtain ⟨a, o1, r1, _⟩ := h H enc W m _ xs[k] h1 (fun q hq => hw q (by
        simp only [DataW.weights, ht]
        exact weightsAll_mem hm q hq))
      refine ⟨l ++ [a], by simp [hl1], ?_, ?_⟩
      · intro y hy
        simp only [List.mem_append, List.mem_cons, List.not_mem_nil, or_false] at hy
        rcases hy with hy | rfl
        · exact hok y hy
        · exact o1
      · rw [List.flatMap_append, List.flatMap_cons, List.flatMap_nil, List.append_nil, Nat.succ_mul, List.take_add]
        exact RL_append _ _ _ _ hr r1
  obtain ⟨l, h1, h2, h3⟩ := hlist n (Nat.le_refl _)
  refine ⟨l, ⟨h1, h2⟩, ?_, by simp only [bk]; omega⟩
  rw [List.take_of_length_le (by omega)] at h3
  exact h3
end Go.Proofs.Ytdbicadncccpoaa

set_option linter.unusedVariables false
set_option linter.unusedSimpArgs false
set_option maxRecDepth 100000
namespace Go.Proofs.Ytdbicadncccpoaa
open Go Go.ChangeShapes Go.WideShapes
theorem o_fcts : Opens Try.prog 64 (fun l : List Fct => [.sl 4 l.length (flatE fctE l)]) (fun l => (l.map fun _ => 1).sum + 1) (fun l => l.length * 72 ≤ reachBytes ∧ ∀ f ∈ l, okFct f) :=
  opens_slice (e := 24) (by kernel_rfl) (by kernel_rfl) (by kernel_rfl) (fun a _ => rfl) o_fct
theorem o_u8 : Opens Try.prog 5 (fun b : UInt8 => [.c (.int .u8 (b.toNat : Int))]) (fun _ => 1) (fun _ => True) := by
  refine (opens_int (k := .u8) (by kernel_rfl)).mono (fun n => UInt8.ofNat n.toNat) (fun n hn => ?_) (fun _ _ => Nat.le_refl _) (fun _ _ => trivial)
  have e1 : IntKind.u8.min = 0 := rfl
  have e2 : IntKind.u8.max = 255 := rfl
  rw [e1, e2] at hn
  have : (UInt8.ofNat n.toNat).toNat = n.toNat := by rw [UInt8.toNat_ofNat']; omega
  rw [this]
  have : ((n.toNat : Nat) : Int) = n := by omega
  rw [this]
theorem o_dig : Opens Try.prog 26 bD (fun _ => 1) (fun l => l.length = 32) := by
  have base := opens_array (P := Try.prog) (t := 26) (e := 5) (n := 32) (sz := 1) (by kernel_rfl) (by kernel_rfl) (by kernel_rfl) (fun _ _ => rfl) o_u8
  exact base.mono (fun l => l) (fun l _ => (flat_bD l).symm) (fun _ _ => Nat.le_refl _) (fun l h => h.1)
def okNt (x : Ntr) : Prop := okFct x.f ∧ (x.body.length * 72 ≤ reachBytes ∧ ∀ f ∈ x.body, okFct f) ∧ x.tg.length = 32
theorem o_ent : Opens Try.prog 66 entE (fun _ => 1) okNt := by
  have base := opens_struct (m := 39) Try.underlying66 (by kernel_rfl) (fun a h => by simp [fctE, bD, h.2.2.2.2.1]) (opensF_c (sz := 4) o_fct (opensF_c (sz := 1) (o_int (t := 3) (by kernel_rfl)) (opensF_c (sz := 1) (o_int (t := 3) (by kernel_rfl)) (opensF_c (sz := 1) o_fcts (opensF_c (sz := 32) o_dig (opensF_nil Try.prog 39) rfl (by kernel_rfl) (fun l h => by rw [bD_len, h])) rfl (by kernel_rfl) (fun _ _ => rfl)) rfl (by kernel_rfl) (fun _ _ => rfl)) rfl (by kernel_rfl) (fun _ _ => rfl)) rfl (by kernel_rfl) (fun _ _ => rfl))
  exact base.mono (fun x => ⟨x.1, x.2.1, x.2.2.1, x.2.2.2.1, x.2.2.2.2.1⟩) (fun a _ => by simp [entE, fctE]) (fun a _ => by omega) (fun a h => ⟨h.1, h.2.2.2.1, h.2.2.2.2.1⟩)
theorem o_ents : Opens Try.prog 45 (fun l : List Ntr => [.sl 39 l.length (flE l)]) (fun l => (l.map fun _ => 1).sum + 1) (fun l => l.length * 144 ≤ reachBytes ∧ ∀ x ∈ l, okNt x) :=
  opens_slice (e := 66) (by kernel_rfl) (by kernel_rfl) (by kernel_rfl) (fun a h => entE_len h.2.2) o_ent
theorem okFct_sz {f : Fct} (h : okFct f) : okF f ∧ szF f := by
  obtain ⟨⟨h1, h2, h3⟩, h4, h5⟩ := h
  have := hRB
  refine ⟨fun c hc => (h5 c hc).1, by omega, by omega, by omega, by omega, fun c hc => ?_⟩
  have := (h5 c hc).2
  omega
theorem okNt_sz {x : Ntr} (h : okNt x) : szE x ∧ ∀ g ∈ facX x, okF g := by
  obtain ⟨h1, h2, h3⟩ := h
  have := hRB
  refine ⟨⟨h3, (okFct_sz h1).2, by omega, fun g hg => (okFct_sz (h2.2 g hg)).2⟩, fun g hg => ?_⟩
  rcases List.mem_cons.1 hg with rfl | hg
  · exact (okFct_sz h1).1
  · exact (okFct_sz (h2.2 g hg)).1
end Go.Proofs.Ytdbicadncccpoaa

set_option linter.unusedVariables false
set_option linter.unusedSimpArgs false
set_option maxRecDepth 100000
namespace Go.Proofs.Ytdbicadncccpoaa
open Go Go.ChangeShapes Go.WideShapes
/-! The document's trail: Place, Enter. -/
theorem plc_first : ∀ {L : List Ntr} {f : Fct} {i : Nat} (h : i < L.length), (∀ j (hj : j < L.length), j < i → L[j].f ≠ f) → L[i].f = f → plc L f = i
  | [], _, i, h, _, _ => by simp at h
  | x :: l, f, 0, h, _, hf => by
    have hf' : x.f = f := hf
    rw [plc, if_pos hf']; rfl
  | x :: l, f, i + 1, h, hn, hf => by
    have h0 : x.f ≠ f := hn 0 (by simp) (by omega)
    have h1 : plc l f = i := plc_first (by simpa using h) (fun j hj hlt => hn (j + 1) (by simpa using hj) (by omega)) hf
    rw [plc, if_neg h0, h1, if_neg (by omega)]
    omega
theorem plc_nothing {L : List Ntr} {f : Fct} (h : ∀ j (hj : j < L.length), L[j].f ≠ f) : plc L f = -1 ∧ hasT L f = false := by
  have h2 : hasT L f = false := by
    cases hq : hasT L f with
    | false => rfl
    | true =>
      obtain ⟨k, hk, hf⟩ := hasT_iff.1 hq
      exact absurd hf (h k hk)
  exact ⟨plc_none h2, h2⟩
def rpSt (L : List Ntr) (f : Fct) (i : Nat) : List (Nat × AV) := [(0, .el [.sl 39 L.length (flE L)]), (3, .ptr 0 0), (5, .d (.c (.int .i64 i)))]
set_option maxHeartbeats 400000 in
theorem rplace_ac (L : List Ntr) (hL : okL L) (f : Fct) (hf : f.l.length ≤ 140737488352000) : AC Try.prog noG 89 [.el [.sl 39 L.length (flE L)], .d (.agg (fctE f))] [] (fun v r' => v = .d (.c (.int .i64 (plc L f))) ∧ r' = []) := by
  refine AC.fit ?_
  refine AC_of_R (N := 27) (res := [.tmp 4]) ty_ok Try.call89 Try.func89 rfl rfl rfl (Nat.le_of_ble_eq_true rfl) ?_
  have hl1 := hL.1
  have hle := flE_len hL
  refine rn1 @fctE.eq_1 ?_
  refine HC_loopR (fun i : Nat => rpSt L f i) (fun _ => [fB f]) (fun i => i ≤ L.length ∧ ∀ j (hj : j < L.length), j < i → L[j].f ≠ f) (fun i => L.length - i) 0 [0] [] ⟨by omega, by intro j hj h; omega⟩ ?_ ?_
  · exact ft1 (jn @rpSt.eq_1 @fB.eq_1)
  intro i ⟨hi1, hno⟩
  refine HC_of_R ty_ok ?_
  by_cases hlt : i < L.length
  · have hi : (i : Int) < L.length := by omega
    have hd := flE_drop hL i hlt
    have hx := hL.2 L[i] (List.getElem_mem hlt)
    have kg := rord_ac L[i].f f (Nat.le_trans hx.2.1 (by decide)) hf
    have hfirst := plc_first hlt hno
    have hmore : L[i].f ≠ f → ∀ j (hj : j < L.length), j < i + 1 → L[j].f ≠ f := by
      intro hne j hj hlt2
      rcases Nat.lt_or_ge j i with h | h
      · exact hno j hj h
      · have : j = i := by omega
        subst this; exact hne
    generalize L[i] = x at *
    simp only [entE, fctE, List.cons_append, List.nil_append] at hd kg
    refine rn1 (jn @rpSt.eq_1 (jn @fB.eq_1 @hi)) ?_
    refine HC_plan [] ty_ok mix (by kernel_rfl) ?_
    refine rn1 (jn @hi (jn @hd @hle)) ?_
    (repeat (refine And.intro (by omega) ?_))
    refine HO_pureA ty_ok kg ?_
    by_cases he : x.f = f
    · rw [ordC_zero.2 he, hfirst he]
      refine rn0 ?_
      exact fv0 [] []
    · have h0 : ¬ ordC x.f f = 0 := fun h => he (ordC_zero.1 h)
      refine rn1 @h0 ?_
      (repeat (refine And.intro (by omega) ?_))
      refine ⟨i + 1, ⟨by omega, hmore he⟩, by omega, [0], [], ?_⟩
      exact ft1 (jn @rpSt.eq_1 @fB.eq_1)
  · have hi : ¬ (i : Int) < L.length := by omega
    rw [(plc_nothing (fun j hj => hno j hj (by omega))).1]
    refine rn1 (jn @rpSt.eq_1 @hi) ?_
    exact fv0 [] []
end Go.Proofs.Ytdbicadncccpoaa

set_option linter.unusedVariables false
set_option linter.unusedSimpArgs false
set_option maxRecDepth 100000
namespace Go.Proofs.Ytdbicadncccpoaa
open Go Go.ChangeShapes Go.WideShapes
/-! The document's trail: Enter. -/
theorem plc_iff {L : List Ntr} {f : Fct} (h : hasT L f = true) : 0 ≤ plc L f := by
  induction L with
  | nil => cases h
  | cons x l ih =>
    rw [plc]
    by_cases he : x.f = f
    · rw [if_pos he]; omega
    · have h2 : hasT l f = true := by
        simp only [hasT, List.any_cons, Bool.or_eq_true, decide_eq_true_eq] at h ⊢
        exact h.resolve_left he
      have := ih h2
      rw [if_neg he, if_neg (by omega)]; omega
def nrm (x : Ntr) : Ntr := if x.why = 2 then x else ⟨x.f, x.why, 0, [], x.tg⟩
def rL (L : List Ntr) (x : Ntr) : List Ntr := if errT L x = 0 then L ++ [nrm x] else L
def tl (L : List Ntr) : Rs := [some (.obj [.sl (.own 1) 39 L.length (flE L)]), some (.tok (flE L).length)]
theorem tl_hand (L : List Ntr) (rc : Rs) (i j : Nat) (hi : rc[i]? = some (some (.obj [.sl (.own j) 39 L.length (flE L)]))) (hj : rc[j]? = some (some (.tok (flE L).length))) : HandOK (nm [i, j] rc.length) rc (tl L) [i, j] := by
  refine ⟨fun y h => ?_, fun y h => ?_, trivial⟩
  · injection h with h; subst h
    rw [hi]; rfl
  · injection h with h; subst h
    rw [hj]; rfl
theorem tl_wf (L : List Ntr) : wfRs (tl L).length (tl L) = true := rfl
def reSt (i : Nat) : List (Nat × AV) := [(0, .ptr 0 0), (3, .ptr 2 0), (5, .d (.c (.int .i64 i)))]
set_option maxHeartbeats 800000 in
theorem renter_ac (L : List Ntr) (hL : okL L) (hn : L.length ≤ 100000) (x : Ntr) (hx : okE x) : AC Try.prog noG 54 [.ptr 0 0, .d (.agg (entE x))] (tl L) (fun v r' => v = .d (.c (.int .i64 (errT L x))) ∧ r' = tl (rL L x)) := by
  refine AC.fit ?_
  refine AC_of_R (N := 53) (res := [.tmp 4]) ty_ok Try.call54 Try.func54 rfl rfl rfl (Nat.le_of_ble_eq_true rfl) ?_
  have hle := flE_len hL
  obtain ⟨t1, t2, t3, t4, t5, t6⟩ := tg32 x.tg hx.1
  have kc := rfchk_ac x.f (Nat.le_trans hx.2.1 (by decide))
  have kp := rplace_ac L hL x.f (Nat.le_trans hx.2.1 (by decide))
  have hno := plc_none (L := L) (f := x.f)
  have hye := plc_iff (L := L) (f := x.f)
  have hbl := hx.2.2.1
  have hbf := hx.2.2.2
  have ht := hx.1
  clear hx
  obtain ⟨f, w, r, b, tg⟩ := x
  simp only at t1 t2 t3 t4 t5 t6 kc kp hno hye hbl hbf ht
  simp only [fctE, List.cons_append, List.nil_append] at kc kp
  refine rn1 (jn @tl.eq_1 (jn @entE.eq_1 (jn @fctE.eq_1 (jn @t1 (jn @t2 (jn @t3 (jn @t4 (jn @t5 (jn @t6 @tA_allD))))))))) ?_
  refine HO_pureA ty_ok kc ?_
  by_cases h : chkE f = 0
  · by_cases hw : w = 2
    · subst hw
      by_cases hr : r < 0
      · have e : errT L ⟨f, 2, r, b, tg⟩ = 2 := by simp [errT, h, hr]
        have e2 : rL L ⟨f, 2, r, b, tg⟩ = L := by rw [rL, e]; rfl
        rw [e, e2]
        refine rn1 (jn @h (jn @hr (jn @t1 (jn @t2 (jn @t3 (jn @t4 (jn @t5 (jn @t6 @tA_allD)))))))) ?_
        exact fv1 [0,1] [] @tl.eq_1
      refine rn1 (jn @h (jn @hr (jn @t1 (jn @t2 (jn @t3 (jn @t4 (jn @t5 (jn @t6 @tA_allD)))))))) ?_
      refine HO_lend ty_ok (kp) (rfl) rfl rfl rfl (by kernel_rfl) ⟨BwA.ptr0 rfl rfl, BwA.val (.refl _) rfl, trivial⟩ ?_
      cases hq : hasT L f with
      | true =>
        have h0 := hye hq
        have e : errT L ⟨f, 2, r, b, tg⟩ = 151 := by simp [errT, h, hr, hq]
        have e2 : rL L ⟨f, 2, r, b, tg⟩ = L := by rw [rL, e]; rfl
        rw [e, e2]
        refine rn1 (jn @h0 (jn @t1 (jn @t2 (jn @t3 (jn @t4 (jn @t5 (jn @t6 @tA_allD))))))) ?_
        exact fv1 [0,1] [] @tl.eq_1
      | false =>
        rw [hno hq]
        refine rn1 (jn @t1 (jn @t2 (jn @t3 (jn @t4 (jn @t5 (jn @t6 @tA_allD)))))) ?_
        refine HC_loopR (fun i : Nat => reSt i) (fun _ => tl L ++ [xB ⟨f, 2, r, b, tg⟩]) (fun i => i ≤ b.length ∧ (b.take i).all (fun g => hasT L g) = true) (fun i => b.length - i) 0 [0, 1, 2] [] ⟨by omega, rfl⟩ ?_ ?_
        · exact ft1 (jn @reSt.eq_1 (jn @tl.eq_1 (jn @xB.eq_1 (jn @enC.eq_1 @tA_wf))))
        intro i ⟨hi1, hall⟩
        refine HC_of_R ty_ok ?_
        by_cases hlt : i < b.length
        · have hi : (i : Int) < b.length := by omega
          have hd := flatE_drop fctE_len b i hlt
          have hle2 := flatE_len fctE_len b
          have kg := rplace_ac L hL b[i] (Nat.le_trans (hbf _ (List.getElem_mem hlt)) (by decide))
          have hat := bd_take (p := fun f => hasT L f) hlt
          have hano := bd_not (p := fun f => hasT L f) hlt
          have hno2 := plc_none (L := L) (f := b[i])
          have hye2 := plc_iff (L := L) (f := b[i])
          rw [hall, Bool.true_and] at hat
          generalize b[i] = g at *
          simp only [fctE, List.cons_append, List.nil_append] at hd kg
          refine rn1 (jn @reSt.eq_1 (jn @tl.eq_1 (jn @xB.eq_1 (jn @enC.eq_1 (jn @hi (jn @hd (jn @hle2 (jn @t1 (jn @t2 (jn @t3 (jn @t4 (jn @t5 (jn @t6 @tA_allD))))))))))))) ?_
          (repeat (refine And.intro (by omega) ?_))
          refine HO_lend ty_ok (kg) (rfl) rfl rfl rfl (by kernel_rfl) ⟨BwA.ptr0 rfl rfl, BwA.val (.refl _) rfl, trivial⟩ ?_
          cases hg : hasT L g with
          | true =>
            have h0 : ¬ plc L g < 0 := by have := hye2 hg; omega
            refine rn1 (jn @h0 (jn @t1 (jn @t2 (jn @t3 (jn @t4 (jn @t5 (jn @t6 @tA_allD))))))) ?_
            (repeat (refine And.intro (by omega) ?_))
            refine ⟨i + 1, ⟨by omega, by rw [hat, hg]⟩, by omega, [0, 1, 2], [], ?_⟩
            exact ft1 (jn @reSt.eq_1 (jn @tl.eq_1 (jn @xB.eq_1 (jn @enC.eq_1 @tA_wf))))
          | false =>
            have ho : ordT L ⟨f, 2, r, b, tg⟩ = false := hano hg
            have e : errT L ⟨f, 2, r, b, tg⟩ = 200 := by simp [errT, h, hr, hq, ho]
            have e2 : rL L ⟨f, 2, r, b, tg⟩ = L := by rw [rL, e]; rfl
            rw [e, e2, hno2 hg]
            refine rn1 (jn @t1 (jn @t2 (jn @t3 (jn @t4 (jn @t5 (jn @t6 @tA_allD)))))) ?_
            exact fv1 [0,1] [] @tl.eq_1
        · have hi : ¬ (i : Int) < b.length := by omega
          have ho : ordT L ⟨f, 2, r, b, tg⟩ = true := by rw [ordT, ← hall, List.take_of_length_le (by omega)]
          have e : errT L ⟨f, 2, r, b, tg⟩ = 0 := by simp [errT, h, hr, hq, ho]
          have e2 : rL L ⟨f, 2, r, b, tg⟩ = L ++ [⟨f, 2, r, b, tg⟩] := by rw [rL, e]; rfl
          refine rn1 (jn @reSt.eq_1 (jn @tl.eq_1 (jn @xB.eq_1 (jn @enC.eq_1 (jn @hi (jn @t1 (jn @t2 (jn @t3 (jn @t4 (jn @t5 (jn @t6 @tA_allD))))))))))) ?_
          rw [e, e2]
          refine HC_fitR [(0, .ptr 0 0), (3, .ptr 2 0)] (tl L ++ [xB ⟨f, 2, r, b, tg⟩]) [0, 1, 2] [] ?_ ?_
          · exact ft1 (jn @tl.eq_1 (jn @xB.eq_1 (jn @enC.eq_1 (jn @tA_wf @flatE_nil))))
          refine HC_plan [] ty_ok mix (by kernel_rfl) ?_
          refine rn1 (jn @tl.eq_1 (jn @xB.eq_1 (jn @enC.eq_1 (jn @flatE_nil (jn @t1 (jn @t2 (jn @t3 (jn @t4 (jn @t5 (jn @t6 @tA_allD)))))))))) ?_
          (repeat (refine And.intro (by omega) ?_))
          have h39 : (flE (L ++ [⟨f, 2, r, b, tg⟩])).length = (flE L).length + 39 := by rw [flE_snoc, List.length_append, entE_len (x := ⟨f, 2, r, b, tg⟩) ht]
          simp only [tl, h39, List.length_append, List.length_singleton]
          simp only [flE_snoc, entE, fctE, List.cons_append, List.nil_append, flatE_nil, List.length_nil]
          exact fv0 [0,1] []
    · refine rn1 (jn @h (jn @hw (jn @t1 (jn @t2 (jn @t3 (jn @t4 (jn @t5 (jn @t6 @tA_allD)))))))) ?_
      refine HO_lend ty_ok (kp) (rfl) rfl rfl rfl (by kernel_rfl) ⟨BwA.ptr0 rfl rfl, BwA.val (.refl _) rfl, trivial⟩ ?_
      cases hq : hasT L f with
      | true =>
        have h0 := hye hq
        have e : errT L ⟨f, w, r, b, tg⟩ = 151 := by simp [errT, h, hw, hq]
        have e2 : rL L ⟨f, w, r, b, tg⟩ = L := by rw [rL, e]; rfl
        rw [e, e2]
        refine rn1 (jn @h0 (jn @hw (jn @t1 (jn @t2 (jn @t3 (jn @t4 (jn @t5 (jn @t6 @tA_allD)))))))) ?_
        exact fv1 [0,1] [] @tl.eq_1
      | false =>
        have e : errT L ⟨f, w, r, b, tg⟩ = 0 := by simp [errT, h, hw, hq]
        have e2 : rL L ⟨f, w, r, b, tg⟩ = L ++ [⟨f, w, 0, [], tg⟩] := by rw [rL, e, nrm, if_neg hw]; rfl
        rw [hno hq]
        refine rn1 (jn @hw (jn @t1 (jn @t2 (jn @t3 (jn @t4 (jn @t5 (jn @t6 @tA_allD))))))) ?_
        rw [e, e2]
        refine HC_fitR [(0, .ptr 0 0), (3, .ptr 2 0)] (tl L ++ [xB ⟨f, w, 0, [], tg⟩]) [0, 1, 2] [] ?_ ?_
        · exact ft1 (jn @tl.eq_1 (jn @xB.eq_1 (jn @enC.eq_1 (jn @tA_wf @flatE_nil))))
        refine HC_plan [] ty_ok mix (by kernel_rfl) ?_
        refine rn1 (jn @tl.eq_1 (jn @xB.eq_1 (jn @enC.eq_1 (jn @flatE_nil (jn @t1 (jn @t2 (jn @t3 (jn @t4 (jn @t5 (jn @t6 @tA_allD)))))))))) ?_
        (repeat (refine And.intro (by omega) ?_))
        have h39 : (flE (L ++ [⟨f, w, 0, [], tg⟩])).length = (flE L).length + 39 := by rw [flE_snoc, List.length_append, entE_len (x := ⟨f, w, 0, [], tg⟩) ht]
        simp only [tl, h39, List.length_append, List.length_singleton]
        simp only [flE_snoc, entE, fctE, List.cons_append, List.nil_append, flatE_nil, List.length_nil]
        exact fv0 [0,1] []
  · have h40 : chkE f = 40 := by
      by_cases hc : chkF f = true
      · exact absurd (chkE_ok hc) h
      · exact chkE_no hc
    have e : errT L ⟨f, w, r, b, tg⟩ = 40 := by simp [errT, h40]
    have e2 : rL L ⟨f, w, r, b, tg⟩ = L := by rw [rL, e]; rfl
    rw [e, e2]
    refine rn1 (jn @h @h40) ?_
    exact fv1 [0,1] [] @tl.eq_1
end Go.Proofs.Ytdbicadncccpoaa

set_option linter.unusedVariables false
set_option linter.unusedSimpArgs false
set_option maxRecDepth 100000
namespace Go.Proofs.Ytdbicadncccpoaa
open Go Go.ChangeShapes Go.WideShapes
/-! The statement's Enter: an entry by its Why. -/
def rO (L : List Ntr) (O : List Nat) (x : Ntr) : List Nat := if errT L x = 0 then insT L O x.f else O
def named (x : Ntr) : Bool := decide (1 ≤ x.why ∧ x.why ≤ 3)
def leV (L : List Ntr) (x : Ntr) : Int := if named x = true then errT L x else 0
def leL (L : List Ntr) (x : Ntr) : List Ntr := if named x = true then rL L x else L
def leO (L : List Ntr) (O : List Nat) (x : Ntr) : List Nat := if named x = true then rO L O x else O
theorem errT_nrm (L : List Ntr) (x : Ntr) (h : x.why ≠ 2) (w : Int) (hw : w ≠ 2) : errT L ⟨x.f, w, 0, [], x.tg⟩ = errT L x := by
  simp only [errT, h, hw, false_and, if_false]
theorem trN_eq (L : List Ntr) (O : List Nat) (x y : Ntr) (hy : y = nrm x) (he : errT L y = errT L x) : trN L O y = tr (rL L x) (rO L O x) := by
  have hf : y.f = x.f := by rw [hy, nrm]; split <;> rfl
  rw [trN, he, rL, rO, hf, hy]
  split <;> rfl
set_option maxHeartbeats 400000 in
theorem lenter_ac (L : List Ntr) (O : List Nat) (hL : okL L) (hI : TInv L O) (hn : L.length ≤ 100000) (x : Ntr) (hx : okE x) : AC Try.prog noG 53 [.ptr 0 0, .d (.agg (entE x))] (tr L O) (fun v r' => v = .d (.c (.int .i64 (leV L x))) ∧ r' = tr (leL L x) (leO L O x)) := by
  refine AC.fit ?_
  refine AC_of_R (N := 36) (res := [.tmp 4]) ty_ok Try.call53 Try.func53 rfl rfl rfl (Nat.le_of_ble_eq_true rfl) ?_
  obtain ⟨t1, t2, t3, t4, t5, t6⟩ := tg32 x.tg hx.1
  have k1 := base_ac L O hL hI hn x.f x.tg hx.1 hx.2.1
  have k3 := said_ac L O hL hI hn x.f x.tg hx.1 hx.2.1
  have k2 := fun h => rule_ac L O hL hI hn x hx h
  by_cases h1 : x.why = 1
  · have hnm : named x = true := by rw [named, decide_eq_true_eq]; omega
    have e1 : errT L ⟨x.f, 1, 0, [], x.tg⟩ = errT L x := errT_nrm L x (by omega) 1 (by decide)
    have e2 := trN_eq L O x ⟨x.f, 1, 0, [], x.tg⟩ (by rw [nrm, if_neg (by omega), h1]) e1
    rw [leV, leL, leO, if_pos hnm, if_pos hnm, if_pos hnm]
    rw [e1, e2] at k1
    simp only [fctE, List.cons_append, List.nil_append] at k1
    refine rn1 (jn @tr.eq_1 (jn @tpC.eq_1 (jn @entE.eq_1 (jn @fctE.eq_1 (jn @h1 (jn @t1 (jn @t2 (jn @t3 (jn @t4 (jn @t5 (jn @t6 @tA_allD))))))))))) ?_
    refine HO_callX ty_ok [0] k1 (tr_hand _ _ _ _ rfl) (tr_wf _ _) ?_
    rintro v r' ⟨rfl, rfl⟩ _
    refine rn1 (jn @tr.eq_1 @tpC.eq_1) ?_
    exact fv1 [0] [] (jn @tr.eq_1 @tpC.eq_1)
  by_cases h3 : x.why = 3
  · have hnm : named x = true := by rw [named, decide_eq_true_eq]; omega
    have e1 : errT L ⟨x.f, 3, 0, [], x.tg⟩ = errT L x := errT_nrm L x (by omega) 3 (by decide)
    have e2 := trN_eq L O x ⟨x.f, 3, 0, [], x.tg⟩ (by rw [nrm, if_neg (by omega), h3]) e1
    rw [leV, leL, leO, if_pos hnm, if_pos hnm, if_pos hnm]
    rw [e1, e2] at k3
    simp only [fctE, List.cons_append, List.nil_append] at k3
    refine rn1 (jn @tr.eq_1 (jn @tpC.eq_1 (jn @entE.eq_1 (jn @fctE.eq_1 (jn @h3 (jn @t1 (jn @t2 (jn @t3 (jn @t4 (jn @t5 (jn @t6 @tA_allD))))))))))) ?_
    refine HO_callX ty_ok [0] k3 (tr_hand _ _ _ _ rfl) (tr_wf _ _) ?_
    rintro v r' ⟨rfl, rfl⟩ _
    refine rn1 (jn @tr.eq_1 @tpC.eq_1) ?_
    exact fv1 [0] [] (jn @tr.eq_1 @tpC.eq_1)
  by_cases h2 : x.why = 2
  · have hnm : named x = true := by rw [named, decide_eq_true_eq]; omega
    have e2 := trN_eq L O x x (by rw [nrm, if_pos h2]) rfl
    have k2 := k2 h2
    rw [leV, leL, leO, if_pos hnm, if_pos hnm, if_pos hnm]
    rw [e2] at k2
    simp only [derE, fctE, List.cons_append, List.nil_append] at k2
    refine rn1 (jn @tr.eq_1 (jn @tpC.eq_1 (jn @entE.eq_1 (jn @fctE.eq_1 (jn @h2 (jn @t1 (jn @t2 (jn @t3 (jn @t4 (jn @t5 (jn @t6 @tA_allD))))))))))) ?_
    refine HO_callX ty_ok [0] k2 (tr_hand _ _ _ _ rfl) (tr_wf _ _) ?_
    rintro v r' ⟨rfl, rfl⟩ _
    refine rn1 (jn @tr.eq_1 @tpC.eq_1) ?_
    exact fv1 [0] [] (jn @tr.eq_1 @tpC.eq_1)
  · have hnm : ¬ named x = true := by rw [named, decide_eq_true_eq]; omega
    rw [leV, leL, leO, if_neg hnm, if_neg hnm, if_neg hnm]
    refine rn1 (jn @tr.eq_1 (jn @tpC.eq_1 (jn @entE.eq_1 (jn @fctE.eq_1 (jn @h1 (jn @h2 (jn @h3 (jn @t1 (jn @t2 (jn @t3 (jn @t4 (jn @t5 (jn @t6 @tA_allD))))))))))))) ?_
    exact fv1 [0] [] (jn @tr.eq_1 @tpC.eq_1)
end Go.Proofs.Ytdbicadncccpoaa

set_option linter.unusedVariables false
set_option linter.unusedSimpArgs false
set_option maxRecDepth 100000
namespace Go.Proofs.Ytdbicadncccpoaa
open Go Go.ChangeShapes Go.WideShapes
/-! Are somebody's entries little enough? -/
structure Knw where
  who : ByteArray
  l : List Ntr
def knE (k : Knw) : List D := [.c (.string k.who), .sl 39 k.l.length (flE k.l)]
theorem knE_len (k : Knw) : (knE k).length = 2 := rfl
def szK (k : Knw) : Prop := k.l.length ≤ 140737488352000 ∧ ∀ x ∈ k.l, szE x
def ltK (k : Knw) : Prop := k.l.length ≤ 300 ∧ ∀ x ∈ k.l, ltE 300 x
def liSt (K : List Knw) (x : Nat × Int) : List (Nat × AV) := [(0, .d (.sl 2 K.length (flatE knE K))), (3, .d (.c (.int .i64 x.2))), (4, .d (.c (.int .i64 x.1)))]
set_option maxHeartbeats 400000 in
theorem light_ac (K : List Knw) (hl : K.length ≤ 140737488352000) (hs : ∀ k ∈ K, szK k) : AC Try.prog noG 20 [.d (.sl 2 K.length (flatE knE K))] []
    (fun v r' => (∃ q : Bool, v = .d (.c (.bool q)) ∧ (q = true → K.length ≤ 300 ∧ ∀ k ∈ K, ltK k)) ∧ r' = []) := by
  refine AC.pure ?_ (by rintro v ⟨q, rfl, _⟩; rfl)
  refine AC_of_R (N := 22) (res := [.tmp 2]) ty_ok Try.call20 Try.func20 rfl rfl rfl (Nat.le_of_ble_eq_true rfl) ?_
  refine rn0 ?_
  refine HC_loopR (liSt K) (fun _ => []) (fun x => x.1 ≤ K.length ∧ (x.1 : Int) ≤ x.2 ∧ x.2 ≤ 300 ∧ ∀ k ∈ K.take x.1, ltK k) (fun x => K.length - x.1) (0, 0) [] [] ⟨by simp, by simp, by simp, by simp⟩ ?_ ?_
  · exact ft1 @liSt.eq_1
  intro ⟨i, n⟩ ⟨h1, h2, h3, h5⟩
  simp only at h1 h2 h3 h5
  refine HC_of_R ty_ok ?_
  by_cases hlt : i < K.length
  · have hi : (i : Int) < K.length := by omega
    have hd := flatE_drop knE_len K i hlt
    have hle := flatE_len knE_len K
    have hsz := hs K[i] (List.getElem_mem hlt)
    have htk := List.take_succ_eq_append_getElem hlt
    generalize K[i] = k at *
    have kw := wE_ac k.l 300 hsz.1 hsz.2 (by decide) (by decide)
    simp only [knE, List.cons_append, List.nil_append] at hd
    refine rn1 (jn @liSt.eq_1 (jn @hi (jn @hd @hle))) ?_
    (repeat (refine And.intro (by omega) ?_))
    refine HO_callX ty_ok [] kw (trivial) rfl ?_
    rintro v r' ⟨⟨q, rfl, ⟨p1, p2⟩, p3⟩, rfl⟩ _
    by_cases hq : n + (1 + q) > 300
    · refine rn1 @hq ?_
      (repeat (refine And.intro (by omega) ?_))
      exact ⟨false, rfl, fun h => by cases h⟩
    · refine rn1 @hq ?_
      (repeat (refine And.intro (by omega) ?_))
      refine ⟨(i + 1, n + (1 + q)), ⟨by simp only; omega, by simp only; omega, by simp only; omega, ?_⟩, by simp only; omega, [], [], ?_⟩
      · intro y hy
        simp only at hy
        rw [htk, List.mem_append, List.mem_singleton] at hy
        rcases hy with hy | rfl
        · exact h5 y hy
        · obtain ⟨g1, g2⟩ := p3 (by omega)
          exact ⟨by omega, g2⟩
      · exact ft1 @liSt.eq_1
  · have hi : ¬ (i : Int) < K.length := by omega
    refine rn1 (jn @liSt.eq_1 @hi) ?_
    rw [List.take_of_length_le (by omega)] at h5
    exact ⟨true, rfl, fun _ => ⟨by omega, h5⟩⟩
end Go.Proofs.Ytdbicadncccpoaa
