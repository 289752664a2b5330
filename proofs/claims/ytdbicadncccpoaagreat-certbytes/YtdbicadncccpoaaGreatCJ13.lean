/- Parts of the proof: CSame, CWt, OpenA, OpenE, REnX. -/
import Derived.Test.YtdbicadncccpoaaGreatCJ5
import Derived.Test.YtdbicadncccpoaaGreatCJ12
import Derived.Test.YtdbicadncccpoaaGreatCJ0
import Derived.Test.YtdbicadncccpoaaGreatCJ8
import Derived.Test.YtdbicadncccpoaaGreatCJ2
import Derived.Test.YtdbicadncccpoaaGreatCJ6
set_option linter.unusedVariables false
set_option linter.unusedSimpArgs false
set_option maxRecDepth 100000
namespace Go.Proofs.YtdbicadncccpoaaGreat
open Go Go.ChangeShapes Go.WideShapes
/-! The document's Same and Like of entries. -/
def rlSt (l m : List Fct) (i : Nat) : List (Nat × AV) := [(0, .d (.sl 4 l.length (flatE fctE l))), (1, .d (.sl 4 m.length (flatE fctE m))), (5, .d (.c (.int .i64 i)))]
theorem take_eq_step {α : Type} {l m : List α} {i : Nat} (hl : i < l.length) (hm : i < m.length) (h : l.take i = m.take i) (he : l[i] = m[i]) : l.take (i + 1) = m.take (i + 1) := by
  rw [List.take_succ_eq_append_getElem hl, List.take_succ_eq_append_getElem hm, h, he]
theorem ne_at {α : Type} {l m : List α} {i : Nat} (hl : i < l.length) (hm : i < m.length) (he : l[i] ≠ m[i]) : l ≠ m := by
  intro h; subst h; exact he rfl
set_option maxHeartbeats 400000 in
theorem rlikeF_ac (l m : List Fct) (hl : l.length ≤ 1000000) (hm : m.length ≤ 1000000) (hsl : ∀ f ∈ l, f.l.length ≤ 1000000) (hsm : ∀ f ∈ m, f.l.length ≤ 1000000) :
    AC Tryz.prog noG 51 [.d (.sl 4 l.length (flatE fctE l)), .d (.sl 4 m.length (flatE fctE m))] [] (fun v r' => v = .d (.c (.bool (decide (l = m)))) ∧ r' = []) := by
  refine AC.pure ?_ (by rintro v rfl; rfl)
  refine AC_of_R (N := 27) (res := [.tmp 4]) ty_ok Tryz.call51 Tryz.func51 rfl rfl rfl (Nat.le_of_ble_eq_true rfl) ?_
  by_cases hn : (l.length : Int) = m.length
  · have hn' : l.length = m.length := by omega
    refine rn1 @hn ?_
    refine HC_loopR (fun i : Nat => rlSt l m i) (fun _ => []) (fun i => i ≤ l.length ∧ l.take i = m.take i) (fun i => l.length - i) 0 [] [] ⟨by omega, rfl⟩ ?_ ?_
    · exact ft1 (jn @hn @rlSt.eq_1)
    intro i ⟨hi1, hi2⟩
    refine HC_of_R ty_ok ?_
    by_cases hlt : i < l.length
    · have hi : (i : Int) < l.length := by omega
      have him : (i : Int) < m.length := by omega
      have hltm : i < m.length := by omega
      have hd := flatE_drop fctE_len l i hlt
      have hle := flatE_len fctE_len l
      have hd2 := flatE_drop fctE_len m i hltm
      have hle2 := flatE_len fctE_len m
      have hst := take_eq_step hlt hltm hi2
      have hne := ne_at hlt hltm
      have hg := rord_ac l[i] m[i] (Nat.le_trans (hsl _ (List.getElem_mem hlt)) (by decide)) (Nat.le_trans (hsm _ (List.getElem_mem hltm)) (by decide))
      generalize l[i] = f at *
      generalize m[i] = g at *
      simp only [fctE, List.cons_append, List.nil_append] at hd hd2 hg
      refine rn1 (jn @rlSt.eq_1 (jn @hi @him)) ?_
      refine HC_plan [] ty_ok mix (by kernel_rfl) ?_
      refine rn1 (jn @hi (jn @him (jn @hd (jn @hle (jn @hd2 @hle2))))) ?_
      (repeat (refine And.intro (by omega) ?_))
      refine HO_pureA ty_ok hg ?_
      by_cases he : f = g
      · rw [ordC_zero.2 he]
        refine rn0 ?_
        (repeat (refine And.intro (by omega) ?_))
        refine ⟨i + 1, ⟨by omega, hst he⟩, by omega, [], [], ?_⟩
        exact ft1 @rlSt.eq_1
      · have h0 : ¬ ordC f g = 0 := fun h => he (ordC_zero.1 h)
        have e : decide (l = m) = false := decide_eq_false (hne he)
        rw [e]
        exact rz1 @h0
    · have hi : ¬ (i : Int) < l.length := by omega
      rw [List.take_of_length_le (by omega), List.take_of_length_le (by omega)] at hi2
      have e : decide (l = m) = true := decide_eq_true hi2
      rw [e]
      exact rz1 (jn @rlSt.eq_1 @hi)
  · have e : decide (l = m) = false := decide_eq_false (fun h => hn (by rw [h]))
    rw [e]
    exact rz1 @hn
set_option maxHeartbeats 400000 in
theorem rsameE_ac (x y : Ntr) (hx : okE x) (hy : okE y) : AC Tryz.prog noG 30 [.d (.agg (entE x)), .d (.agg (entE y))] [] (fun v r' => v = .d (.c (.bool (decide (x = y)))) ∧ r' = []) := by
  refine AC.pure ?_ (by rintro v rfl; rfl)
  refine AC_of_R (N := 39) (res := [.tmp 4]) ty_ok Tryz.call30 Tryz.func30 rfl rfl rfl (Nat.le_of_ble_eq_true rfl) ?_
  obtain ⟨t1, t2, t3, t4, t5, t6⟩ := tg32 x.tg hx.1
  obtain ⟨u1, u2, u3, u4, u5, u6⟩ := tg32 y.tg hy.1
  have ko := rord_ac x.f y.f (Nat.le_trans hx.2.1 (by decide)) (Nat.le_trans hy.2.1 (by decide))
  have kl := rlikeF_ac x.body y.body hx.2.2.1 hy.2.2.1 hx.2.2.2 hy.2.2.2
  obtain ⟨f, w, r, b, tg⟩ := x
  obtain ⟨f2, w2, r2, b2, tg2⟩ := y
  simp only at t1 t2 t3 t4 t5 t6 u1 u2 u3 u4 u5 u6 ko kl
  simp only [fctE] at ko
  by_cases h1 : w = w2
  · by_cases h2 : r = r2
    · by_cases h3 : tg = tg2
      · subst h1 h2 h3
        by_cases h4 : f = f2
        · rw [ordC_zero.2 h4] at ko
          have e : decide ((⟨f, w, r, b, tg⟩ : Ntr) = ⟨f2, w, r, b2, tg⟩) = decide (b = b2) := by simp [h4]
          rw [e]
          refine rn1 (jn @entE.eq_1 (jn @fctE.eq_1 (jn @t1 (jn @t2 (jn @t3 (jn @t4 (jn @t5 (jn @t6 @tA_allD)))))))) ?_
          refine HO_pureA ty_ok ko ?_
          refine rn1 (jn @t1 (jn @t2 (jn @t3 (jn @t4 (jn @t5 (jn @t6 @tA_allD)))))) ?_
          refine HO_pureA ty_ok kl ?_
          exact rz0
        · have h0 : ¬ ordC f f2 = 0 := fun h => h4 (ordC_zero.1 h)
          have e : decide ((⟨f, w, r, b, tg⟩ : Ntr) = ⟨f2, w, r, b2, tg⟩) = false := by simp [h4]
          rw [e]
          refine rn1 (jn @entE.eq_1 (jn @fctE.eq_1 (jn @t1 (jn @t2 (jn @t3 (jn @t4 (jn @t5 (jn @t6 @tA_allD)))))))) ?_
          refine HO_pureA ty_ok ko ?_
          exact rz1 @h0
      · skip
        have e : decide ((⟨f, w, r, b, tg⟩ : Ntr) = ⟨f2, w2, r2, b2, tg2⟩) = false := by simp [h1,h2,h3]
        rw [e]
        exact rz1 (jn @entE.eq_1 (jn @fctE.eq_1 (jn @t1 (jn @t2 (jn @t3 (jn @t4 (jn @t5 (jn @t6 (jn @u1 (jn @u2 (jn @u3 (jn @u4 (jn @u5 (jn @u6 (jn @tA_allD (jn @h1 (jn @h2 @h3)))))))))))))))))
    · skip
      have e : decide ((⟨f, w, r, b, tg⟩ : Ntr) = ⟨f2, w2, r2, b2, tg2⟩) = false := by simp [h1,h2]
      rw [e]
      exact rz1 (jn @entE.eq_1 (jn @fctE.eq_1 (jn @t1 (jn @t2 (jn @t3 (jn @t4 (jn @t5 (jn @t6 (jn @u1 (jn @u2 (jn @u3 (jn @u4 (jn @u5 (jn @u6 (jn @tA_allD (jn @h1 @h2))))))))))))))))
  · skip
    have e : decide ((⟨f, w, r, b, tg⟩ : Ntr) = ⟨f2, w2, r2, b2, tg2⟩) = false := by simp [h1]
    rw [e]
    exact rz1 (jn @entE.eq_1 (jn @fctE.eq_1 (jn @t1 (jn @t2 (jn @t3 (jn @t4 (jn @t5 (jn @t6 (jn @u1 (jn @u2 (jn @u3 (jn @u4 (jn @u5 (jn @u6 (jn @tA_allD @h1)))))))))))))))
def rleSt (l m : List Ntr) (i : Nat) : List (Nat × AV) := [(0, .d (.sl 39 l.length (flE l))), (1, .d (.sl 39 m.length (flE m))), (5, .d (.c (.int .i64 i)))]
set_option maxHeartbeats 400000 in
theorem rlikeE_ac (l m : List Ntr) (hl : okL l) (hm : okL m) :
    AC Tryz.prog noG 12 [.d (.sl 39 l.length (flE l)), .d (.sl 39 m.length (flE m))] [] (fun v r' => v = .d (.c (.bool (decide (l = m)))) ∧ r' = []) := by
  refine AC.pure ?_ (by rintro v rfl; rfl)
  refine AC_of_R (N := 27) (res := [.tmp 4]) ty_ok Tryz.call12 Tryz.func12 rfl rfl rfl (Nat.le_of_ble_eq_true rfl) ?_
  have hl1 := hl.1
  have hm1 := hm.1
  by_cases hn : (l.length : Int) = m.length
  · have hn' : l.length = m.length := by omega
    refine rn1 @hn ?_
    refine HC_loopR (fun i : Nat => rleSt l m i) (fun _ => []) (fun i => i ≤ l.length ∧ l.take i = m.take i) (fun i => l.length - i) 0 [] [] ⟨by omega, rfl⟩ ?_ ?_
    · exact ft1 (jn @hn @rleSt.eq_1)
    intro i ⟨hi1, hi2⟩
    refine HC_of_R ty_ok ?_
    by_cases hlt : i < l.length
    · have hi : (i : Int) < l.length := by omega
      have him : (i : Int) < m.length := by omega
      have hltm : i < m.length := by omega
      have hd := flE_drop hl i hlt
      have hle := flE_len hl
      have hd2 := flE_drop hm i hltm
      have hle2 := flE_len hm
      have hst := take_eq_step hlt hltm hi2
      have hne := ne_at hlt hltm
      have hox := hl.2 l[i] (List.getElem_mem hlt)
      have hoy := hm.2 m[i] (List.getElem_mem hltm)
      generalize l[i] = x at *
      generalize m[i] = y at *
      have hg := rsameE_ac x y hox hoy
      obtain ⟨t1, t2, t3, t4, t5, t6⟩ := tg32 x.tg hox.1
      obtain ⟨u1, u2, u3, u4, u5, u6⟩ := tg32 y.tg hoy.1
      have htk : (bD x.tg ++ flE (l.drop (i + 1))).take 32 = bD x.tg := by rw [← t2]; exact List.take_left
      have htk2 : (bD y.tg ++ flE (m.drop (i + 1))).take 32 = bD y.tg := by rw [← u2]; exact List.take_left
      simp only [entE, fctE, List.cons_append, List.nil_append] at hd hd2 hg
      refine rn1 (jn @rleSt.eq_1 (jn @hi @him)) ?_
      refine HC_plan [] ty_ok mix (by kernel_rfl) ?_
      refine rn1 (jn @hi (jn @him (jn @hd (jn @hle (jn @hd2 (jn @hle2 (jn @htk (jn @htk2 (jn @t1 (jn @t2 (jn @t3 (jn @t4 (jn @t5 (jn @t6 (jn @u1 (jn @u2 (jn @u3 (jn @u4 (jn @u5 @u6))))))))))))))))))) ?_
      (repeat (refine And.intro (by omega) ?_))
      refine HO_pureA ty_ok hg ?_
      by_cases he : x = y
      · rw [decide_eq_true he]
        refine rn0 ?_
        (repeat (refine And.intro (by omega) ?_))
        refine ⟨i + 1, ⟨by omega, hst he⟩, by omega, [], [], ?_⟩
        exact ft1 @rleSt.eq_1
      · have e : decide (l = m) = false := decide_eq_false (hne he)
        rw [decide_eq_false he, e]
        exact rz0
    · have hi : ¬ (i : Int) < l.length := by omega
      rw [List.take_of_length_le (by omega), List.take_of_length_le (by omega)] at hi2
      have e : decide (l = m) = true := decide_eq_true hi2
      rw [e]
      exact rz1 (jn @rleSt.eq_1 @hi)
  · have e : decide (l = m) = false := decide_eq_false (fun h => hn (by rw [h]))
    rw [e]
    exact rz1 @hn
end Go.Proofs.YtdbicadncccpoaaGreat

set_option linter.unusedVariables false
set_option linter.unusedSimpArgs false
set_option maxRecDepth 100000
namespace Go.Proofs.YtdbicadncccpoaaGreat
open Go Go.ChangeShapes Go.WideShapes
/-! The weight of entries. -/
set_option maxHeartbeats 1000000 in
theorem wF2_ac (l : List Fct) (m : Int) (hl : l.length ≤ 140737488352000) (hs : ∀ f ∈ l, szF f) (m0 : 0 ≤ m) (m1 : m ≤ 1000000) : AC Tryz.prog noG 15 [.d (.sl 4 l.length (flatE fctE l)), .d (.c (.int .i64 m))] []
    (fun v r' => (∃ n : Int, v = .d (.c (.int .i64 n)) ∧ (0 ≤ n ∧ n ≤ 1000000000000000) ∧ (n ≤ m → (l.length : Int) ≤ m ∧ ∀ f ∈ l, (f.l.length : Int) ≤ m)) ∧ r' = []) := by
  refine AC.pure ?_ (by rintro v ⟨n, rfl, _, _⟩; rfl)
  refine AC_of_R (N := 79) (res := [.tmp 4]) ty_ok Tryz.call15 Tryz.func15 rfl rfl rfl (Nat.le_of_ble_eq_true rfl) ?_
  refine rn0 ?_
  refine HC_loopR (wfSt1 l m) (fun _ => []) (fun x => x.1 ≤ l.length ∧ (x.1 : Int) ≤ x.2 ∧ x.2 ≤ 1000000000000000 ∧ ∀ f ∈ l.take x.1, (f.l.length : Int) ≤ x.2) (fun x => l.length - x.1) (0, 0) [] [] ⟨by simp, by simp, by simp, by simp⟩ ?_ ?_
  · exact ft1 @wfSt1.eq_1
  intro ⟨i, n⟩ ⟨h1, h2, h3, h5⟩
  simp only at h1 h2 h3 h5
  refine HC_of_R ty_ok ?_
  by_cases hlt : i < l.length
  · have hi : (i : Int) < l.length := by omega
    by_cases hn : n ≤ m
    · have hd := flatE_drop fctE_len l i hlt
      have hle := flatE_len fctE_len l
      have hsz := hs l[i] (List.getElem_mem hlt)
      have htk := List.take_succ_eq_append_getElem hlt
      generalize l[i] = f at *
      obtain ⟨z1, z2, z3, z4, z5⟩ := hsz
      simp only [fctE, List.cons_append, List.nil_append] at hd
      refine rn1 (jn @wfSt1.eq_1 (jn @hi @hn)) ?_
      refine HC_plan [] ty_ok mix (by kernel_rfl) ?_
      refine rn1 (jn @hd @hle) ?_
      (repeat (refine And.intro (by omega) ?_))
      obtain ⟨n0, hn0⟩ : ∃ n0 : Int, n0 = n + (1 + (f.l.length : Int) + ((f.a.size : Int) + f.b.size + f.p.size) / 16) := ⟨_, rfl⟩
      have hb0 : n + 1 ≤ n0 ∧ n0 ≤ 900000000000000 ∧ (f.l.length : Int) ≤ n0 := by omega
      have hnew : ∀ q : Int, n0 ≤ q → ∀ g ∈ l.take (i + 1), (g.l.length : Int) ≤ q := by
        intro q hq g hg
        rw [htk, List.mem_append, List.mem_singleton] at hg
        rcases hg with hg | rfl
        · have := h5 g hg; omega
        · omega
      refine HC_loopR (wfSt2 l m i) (fun _ => []) (fun x => x.1 ≤ f.l.length ∧ n0 ≤ x.2 ∧ x.2 ≤ 1000000000000000) (fun x => f.l.length - x.1) (0, n0) [] [] ⟨by simp, by simp, by simp only; omega⟩ ?_ ?_
      · rw [hn0]
        exact ft1 @wfSt2.eq_1
      intro ⟨k, q⟩ ⟨g1, g2, g3⟩
      simp only at g1 g2 g3
      refine HC_of_R ty_ok ?_
      by_cases hkl : k < f.l.length
      · have hk : (k : Int) < f.l.length := by omega
        by_cases hq : q ≤ m
        · have hd2 := flatE_drop cstE_len f.l k hkl
          have hle2 := flatE_len cstE_len f.l
          have hsz := z5 f.l[k] (List.getElem_mem hkl)
          generalize f.l[k] = c at *
          simp only [cstE, List.cons_append, List.nil_append] at hd2
          refine rn1 (jn @wfSt2.eq_1 (jn @hi (jn @hd (jn @hle (jn @hk (jn @hq (jn @hd2 @hle2))))))) ?_
          (repeat (refine And.intro (by omega) ?_))
          refine ⟨(k + 1, q + (c.s.size : Int) / 16), ⟨by simp only; omega, by simp only; omega, by simp only; omega⟩, by simp only; omega, [], [], ?_⟩
          exact ft1 @wfSt2.eq_1
        · refine rn1 (jn @wfSt2.eq_1 (jn @hi (jn @hd (jn @hle (jn @hk @hq))))) ?_
          (repeat (refine And.intro (by omega) ?_))
          refine ⟨(i + 1, q), ⟨by simp only; omega, by simp only; omega, by simp only; omega, hnew q (by omega)⟩, by simp only; omega, [], [], ?_⟩
          exact ft1 @wfSt1.eq_1
      · have hk : ¬ (k : Int) < f.l.length := by omega
        refine rn1 (jn @wfSt2.eq_1 (jn @hi (jn @hd (jn @hle @hk)))) ?_
        (repeat (refine And.intro (by omega) ?_))
        refine ⟨(i + 1, q), ⟨by simp only; omega, by simp only; omega, by simp only; omega, hnew q (by omega)⟩, by simp only; omega, [], [], ?_⟩
        exact ft1 @wfSt1.eq_1
    · refine rn1 (jn @wfSt1.eq_1 (jn @hi @hn)) ?_
      exact ⟨n, rfl, ⟨by omega, h3⟩, fun h => absurd h hn⟩
  · have hi : ¬ (i : Int) < l.length := by omega
    refine rn1 (jn @wfSt1.eq_1 @hi) ?_
    rw [List.take_of_length_le (by omega)] at h5
    exact ⟨n, rfl, ⟨by omega, h3⟩, fun h => ⟨by omega, fun g hg => by have := h5 g hg; omega⟩⟩
/-- Entries as memory can hold them. -/
def szE (x : Ntr) : Prop := x.tg.length = 32 ∧ szF x.f ∧ x.body.length ≤ 140737488352000 ∧ ∀ f ∈ x.body, szF f
theorem flE_drop' {L : List Ntr} (h : ∀ x ∈ L, x.tg.length = 32) (i : Nat) (hi : i < L.length) : (flE L).drop (i * 39) = entE L[i] ++ flE (L.drop (i + 1)) ∧ (flE L).length = 39 * L.length := by
  have key : ∀ (l : List Ntr) (i : Nat) (hi : i < l.length), (∀ x ∈ l, x.tg.length = 32) → (flatE entE l).drop (i * 39) = entE l[i] ++ flatE entE (l.drop (i + 1)) := by
    intro l
    induction l with
    | nil => intro i hi; simp at hi
    | cons a l ih =>
      intro i hi h
      have ha := entE_len (h a (by simp))
      cases i with
      | zero => rw [flatE_cons]; simp
      | succ i =>
        rw [flatE_cons, show (i + 1) * 39 = 39 + i * 39 by omega, ← List.drop_drop, ← ha, List.drop_left, ha, ih i (by simpa using hi) (fun x hx => h x (List.mem_cons_of_mem _ hx))]
        simp
  have key2 : ∀ l : List Ntr, (∀ x ∈ l, x.tg.length = 32) → (flatE entE l).length = 39 * l.length := by
    intro l
    induction l with
    | nil => intro _; rfl
    | cons a l ih =>
      intro h
      rw [flatE_cons, List.length_append, entE_len (h a (by simp)), ih (fun x hx => h x (List.mem_cons_of_mem _ hx)), List.length_cons]; omega
  exact ⟨key L i hi h, key2 L h⟩
def weSt (l : List Ntr) (m : Int) (x : Nat × Int) : List (Nat × AV) := [(0, .d (.sl 39 l.length (flE l))), (1, .d (.c (.int .i64 m))), (5, .d (.c (.int .i64 x.2))), (6, .d (.c (.int .i64 x.1)))]
def ltE (m : Int) (x : Ntr) : Prop := (x.f.l.length : Int) ≤ m ∧ (x.body.length : Int) ≤ m ∧ ∀ g ∈ x.body, (g.l.length : Int) ≤ m
set_option maxHeartbeats 1000000 in
theorem wE_ac (l : List Ntr) (m : Int) (hl : l.length ≤ 140737488352000) (hs : ∀ x ∈ l, szE x) (m0 : 0 ≤ m) (m1 : m ≤ 1000000) : AC Tryz.prog noG 4 [.d (.sl 39 l.length (flE l)), .d (.c (.int .i64 m))] []
    (fun v r' => (∃ n : Int, v = .d (.c (.int .i64 n)) ∧ (0 ≤ n ∧ n ≤ 3000000000000000) ∧ (n ≤ m → (l.length : Int) ≤ m ∧ ∀ x ∈ l, ltE m x)) ∧ r' = []) := by
  refine AC.pure ?_ (by rintro v ⟨n, rfl, _, _⟩; rfl)
  refine AC_of_R (N := 38) (res := [.tmp 4]) ty_ok Tryz.call4 Tryz.func4 rfl rfl rfl (Nat.le_of_ble_eq_true rfl) ?_
  refine rn0 ?_
  refine HC_loopR (weSt l m) (fun _ => []) (fun x => x.1 ≤ l.length ∧ (x.1 : Int) ≤ x.2 ∧ x.2 ≤ 3000000000000000 ∧ (x.2 ≤ m → ∀ y ∈ l.take x.1, ltE m y)) (fun x => l.length - x.1) (0, 0) [] [] ⟨by simp, by simp, by simp, by simp⟩ ?_ ?_
  · exact ft1 @weSt.eq_1
  intro ⟨i, n⟩ ⟨h1, h2, h3, h5⟩
  simp only at h1 h2 h3 h5
  refine HC_of_R ty_ok ?_
  by_cases hlt : i < l.length
  · have hi : (i : Int) < l.length := by omega
    by_cases hn : n ≤ m
    · obtain ⟨hd, hle⟩ := flE_drop' (fun x hx => (hs x hx).1) i hlt
      have hsz := hs l[i] (List.getElem_mem hlt)
      have htk := List.take_succ_eq_append_getElem hlt
      generalize l[i] = x at *
      have k1 := wF2_ac [x.f] m (by simp) (by simpa using hsz.2.1) m0 m1
      have k2 := wF2_ac x.body m hsz.2.2.1 hsz.2.2.2 m0 m1
      rw [show flatE fctE [x.f] = fctE x.f by simp [flatE], show [x.f].length = 1 from rfl] at k1
      simp only [entE, fctE, List.cons_append, List.nil_append] at hd k1
      refine rn1 (jn @weSt.eq_1 (jn @hi @hn)) ?_
      refine HC_order [8] ty_ok mix [0, 1, 2, 3, 4, 5, 7, 10, 11, 12, 13, 14, 15, 6, 8, 9, 16, 17, 18, 19] (by kernel_rfl) rfl _ rfl ?_
      simp only [opl_nil', opl_cons', oplC_some, List.getElem?_toArray, List.getElem?_cons_zero, List.getElem?_cons_succ]
      refine rn1 (jn @hi (jn @hd @hle)) ?_
      (repeat (refine And.intro (by omega) ?_))
      refine HO_callX ty_ok [] k1 (trivial) rfl ?_
      rintro v r' ⟨⟨n1, rfl, ⟨p1, p2⟩, p3⟩, rfl⟩ _
      refine rn1 (jn @hi (jn @hd @hle)) ?_
      (repeat (refine And.intro (by omega) ?_))
      refine HO_callX ty_ok [] k2 (trivial) rfl ?_
      rintro v r' ⟨⟨n2, rfl, ⟨q1, q2⟩, q3⟩, rfl⟩ _
      refine rn1 (jn @hi (jn @hd @hle)) ?_
      (repeat (refine And.intro (by omega) ?_))
      refine ⟨(i + 1, n + (1 + n1 + n2)), ⟨by simp only; omega, by simp only; omega, by simp only; omega, ?_⟩, by simp only; omega, [], [], ?_⟩
      · intro hq y hy
        simp only at hq hy
        rw [htk, List.mem_append, List.mem_singleton] at hy
        rcases hy with hy | rfl
        · exact h5 (by omega) y hy
        · exact ⟨(p3 (by omega)).2 _ (by simp), (q3 (by omega)).1, (q3 (by omega)).2⟩
      · exact ft1 @weSt.eq_1
    · refine rn1 (jn @weSt.eq_1 (jn @hi @hn)) ?_
      exact ⟨n, rfl, ⟨by omega, h3⟩, fun h => absurd h hn⟩
  · have hi : ¬ (i : Int) < l.length := by omega
    refine rn1 (jn @weSt.eq_1 @hi) ?_
    rw [List.take_of_length_le (by omega)] at h5
    exact ⟨n, rfl, ⟨by omega, h3⟩, fun h => ⟨by omega, h5 h⟩⟩
end Go.Proofs.YtdbicadncccpoaaGreat

set_option linter.unusedVariables false
set_option linter.unusedSimpArgs false
set_option maxRecDepth 100000
namespace Go.Proofs.YtdbicadncccpoaaGreat
open Go Go.ChangeShapes Go.WideShapes
theorem opens_array {P : Program} {t e : TypeId} {α : Type} {en : α → List D} {ms : α → Nat} {ok : α → Prop} {n sz : Nat} (ht : P.underlying t = some (.array n e)) (hsz : P.cellsOf e = sz) (hct : P.cellsOf t = n * sz) (hen : ∀ a, ok a → (en a).length = sz) (h : Opens P e en ms ok) :
    Opens P t (fun l : List α => l.flatMap en) (fun _ => 1) (fun l => l.length = n ∧ ∀ a ∈ l, ok a) := by
  intro H enc W fuel cs x hx hw
  obtain ⟨xs, m, _, rfl, hl, hlen, hf⟩ := DataW.trod_array ht hx
  have hlist : ∀ k, k ≤ n → ∃ l : List α, l.length = k ∧ (∀ a ∈ l, ok a) ∧ RL (oldT W) W (l.flatMap en) (cs.take (k * sz)) := by
    intro k
    induction k with
    | zero => exact fun _ => ⟨[], rfl, fun a ha => by simp at ha, by simp [RL]⟩
    | succ k ih =>
      intro hk
      obtain ⟨l, hl1, hok, hr⟩ := ih (by omega)
      have hi : k < xs.length := by omega
      have h1 := hf k (by omega)
      rw [List.getElem?_eq_getElem hi, hsz] at h1
      have hm : xs[k].1 ∈ xs.map (·.1) := List.mem_map.2 ⟨xs[k], List.getElem_mem hi, rfl⟩
      obtain ⟨a, o1, r1, _⟩ := h H enc W m _ xs[k] h1 (fun q hq => hw q (by
        simp only [DataW.weights, ht]
        exact weightsAll_mem hm q hq))
      refine ⟨l ++ [a], by simp [hl1], ?_, ?_⟩
      · intro y hy
        simp only [List.mem_append, List.mem_cons, List.not_mem_nil, or_false] at hy
        rcases hy with hy | rfl
        · exact hok y hy
        · exact o1
      · rw [List.flatMap_append, List.flatMap_cons, List.flatMap_nil, List.append_nil, Nat.succ_mul, List.take_add]
        exact RL_append _ _ _ _ hr r1
  obtain ⟨l, h1, h2, h3⟩ := hlist n (Nat.le_refl _)
  refine ⟨l, ⟨h1, h2⟩, ?_, by simp only [bk]; omega⟩
  rw [List.take_of_length_le (by omega)] at h3
  exact h3
end Go.Proofs.YtdbicadncccpoaaGreat

set_option linter.unusedVariables false
set_option linter.unusedSimpArgs false
set_option maxRecDepth 100000
namespace Go.Proofs.YtdbicadncccpoaaGreat
open Go Go.ChangeShapes Go.WideShapes
theorem o_fcts : Opens Tryz.prog 39 (fun l : List Fct => [.sl 4 l.length (flatE fctE l)]) (fun l => (l.map fun _ => 1).sum + 1) (fun l => l.length * 72 ≤ reachBytes ∧ ∀ f ∈ l, okFct f) :=
  opens_slice (e := 38) (by kernel_rfl) (by kernel_rfl) (by kernel_rfl) (fun a _ => rfl) o_fct
theorem o_u8 : Opens Tryz.prog 5 (fun b : UInt8 => [.c (.int .u8 (b.toNat : Int))]) (fun _ => 1) (fun _ => True) := by
  refine (opens_int (k := .u8) (by kernel_rfl)).mono (fun n => UInt8.ofNat n.toNat) (fun n hn => ?_) (fun _ _ => Nat.le_refl _) (fun _ _ => trivial)
  have e1 : IntKind.u8.min = 0 := rfl
  have e2 : IntKind.u8.max = 255 := rfl
  rw [e1, e2] at hn
  have : (UInt8.ofNat n.toNat).toNat = n.toNat := by rw [UInt8.toNat_ofNat']; omega
  rw [this]
  have : ((n.toNat : Nat) : Int) = n := by omega
  rw [this]
theorem o_dig : Opens Tryz.prog 41 bD (fun _ => 1) (fun l => l.length = 32) := by
  have base := opens_array (P := Tryz.prog) (t := 41) (e := 5) (n := 32) (sz := 1) (by kernel_rfl) (by kernel_rfl) (by kernel_rfl) (fun _ _ => rfl) o_u8
  exact base.mono (fun l => l) (fun l _ => (flat_bD l).symm) (fun _ _ => Nat.le_refl _) (fun l h => h.1)
def okNt (x : Ntr) : Prop := okFct x.f ∧ (x.body.length * 72 ≤ reachBytes ∧ ∀ f ∈ x.body, okFct f) ∧ x.tg.length = 32
theorem o_ent : Opens Tryz.prog 43 entE (fun _ => 1) okNt := by
  have base := opens_struct (m := 39) Tryz.underlying43 (by kernel_rfl) (fun a h => by simp [fctE, bD, h.2.2.2.2.1]) (opensF_c (sz := 4) o_fct (opensF_c (sz := 1) (o_int (t := 3) (by kernel_rfl)) (opensF_c (sz := 1) (o_int (t := 3) (by kernel_rfl)) (opensF_c (sz := 1) o_fcts (opensF_c (sz := 32) o_dig (opensF_nil Tryz.prog 39) rfl (by kernel_rfl) (fun l h => by rw [bD_len, h])) rfl (by kernel_rfl) (fun _ _ => rfl)) rfl (by kernel_rfl) (fun _ _ => rfl)) rfl (by kernel_rfl) (fun _ _ => rfl)) rfl (by kernel_rfl) (fun _ _ => rfl))
  exact base.mono (fun x => ⟨x.1, x.2.1, x.2.2.1, x.2.2.2.1, x.2.2.2.2.1⟩) (fun a _ => by simp [entE, fctE]) (fun a _ => by omega) (fun a h => ⟨h.1, h.2.2.2.1, h.2.2.2.2.1⟩)
theorem o_ents : Opens Tryz.prog 22 (fun l : List Ntr => [.sl 39 l.length (flE l)]) (fun l => (l.map fun _ => 1).sum + 1) (fun l => l.length * 144 ≤ reachBytes ∧ ∀ x ∈ l, okNt x) :=
  opens_slice (e := 43) (by kernel_rfl) (by kernel_rfl) (by kernel_rfl) (fun a h => entE_len h.2.2) o_ent
theorem okFct_sz {f : Fct} (h : okFct f) : okF f ∧ szF f := by
  obtain ⟨⟨h1, h2, h3⟩, h4, h5⟩ := h
  have := hRB
  refine ⟨fun c hc => (h5 c hc).1, by omega, by omega, by omega, by omega, fun c hc => ?_⟩
  have := (h5 c hc).2
  omega
theorem okNt_sz {x : Ntr} (h : okNt x) : szE x ∧ ∀ g ∈ facX x, okF g := by
  obtain ⟨h1, h2, h3⟩ := h
  have := hRB
  refine ⟨⟨h3, (okFct_sz h1).2, by omega, fun g hg => (okFct_sz (h2.2 g hg)).2⟩, fun g hg => ?_⟩
  rcases List.mem_cons.1 hg with rfl | hg
  · exact (okFct_sz h1).1
  · exact (okFct_sz (h2.2 g hg)).1
end Go.Proofs.YtdbicadncccpoaaGreat

set_option linter.unusedVariables false
set_option linter.unusedSimpArgs false
set_option maxRecDepth 100000
namespace Go.Proofs.YtdbicadncccpoaaGreat
open Go Go.ChangeShapes Go.WideShapes
/-! The document's Encode. -/
def rnSt (c : List Ntr) (i : Nat) (acc : List UInt8) : List (Nat × AV) := [(0, .d (.sl 39 c.length (flE c))), (4, .sl (.own 1) 1 acc.length (bD acc)), (5, .d (.c (.int .i64 i)))]
def rnRe (acc : List UInt8) : Rs := [none, some (.tok acc.length)]
def rmSt (c : List Ntr) (i j : Nat) (acc : List UInt8) : List (Nat × AV) := [(0, .d (.sl 39 c.length (flE c))), (4, .sl (.own 7) 1 acc.length (bD acc)), (5, .d (.c (.int .i64 i))), (6, .ptr 2 0), (8, .d (.c (.int .i64 j)))]
def rmRe (x : Ntr) (acc : List UInt8) : Rs := [none, none, xB x, none, none, none, none, some (.tok acc.length)]
set_option maxHeartbeats 800000 in
theorem rencode_ac (c : List Ntr) (hL : okL c) (hX : ∀ x ∈ c, okX x) : AC Tryz.prog noG 8 [.d (.sl 39 c.length (flE c))] [] (fun v r' => v = .tup [.d (.sl 1 (encX c).length (bD (encX c))), .d (.c (.int .i64 (encE c)))] ∧ r' = []) := by
  refine AC.fit ?_
  refine AC_of_R (N := 114) (res := [.tmp 2, .tmp 3]) ty_ok Tryz.call8 Tryz.func8 rfl rfl rfl (Nat.le_of_ble_eq_true rfl) ?_
  have hz : ([UInt8.ofNat 0, UInt8.ofNat 0, UInt8.ofNat 0, UInt8.ofNat 0, UInt8.ofNat 0, UInt8.ofNat 0, UInt8.ofNat 0, UInt8.ofNat 0, UInt8.ofNat 0, UInt8.ofNat 0, UInt8.ofNat 0, UInt8.ofNat 0, UInt8.ofNat 0, UInt8.ofNat 0, UInt8.ofNat 0, UInt8.ofNat 0, UInt8.ofNat 0, UInt8.ofNat 0, UInt8.ofNat 0, UInt8.ofNat 0, UInt8.ofNat 0, UInt8.ofNat 0, UInt8.ofNat 0, UInt8.ofNat 0, UInt8.ofNat 0, UInt8.ofNat 0, UInt8.ofNat 0, UInt8.ofNat 0, UInt8.ofNat 0, UInt8.ofNat 0, UInt8.ofNat 0, UInt8.ofNat 0] : List UInt8) = tgz := rfl
  obtain ⟨z1, z2, z3, z4, z5, z6⟩ := tg32 tgz rfl
  have z7 : (tA tgz).drop 32 = [] := List.drop_of_length_le (by omega)
  have bD_nil : bD [] = [] := rfl
  have hcl := hL.1
  have hfl := flE_len hL
  by_cases hn : (c.length : Int) > 4096
  · have hG : encG c = false := by rw [encG, Bool.and_eq_false_iff]; left; rw [decide_eq_false_iff_not]; omega
    refine rn1 @hn ?_
    rw [encX, encE, hG]
    simp only [Bool.false_eq_true, if_false, List.length_nil, bD_nil]
    exact fv0 [] []
  have hcl2 : c.length ≤ 4096 := by omega
  have k0 := rputInt_ac [] (c.length : Int) (by omega) (by omega) (by simp)
  have kl := leb_i64 (n := (c.length : Int)) (by omega) (by omega)
  rw [List.nil_append, List.length_nil, bD_nil] at k0
  refine rn1 @hn ?_
  refine HO_callX ty_ok [] k0 (trivial) rfl ?_
  rintro v r' ⟨rfl, rfl⟩ _
  obtain ⟨b0, hb0⟩ : ∃ b0, b0 = leb (zig (c.length : Int)) := ⟨_, rfl⟩
  rw [← hb0] at kl ⊢
  refine rn0 ?_
  refine HC_loopR (fun i : Nat => rnSt c i ((c.take i).foldl entB b0)) (fun i => rnRe ((c.take i).foldl entB b0)) (fun i => i ≤ c.length ∧ (c.take i).all goodX = true) (fun i => c.length - i) 0 [0, 0] [] ⟨by omega, rfl⟩ ?_ ?_
  · exact ft1 (jn @rnSt.eq_1 (jn @rnRe.eq_1 (jn @List.take_zero.{0} @List.foldl_nil.{0, 0})))
  intro i ⟨hi1, hall⟩
  refine HC_of_R ty_ok ?_
  by_cases hlt : i < c.length
  · have hi : (i : Int) < c.length := by omega
    have hd := flE_drop hL i hlt
    have hxx := hX c[i] (List.getElem_mem hlt)
    have hstep := fold_take entB c i hlt b0
    have hal := all_take' (p := goodX) hlt
    have hno := all_not' (p := goodX) hlt
    have hacc := foldE_le (c.take i) b0 (fun x hx => ⟨hX x (List.mem_of_mem_take hx), by rw [List.all_eq_true] at hall; exact hall x hx⟩)
    rw [List.length_take] at hacc
    rw [hall, Bool.true_and] at hal
    generalize c[i] = x at *
    generalize (c.take i).foldl entB b0 = acc at *
    have hbl : x.body.length ≤ 1000000 := hxx.1.2.2.1
    obtain ⟨t1, t2, t3, t4, t5, t6⟩ := tg32 x.tg hxx.1.1
    have htk : (bD x.tg ++ flE (c.drop (i + 1))).take 32 = bD x.tg := by rw [← t2]; exact List.take_left
    have hno1 : mayX x = false → encG c = false := fun hm => by rw [encG, hno (by rw [goodX, hm, Bool.false_and]), Bool.and_false]
    have hno2 : (facX x).all chkF = false → encG c = false := fun hm => by rw [encG, hno (by rw [goodX, hm, Bool.and_false]), Bool.and_false]
    simp only [entE, fctE, List.cons_append, List.nil_append] at hd
    refine rn1 (jn @rnSt.eq_1 (jn @rnRe.eq_1 (jn @hi (jn @hd (jn @hfl (jn @htk (jn @hz (jn @z1 (jn @z2 (jn @z3 (jn @z4 (jn @z5 (jn @z6 (jn @z7 (jn @t1 (jn @t2 (jn @t3 (jn @t4 (jn @t5 (jn @t6 @tA_allD)))))))))))))))))))) ?_
    (repeat (refine And.intro (by omega) ?_))
    by_cases w1 : x.why < 1
    · skip
      have hG := hno1 (by rw [mayX, decide_eq_false_iff_not]; omega)
      refine rn1 (jn @w1 (jn @t1 (jn @t2 (jn @t3 (jn @t4 (jn @t5 (jn @t6 @tA_allD))))))) ?_
      rw [encX, encE, hG]
      simp only [Bool.false_eq_true, if_false, List.length_nil, bD_nil]
      exact fv0 [] []
    by_cases w3 : x.why > 3
    · skip
      have hG := hno1 (by rw [mayX, decide_eq_false_iff_not]; omega)
      refine rn1 (jn @w1 (jn @w3 (jn @t1 (jn @t2 (jn @t3 (jn @t4 (jn @t5 (jn @t6 @tA_allD)))))))) ?_
      rw [encX, encE, hG]
      simp only [Bool.false_eq_true, if_false, List.length_nil, bD_nil]
      exact fv0 [] []
    by_cases r0 : x.rule < 0
    · skip
      have hG := hno1 (by rw [mayX, decide_eq_false_iff_not]; omega)
      refine rn1 (jn @w1 (jn @w3 (jn @r0 (jn @t1 (jn @t2 (jn @t3 (jn @t4 (jn @t5 (jn @t6 @tA_allD))))))))) ?_
      rw [encX, encE, hG]
      simp only [Bool.false_eq_true, if_false, List.length_nil, bD_nil]
      exact fv0 [] []
    by_cases r4 : x.rule > 4096
    · skip
      have hG := hno1 (by rw [mayX, decide_eq_false_iff_not]; omega)
      refine rn1 (jn @w1 (jn @w3 (jn @r0 (jn @r4 (jn @t1 (jn @t2 (jn @t3 (jn @t4 (jn @t5 (jn @t6 @tA_allD)))))))))) ?_
      rw [encX, encE, hG]
      simp only [Bool.false_eq_true, if_false, List.length_nil, bD_nil]
      exact fv0 [] []
    by_cases b5 : (x.body.length : Int) > 5
    · skip
      have hG := hno1 (by rw [mayX, decide_eq_false_iff_not]; omega)
      refine rn1 (jn @w1 (jn @w3 (jn @r0 (jn @r4 (jn @b5 (jn @t1 (jn @t2 (jn @t3 (jn @t4 (jn @t5 (jn @t6 @tA_allD))))))))))) ?_
      rw [encX, encE, hG]
      simp only [Bool.false_eq_true, if_false, List.length_nil, bD_nil]
      exact fv0 [] []
    by_cases hw : x.why = 2
    · skip
      by_cases hc : chkF x.f = true
      · skip
        have hm : mayX x = true := by rw [mayX, decide_eq_true_eq]; omega
        have k1 := rputInt_ac acc 2 (by omega) (by omega) (by omega)
        have hl1 := leb_i64 (n := 2) (by omega) (by omega)
        have kp := rputF_ac (acc ++ leb (zig 2)) x.f (hxx.2 x.f (by simp [facX])) (Nat.le_trans hxx.1.2.1 (by decide)) (by rw [List.length_append]; omega)
        obtain ⟨A0, hA0⟩ : ∃ A0, A0 = acc ++ leb (zig 2) := ⟨_, rfl⟩
        have hA0l : A0.length ≤ acc.length + 10 := by rw [hA0, List.length_append]; omega
        rw [← hA0] at k1 kp
        simp only [fctE, List.cons_append, List.nil_append] at kp
        have hce : chkE x.f = 0 := chkE_ok hc
        have hpf : putFR A0 x.f = putF A0 x.f := if_pos hc
        have hpl := putF_le (b := A0) (hxx.2 x.f (by simp [facX])) hc
        rw [hce, hpf] at kp
        obtain ⟨A1, hA1⟩ : ∃ A1, A1 = putF A0 x.f := ⟨_, rfl⟩
        rw [← hA1] at kp hpl
        refine rn1 (jn @w1 (jn @w3 (jn @r0 (jn @r4 (jn @b5 (jn @hw (jn @t1 (jn @t2 (jn @t3 (jn @t4 (jn @t5 (jn @t6 @tA_allD)))))))))))) ?_
        refine HO_callX ty_ok [] k1 (trivial) rfl ?_
        rintro v r' ⟨rfl, rfl⟩ _
        refine rn1 (jn @t1 (jn @t2 (jn @t3 (jn @t4 (jn @t5 (jn @t6 @tA_allD)))))) ?_
        refine HO_callX ty_ok [] kp (trivial) rfl ?_
        rintro v r' ⟨rfl, rfl⟩ _
        have k3 := rputInt_ac A1 x.rule (by omega) (by omega) (by omega)
        have hl3 := leb_i64 (n := x.rule) (by omega) (by omega)
        obtain ⟨A2, hA2⟩ : ∃ A2, A2 = A1 ++ leb (zig x.rule) := ⟨_, rfl⟩
        have hA2l : A2.length ≤ A1.length + 10 := by rw [hA2, List.length_append]; omega
        rw [← hA2] at k3
        have k4 := rputInt_ac A2 (x.body.length : Int) (by omega) (by omega) (by omega)
        have hl4 := leb_i64 (n := (x.body.length : Int)) (by omega) (by omega)
        obtain ⟨A3, hA3⟩ : ∃ A3, A3 = A2 ++ leb (zig (x.body.length : Int)) := ⟨_, rfl⟩
        have hA3l : A3.length ≤ A2.length + 10 := by rw [hA3, List.length_append]; omega
        rw [← hA3] at k4
        have hS : stgX acc x (x.body.length + 1) = x.body.foldl putF A3 := by
          rw [stgX, if_neg (by omega), Nat.add_sub_cancel, List.take_length, hdrX, if_pos hw, hA3, hA2, hA1, hA0, hw]
        refine rn1 (jn @t1 (jn @t2 (jn @t3 (jn @t4 (jn @t5 (jn @t6 @tA_allD)))))) ?_
        refine HO_callX ty_ok [] k3 (trivial) rfl ?_
        rintro v r' ⟨rfl, rfl⟩ _
        refine rn1 (jn @t1 (jn @t2 (jn @t3 (jn @t4 (jn @t5 (jn @t6 @tA_allD)))))) ?_
        refine HO_callX ty_ok [] k4 (trivial) rfl ?_
        rintro v r' ⟨rfl, rfl⟩ _
        refine rn1 (jn @t1 (jn @t2 (jn @t3 (jn @t4 (jn @t5 (jn @t6 @tA_allD)))))) ?_
        refine HC_loopR (fun j : Nat => rmSt c i j ((x.body.take j).foldl putF A3)) (fun j => rmRe x ((x.body.take j).foldl putF A3)) (fun j => j ≤ x.body.length ∧ (x.body.take j).all chkF = true) (fun j => x.body.length - j) 0 [0, 0, 2, 0, 0, 0, 0, 6] [] ⟨by omega, rfl⟩ ?_ ?_
        · exact ft1 (jn @hw (jn @rmSt.eq_1 (jn @rmRe.eq_1 (jn @xB.eq_1 (jn @enC.eq_1 (jn @tA_wf (jn @List.take_zero.{0} @List.foldl_nil.{0, 0})))))))
        intro j ⟨hj1, hja⟩
        refine HC_of_R ty_ok ?_
        have hsl := foldF_le (x.body.take j) A3 (fun f hf => ⟨hxx.2 f (by simp [facX, List.mem_of_mem_take hf]), by rw [List.all_eq_true] at hja; exact hja f hf⟩)
        rw [List.length_take] at hsl
        by_cases hlj : j < x.body.length
        · have hj : (j : Int) < x.body.length := by omega
          have hd2 := flatE_drop fctE_len x.body j hlj
          have hle2 := flatE_len fctE_len x.body
          have hof := hxx.2 x.body[j] (by simp [facX])
          have hfl3 := hxx.1.2.2.2 x.body[j] (List.getElem_mem hlj)
          have haj := all_take' (p := chkF) hlj
          have hnj := all_not' (p := chkF) hlj
          have hst := fold_take putF x.body j hlj A3
          rw [hja, Bool.true_and] at haj
          have kq := rputF_ac ((x.body.take j).foldl putF A3) x.body[j] hof (by omega) (by omega)
          generalize x.body[j] = g at *
          generalize (x.body.take j).foldl putF A3 = a at *
          simp only [fctE, List.cons_append, List.nil_append] at hd2 kq
          by_cases hcg : chkF g = true
          · have hpf2 : putFR a g = putF a g := if_pos hcg
            rw [chkE_ok hcg, hpf2, ← hst] at kq
            refine rn1 (jn @rmSt.eq_1 (jn @rmRe.eq_1 (jn @xB.eq_1 (jn @enC.eq_1 (jn @hj (jn @hd2 (jn @hle2 (jn @t1 (jn @t2 (jn @t3 (jn @t4 (jn @t5 (jn @t6 @tA_allD))))))))))))) ?_
            (repeat (refine And.intro (by omega) ?_))
            refine HO_callX ty_ok [] kq (trivial) rfl ?_
            rintro v r' ⟨rfl, rfl⟩ _
            refine rn1 (jn @t1 (jn @t2 (jn @t3 (jn @t4 (jn @t5 (jn @t6 @tA_allD)))))) ?_
            (repeat (refine And.intro (by omega) ?_))
            refine ⟨j + 1, ⟨by omega, by rw [haj, hcg]⟩, by omega, [0, 0, 2, 0, 0, 0, 0, 8], [], ?_⟩
            exact ft1 (jn @rmSt.eq_1 (jn @rmRe.eq_1 (jn @xB.eq_1 (jn @enC.eq_1 @tA_wf))))
          · have hG := hno2 (by rw [facX, List.all_cons, Bool.and_eq_false_iff]; right; exact hnj (by simpa using hcg))
            rw [chkE_no hcg] at kq
            refine rn1 (jn @rmSt.eq_1 (jn @rmRe.eq_1 (jn @xB.eq_1 (jn @enC.eq_1 (jn @hj (jn @hd2 (jn @hle2 (jn @t1 (jn @t2 (jn @t3 (jn @t4 (jn @t5 (jn @t6 @tA_allD))))))))))))) ?_
            (repeat (refine And.intro (by omega) ?_))
            refine HO_callX ty_ok [] kq (trivial) rfl ?_
            rintro v r' ⟨rfl, rfl⟩ _
            refine rn1 (jn @t1 (jn @t2 (jn @t3 (jn @t4 (jn @t5 (jn @t6 @tA_allD)))))) ?_
            rw [encX, encE, hG]
            simp only [Bool.false_eq_true, if_false, List.length_nil, bD_nil]
            exact fv0 [] []
        · have hj : ¬ (j : Int) < x.body.length := by omega
          rw [List.take_of_length_le (by omega)] at hja hsl ⊢
          have hgx : goodX x = true := by rw [goodX, hm, facX, List.all_cons, hc, hja]; rfl
          have hW : entB acc x = x.body.foldl putF A3 ++ x.tg := by rw [entB, hS]
          rw [hW] at hstep
          generalize x.body.foldl putF A3 = a at *
          refine rn1 (jn @rmSt.eq_1 (jn @rmRe.eq_1 (jn @xB.eq_1 (jn @enC.eq_1 (jn @hj (jn @t1 (jn @t2 (jn @t3 (jn @t4 (jn @t5 (jn @t6 @tA_allD))))))))))) ?_
          refine ⟨⟨by decide, by decide⟩, ⟨by omega, by omega⟩, ?_⟩
          have hWl : (a ++ x.tg).length = a.length + 32 := by rw [List.length_append, t1]
          rw [← hstep] at hWl
          rw [← hstep, ← hWl]
          (repeat (refine And.intro (by omega) ?_))
          refine ⟨i + 1, ⟨by omega, by rw [hal, hgx]⟩, by omega, [0,7], [], ?_⟩
          exact ft1 (jn @rnSt.eq_1 @rnRe.eq_1)
      · skip
        have hm : mayX x = true := by rw [mayX, decide_eq_true_eq]; omega
        have k1 := rputInt_ac acc 2 (by omega) (by omega) (by omega)
        have hl1 := leb_i64 (n := 2) (by omega) (by omega)
        have kp := rputF_ac (acc ++ leb (zig 2)) x.f (hxx.2 x.f (by simp [facX])) (Nat.le_trans hxx.1.2.1 (by decide)) (by rw [List.length_append]; omega)
        obtain ⟨A0, hA0⟩ : ∃ A0, A0 = acc ++ leb (zig 2) := ⟨_, rfl⟩
        have hA0l : A0.length ≤ acc.length + 10 := by rw [hA0, List.length_append]; omega
        rw [← hA0] at k1 kp
        simp only [fctE, List.cons_append, List.nil_append] at kp
        have hce : chkE x.f = 40 := chkE_no hc
        rw [hce] at kp
        refine rn1 (jn @w1 (jn @w3 (jn @r0 (jn @r4 (jn @b5 (jn @hw (jn @t1 (jn @t2 (jn @t3 (jn @t4 (jn @t5 (jn @t6 @tA_allD)))))))))))) ?_
        refine HO_callX ty_ok [] k1 (trivial) rfl ?_
        rintro v r' ⟨rfl, rfl⟩ _
        refine rn1 (jn @t1 (jn @t2 (jn @t3 (jn @t4 (jn @t5 (jn @t6 @tA_allD)))))) ?_
        refine HO_callX ty_ok [] kp (trivial) rfl ?_
        rintro v r' ⟨rfl, rfl⟩ _
        have hG := hno2 (by rw [facX, List.all_cons, Bool.and_eq_false_iff]; left; simpa using hc)
        refine rn1 (jn @t1 (jn @t2 (jn @t3 (jn @t4 (jn @t5 (jn @t6 @tA_allD)))))) ?_
        rw [encX, encE, hG]
        simp only [Bool.false_eq_true, if_false, List.length_nil, bD_nil]
        exact fv0 [] []
    by_cases rz : x.rule = 0
    · by_cases bz : (x.body.length : Int) = 0
      · skip
        by_cases hc : chkF x.f = true
        · skip
          have hm : mayX x = true := by rw [mayX, decide_eq_true_eq]; omega
          have k1 := rputInt_ac acc x.why (by omega) (by omega) (by omega)
          have hl1 := leb_i64 (n := x.why) (by omega) (by omega)
          have kp := rputF_ac (acc ++ leb (zig x.why)) x.f (hxx.2 x.f (by simp [facX])) (Nat.le_trans hxx.1.2.1 (by decide)) (by rw [List.length_append]; omega)
          obtain ⟨A0, hA0⟩ : ∃ A0, A0 = acc ++ leb (zig x.why) := ⟨_, rfl⟩
          have hA0l : A0.length ≤ acc.length + 10 := by rw [hA0, List.length_append]; omega
          rw [← hA0] at k1 kp
          simp only [fctE, List.cons_append, List.nil_append] at kp
          have hce : chkE x.f = 0 := chkE_ok hc
          have hpf : putFR A0 x.f = putF A0 x.f := if_pos hc
          have hpl := putF_le (b := A0) (hxx.2 x.f (by simp [facX])) hc
          rw [hce, hpf] at kp
          obtain ⟨A1, hA1⟩ : ∃ A1, A1 = putF A0 x.f := ⟨_, rfl⟩
          rw [← hA1] at kp hpl
          refine rn1 (jn @w1 (jn @w3 (jn @r0 (jn @r4 (jn @b5 (jn @hw (jn @rz (jn @bz (jn @t1 (jn @t2 (jn @t3 (jn @t4 (jn @t5 (jn @t6 @tA_allD)))))))))))))) ?_
          refine HO_callX ty_ok [] k1 (trivial) rfl ?_
          rintro v r' ⟨rfl, rfl⟩ _
          refine rn1 (jn @t1 (jn @t2 (jn @t3 (jn @t4 (jn @t5 (jn @t6 @tA_allD)))))) ?_
          refine HO_callX ty_ok [] kp (trivial) rfl ?_
          rintro v r' ⟨rfl, rfl⟩ _
          have hb0' : x.body = [] := List.length_eq_zero_iff.1 (by omega)
          have hgx : goodX x = true := by rw [goodX, hm, facX, List.all_cons, hc, hb0']; rfl
          have hW : entB acc x = A1 ++ x.tg := by
            rw [entB, hb0', List.length_nil, stgX, if_neg (by omega), hb0', List.take_nil, List.foldl_nil, hdrX, if_neg hw, hA1, hA0]
          rw [hW] at hstep
          generalize A1 = a at *
          refine rn1 (jn @hw (jn @t1 (jn @t2 (jn @t3 (jn @t4 (jn @t5 (jn @t6 @tA_allD))))))) ?_
          refine ⟨⟨by decide, by decide⟩, ⟨by omega, by omega⟩, ?_⟩
          have hWl : (a ++ x.tg).length = a.length + 32 := by rw [List.length_append, t1]
          rw [← hstep] at hWl
          rw [← hstep, ← hWl]
          (repeat (refine And.intro (by omega) ?_))
          refine ⟨i + 1, ⟨by omega, by rw [hal, hgx]⟩, by omega, [0,4], [], ?_⟩
          exact ft1 (jn @rnSt.eq_1 @rnRe.eq_1)
        · skip
          have hm : mayX x = true := by rw [mayX, decide_eq_true_eq]; omega
          have k1 := rputInt_ac acc x.why (by omega) (by omega) (by omega)
          have hl1 := leb_i64 (n := x.why) (by omega) (by omega)
          have kp := rputF_ac (acc ++ leb (zig x.why)) x.f (hxx.2 x.f (by simp [facX])) (Nat.le_trans hxx.1.2.1 (by decide)) (by rw [List.length_append]; omega)
          obtain ⟨A0, hA0⟩ : ∃ A0, A0 = acc ++ leb (zig x.why) := ⟨_, rfl⟩
          have hA0l : A0.length ≤ acc.length + 10 := by rw [hA0, List.length_append]; omega
          rw [← hA0] at k1 kp
          simp only [fctE, List.cons_append, List.nil_append] at kp
          have hce : chkE x.f = 40 := chkE_no hc
          rw [hce] at kp
          refine rn1 (jn @w1 (jn @w3 (jn @r0 (jn @r4 (jn @b5 (jn @hw (jn @rz (jn @bz (jn @t1 (jn @t2 (jn @t3 (jn @t4 (jn @t5 (jn @t6 @tA_allD)))))))))))))) ?_
          refine HO_callX ty_ok [] k1 (trivial) rfl ?_
          rintro v r' ⟨rfl, rfl⟩ _
          refine rn1 (jn @t1 (jn @t2 (jn @t3 (jn @t4 (jn @t5 (jn @t6 @tA_allD)))))) ?_
          refine HO_callX ty_ok [] kp (trivial) rfl ?_
          rintro v r' ⟨rfl, rfl⟩ _
          have hG := hno2 (by rw [facX, List.all_cons, Bool.and_eq_false_iff]; left; simpa using hc)
          refine rn1 (jn @t1 (jn @t2 (jn @t3 (jn @t4 (jn @t5 (jn @t6 @tA_allD)))))) ?_
          rw [encX, encE, hG]
          simp only [Bool.false_eq_true, if_false, List.length_nil, bD_nil]
          exact fv0 [] []
      · skip
        have hG := hno1 (by rw [mayX, decide_eq_false_iff_not]; omega)
        refine rn1 (jn @w1 (jn @w3 (jn @r0 (jn @r4 (jn @b5 (jn @hw (jn @rz (jn @bz (jn @t1 (jn @t2 (jn @t3 (jn @t4 (jn @t5 (jn @t6 @tA_allD)))))))))))))) ?_
        rw [encX, encE, hG]
        simp only [Bool.false_eq_true, if_false, List.length_nil, bD_nil]
        exact fv0 [] []
    · skip
      have hG := hno1 (by rw [mayX, decide_eq_false_iff_not]; omega)
      refine rn1 (jn @w1 (jn @w3 (jn @r0 (jn @r4 (jn @b5 (jn @hw (jn @rz (jn @t1 (jn @t2 (jn @t3 (jn @t4 (jn @t5 (jn @t6 @tA_allD))))))))))))) ?_
      rw [encX, encE, hG]
      simp only [Bool.false_eq_true, if_false, List.length_nil, bD_nil]
      exact fv0 [] []
  · have hi : ¬ (i : Int) < c.length := by omega
    rw [List.take_of_length_le (by omega)] at hall ⊢
    have hG : encG c = true := by rw [encG, hall, Bool.and_true, decide_eq_true_eq]; exact hcl2
    refine rn1 (jn @rnSt.eq_1 (jn @rnRe.eq_1 @hi)) ?_
    rw [encX, encE, hG]
    simp only [if_true, encB, ← hb0]
    exact fv0 [] []
end Go.Proofs.YtdbicadncccpoaaGreat
