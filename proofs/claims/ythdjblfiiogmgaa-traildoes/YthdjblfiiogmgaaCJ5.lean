/- Parts of the proof: TbNoneA, TbPut, TbLive, CSame. -/
import Derived.Test.YthdjblfiiogmgaaCJ4
import Derived.Test.YthdjblfiiogmgaaCJ3
set_option linter.unusedVariables false
set_option linter.unusedSimpArgs false
set_option maxRecDepth 100000
namespace Go.Proofs.Ythdjblfiiogmgaa
open Go Go.ChangeShapes Go.WideShapes
/-! .. tells nothing. -/
end Go.Proofs.Ythdjblfiiogmgaa

set_option linter.unusedVariables false
set_option linter.unusedSimpArgs false
set_option maxRecDepth 100000
namespace Go.Proofs.Ythdjblfiiogmgaa
open Go Go.ChangeShapes Go.WideShapes
/-! table: find, Has, Put, Len, New. -/
structure okB (L : List Fct) : Prop where
  len : L.length ≤ 100000
  ok : ∀ g ∈ L, g.l.length ≤ 1000000
  srt : srtF L
theorem okB.ins {L : List Fct} (h : okB L) {f : Fct} (hf : f.l.length ≤ 1000000) (hm : f ∉ L) (hl : L.length < 100000) : okB (insFc L f) := by
  refine ⟨by rw [insFc_len]; omega, fun g hg => ?_, insFc_srt h.srt hm⟩
  rcases insFc_mem.1 hg with hg | rfl
  · exact h.ok g hg
  · exact hf
def errB (L : List Fct) (m : Int) (f : Fct) : Int := if chkE f ≠ 0 then chkE f else if f ∈ L then 151 else if m ≤ L.length then 150 else 0
def insB (L : List Fct) (m : Int) (f : Fct) : List Fct := if errB L m f = 0 then insFc L f else L
theorem chkF_w {f : Fct} (h : chkF f = true) : f.l.length ≤ 48 := by
  simp only [chkF, Bool.and_eq_true, decide_eq_true_eq, List.all_eq_true] at h
  exact h.2.2.2.1
end Go.Proofs.Ythdjblfiiogmgaa

set_option linter.unusedVariables false
set_option linter.unusedSimpArgs false
set_option maxRecDepth 100000
namespace Go.Proofs.Ythdjblfiiogmgaa
open Go Go.ChangeShapes Go.WideShapes
/-! The statement's examples of tables. -/
end Go.Proofs.Ythdjblfiiogmgaa

set_option linter.unusedVariables false
set_option linter.unusedSimpArgs false
set_option maxRecDepth 100000
namespace Go.Proofs.Ythdjblfiiogmgaa
open Go Go.ChangeShapes Go.WideShapes
/-! The document's Same and Like of entries. -/
def rlSt (l m : List Fct) (i : Nat) : List (Nat × AV) := [(0, .d (.sl 4 l.length (flatE fctE l))), (1, .d (.sl 4 m.length (flatE fctE m))), (5, .d (.c (.int .i64 i)))]
theorem take_eq_step {α : Type} {l m : List α} {i : Nat} (hl : i < l.length) (hm : i < m.length) (h : l.take i = m.take i) (he : l[i] = m[i]) : l.take (i + 1) = m.take (i + 1) := by
  rw [List.take_succ_eq_append_getElem hl, List.take_succ_eq_append_getElem hm, h, he]
theorem ne_at {α : Type} {l m : List α} {i : Nat} (hl : i < l.length) (hm : i < m.length) (he : l[i] ≠ m[i]) : l ≠ m := by
  intro h; subst h; exact he rfl
set_option maxHeartbeats 400000 in
theorem rlikeF_ac (l m : List Fct) (hl : l.length ≤ 1000000) (hm : m.length ≤ 1000000) (hsl : ∀ f ∈ l, f.l.length ≤ 1000000) (hsm : ∀ f ∈ m, f.l.length ≤ 1000000) :
    AC Try.prog noG 18 [.d (.sl 4 l.length (flatE fctE l)), .d (.sl 4 m.length (flatE fctE m))] [] (fun v r' => v = .d (.c (.bool (decide (l = m)))) ∧ r' = []) := by
  refine AC.pure ?_ (by rintro v rfl; rfl)
  refine AC_of_R (N := 27) (res := [.tmp 4]) ty_ok Try.call18 Try.func18 rfl rfl rfl (Nat.le_of_ble_eq_true rfl) ?_
  by_cases hn : (l.length : Int) = m.length
  · have hn' : l.length = m.length := by omega
    refine rn1 @hn ?_
    refine HC_loopR (fun i : Nat => rlSt l m i) (fun _ => []) (fun i => i ≤ l.length ∧ l.take i = m.take i) (fun i => l.length - i) 0 [] [] ⟨by omega, rfl⟩ ?_ ?_
    · exact ft1 (jn @hn @rlSt.eq_1)
    intro i ⟨hi1, hi2⟩
    refine HC_of_R ty_ok ?_
    by_cases hlt : i < l.length
    · have hi : (i : Int) < l.length := by omega
      have him : (i : Int) < m.length := by omega
      have hltm : i < m.length := by omega
      have hd := flatE_drop fctE_len l i hlt
      have hle := flatE_len fctE_len l
      have hd2 := flatE_drop fctE_len m i hltm
      have hle2 := flatE_len fctE_len m
      have hst := take_eq_step hlt hltm hi2
      have hne := ne_at hlt hltm
      have hg := rord_ac l[i] m[i] (Nat.le_trans (hsl _ (List.getElem_mem hlt)) (by decide)) (Nat.le_trans (hsm _ (List.getElem_mem hltm)) (by decide))
      generalize l[i] = f at *
      generalize m[i] = g at *
      simp only [fctE, List.cons_append, List.nil_append] at hd hd2 hg
      refine rn1 (jn @rlSt.eq_1 (jn @hi @him)) ?_
      refine HC_plan [] ty_ok mix (by kernel_rfl) ?_
      refine rn1 (jn @hi (jn @him (jn @hd (jn @hle (jn @hd2 @hle2))))) ?_
      (repeat (refine And.intro (by omega) ?_))
      refine HO_pureA ty_ok hg ?_
      by_cases he : f = g
      · rw [ordC_zero.2 he]
        refine rn0 ?_
        (repeat (refine And.intro (by omega) ?_))
        refine ⟨i + 1, ⟨by omega, hst he⟩, by omega, [], [], ?_⟩
        exact ft1 @rlSt.eq_1
      · have h0 : ¬ ordC f g = 0 := fun h => he (ordC_zero.1 h)
        have e : decide (l = m) = false := decide_eq_false (hne he)
        rw [e]
        exact rz1 @h0
    · have hi : ¬ (i : Int) < l.length := by omega
      rw [List.take_of_length_le (by omega), List.take_of_length_le (by omega)] at hi2
      have e : decide (l = m) = true := decide_eq_true hi2
      rw [e]
      exact rz1 (jn @rlSt.eq_1 @hi)
  · have e : decide (l = m) = false := decide_eq_false (fun h => hn (by rw [h]))
    rw [e]
    exact rz1 @hn
set_option maxHeartbeats 400000 in
theorem rsameE_ac (x y : Ntr) (hx : okE x) (hy : okE y) : AC Try.prog noG 40 [.d (.agg (entE x)), .d (.agg (entE y))] [] (fun v r' => v = .d (.c (.bool (decide (x = y)))) ∧ r' = []) := by
  refine AC.pure ?_ (by rintro v rfl; rfl)
  refine AC_of_R (N := 39) (res := [.tmp 4]) ty_ok Try.call40 Try.func40 rfl rfl rfl (Nat.le_of_ble_eq_true rfl) ?_
  obtain ⟨t1, t2, t3, t4, t5, t6⟩ := tg32 x.tg hx.1
  obtain ⟨u1, u2, u3, u4, u5, u6⟩ := tg32 y.tg hy.1
  have ko := rord_ac x.f y.f (Nat.le_trans hx.2.1 (by decide)) (Nat.le_trans hy.2.1 (by decide))
  have kl := rlikeF_ac x.body y.body hx.2.2.1 hy.2.2.1 hx.2.2.2 hy.2.2.2
  obtain ⟨f, w, r, b, tg⟩ := x
  obtain ⟨f2, w2, r2, b2, tg2⟩ := y
  simp only at t1 t2 t3 t4 t5 t6 u1 u2 u3 u4 u5 u6 ko kl
  simp only [fctE] at ko
  by_cases h1 : w = w2
  · by_cases h2 : r = r2
    · by_cases h3 : tg = tg2
      · subst h1 h2 h3
        by_cases h4 : f = f2
        · rw [ordC_zero.2 h4] at ko
          have e : decide ((⟨f, w, r, b, tg⟩ : Ntr) = ⟨f2, w, r, b2, tg⟩) = decide (b = b2) := by simp [h4]
          rw [e]
          refine rn1 (jn @entE.eq_1 (jn @fctE.eq_1 (jn @t1 (jn @t2 (jn @t3 (jn @t4 (jn @t5 (jn @t6 @tA_allD)))))))) ?_
          refine HO_pureA ty_ok ko ?_
          refine rn1 (jn @t1 (jn @t2 (jn @t3 (jn @t4 (jn @t5 (jn @t6 @tA_allD)))))) ?_
          refine HO_pureA ty_ok kl ?_
          exact rz0
        · have h0 : ¬ ordC f f2 = 0 := fun h => h4 (ordC_zero.1 h)
          have e : decide ((⟨f, w, r, b, tg⟩ : Ntr) = ⟨f2, w, r, b2, tg⟩) = false := by simp [h4]
          rw [e]
          refine rn1 (jn @entE.eq_1 (jn @fctE.eq_1 (jn @t1 (jn @t2 (jn @t3 (jn @t4 (jn @t5 (jn @t6 @tA_allD)))))))) ?_
          refine HO_pureA ty_ok ko ?_
          exact rz1 @h0
      · skip
        have e : decide ((⟨f, w, r, b, tg⟩ : Ntr) = ⟨f2, w2, r2, b2, tg2⟩) = false := by simp [h1,h2,h3]
        rw [e]
        exact rz1 (jn @entE.eq_1 (jn @fctE.eq_1 (jn @t1 (jn @t2 (jn @t3 (jn @t4 (jn @t5 (jn @t6 (jn @u1 (jn @u2 (jn @u3 (jn @u4 (jn @u5 (jn @u6 (jn @tA_allD (jn @h1 (jn @h2 @h3)))))))))))))))))
    · skip
      have e : decide ((⟨f, w, r, b, tg⟩ : Ntr) = ⟨f2, w2, r2, b2, tg2⟩) = false := by simp [h1,h2]
      rw [e]
      exact rz1 (jn @entE.eq_1 (jn @fctE.eq_1 (jn @t1 (jn @t2 (jn @t3 (jn @t4 (jn @t5 (jn @t6 (jn @u1 (jn @u2 (jn @u3 (jn @u4 (jn @u5 (jn @u6 (jn @tA_allD (jn @h1 @h2))))))))))))))))
  · skip
    have e : decide ((⟨f, w, r, b, tg⟩ : Ntr) = ⟨f2, w2, r2, b2, tg2⟩) = false := by simp [h1]
    rw [e]
    exact rz1 (jn @entE.eq_1 (jn @fctE.eq_1 (jn @t1 (jn @t2 (jn @t3 (jn @t4 (jn @t5 (jn @t6 (jn @u1 (jn @u2 (jn @u3 (jn @u4 (jn @u5 (jn @u6 (jn @tA_allD @h1)))))))))))))))
def rleSt (l m : List Ntr) (i : Nat) : List (Nat × AV) := [(0, .d (.sl 39 l.length (flE l))), (1, .d (.sl 39 m.length (flE m))), (5, .d (.c (.int .i64 i)))]
set_option maxHeartbeats 400000 in
theorem rlikeE_ac (l m : List Ntr) (hl : okL l) (hm : okL m) :
    AC Try.prog noG 29 [.d (.sl 39 l.length (flE l)), .d (.sl 39 m.length (flE m))] [] (fun v r' => v = .d (.c (.bool (decide (l = m)))) ∧ r' = []) := by
  refine AC.pure ?_ (by rintro v rfl; rfl)
  refine AC_of_R (N := 27) (res := [.tmp 4]) ty_ok Try.call29 Try.func29 rfl rfl rfl (Nat.le_of_ble_eq_true rfl) ?_
  have hl1 := hl.1
  have hm1 := hm.1
  by_cases hn : (l.length : Int) = m.length
  · have hn' : l.length = m.length := by omega
    refine rn1 @hn ?_
    refine HC_loopR (fun i : Nat => rleSt l m i) (fun _ => []) (fun i => i ≤ l.length ∧ l.take i = m.take i) (fun i => l.length - i) 0 [] [] ⟨by omega, rfl⟩ ?_ ?_
    · exact ft1 (jn @hn @rleSt.eq_1)
    intro i ⟨hi1, hi2⟩
    refine HC_of_R ty_ok ?_
    by_cases hlt : i < l.length
    · have hi : (i : Int) < l.length := by omega
      have him : (i : Int) < m.length := by omega
      have hltm : i < m.length := by omega
      have hd := flE_drop hl i hlt
      have hle := flE_len hl
      have hd2 := flE_drop hm i hltm
      have hle2 := flE_len hm
      have hst := take_eq_step hlt hltm hi2
      have hne := ne_at hlt hltm
      have hox := hl.2 l[i] (List.getElem_mem hlt)
      have hoy := hm.2 m[i] (List.getElem_mem hltm)
      generalize l[i] = x at *
      generalize m[i] = y at *
      have hg := rsameE_ac x y hox hoy
      obtain ⟨t1, t2, t3, t4, t5, t6⟩ := tg32 x.tg hox.1
      obtain ⟨u1, u2, u3, u4, u5, u6⟩ := tg32 y.tg hoy.1
      have htk : (bD x.tg ++ flE (l.drop (i + 1))).take 32 = bD x.tg := by rw [← t2]; exact List.take_left
      have htk2 : (bD y.tg ++ flE (m.drop (i + 1))).take 32 = bD y.tg := by rw [← u2]; exact List.take_left
      simp only [entE, fctE, List.cons_append, List.nil_append] at hd hd2 hg
      refine rn1 (jn @rleSt.eq_1 (jn @hi @him)) ?_
      refine HC_plan [] ty_ok mix (by kernel_rfl) ?_
      refine rn1 (jn @hi (jn @him (jn @hd (jn @hle (jn @hd2 (jn @hle2 (jn @htk (jn @htk2 (jn @t1 (jn @t2 (jn @t3 (jn @t4 (jn @t5 (jn @t6 (jn @u1 (jn @u2 (jn @u3 (jn @u4 (jn @u5 @u6))))))))))))))))))) ?_
      (repeat (refine And.intro (by omega) ?_))
      refine HO_pureA ty_ok hg ?_
      by_cases he : x = y
      · rw [decide_eq_true he]
        refine rn0 ?_
        (repeat (refine And.intro (by omega) ?_))
        refine ⟨i + 1, ⟨by omega, hst he⟩, by omega, [], [], ?_⟩
        exact ft1 @rleSt.eq_1
      · have e : decide (l = m) = false := decide_eq_false (hne he)
        rw [decide_eq_false he, e]
        exact rz0
    · have hi : ¬ (i : Int) < l.length := by omega
      rw [List.take_of_length_le (by omega), List.take_of_length_le (by omega)] at hi2
      have e : decide (l = m) = true := decide_eq_true hi2
      rw [e]
      exact rz1 (jn @rleSt.eq_1 @hi)
  · have e : decide (l = m) = false := decide_eq_false (fun h => hn (by rw [h]))
    rw [e]
    exact rz1 @hn
end Go.Proofs.Ythdjblfiiogmgaa
