import Derived.Test.YtfeoafddagdbfaaCRgtR
set_option linter.unusedVariables false
set_option linter.unusedSimpArgs false
set_option maxRecDepth 100000
namespace Go.Proofs.Ytfeoafddagdbfaa
open Go Go.ChangeShapes Go.WideShapes
def szRw (r : Rul) : Prop := szR r ∧ r.p.size ≤ 140737488352000 ∧ ∀ x ∈ r.b, x.p.size ≤ 140737488352000
def wrSt1 (l : List Rul) (m : Int) (x : Nat × Int) : List (Nat × AV) := [(0, .d (.sl 11 l.length (flatE rulE l))), (1, .d (.c (.int .i64 m))), (5, .d (.c (.int .i64 x.2))), (6, .d (.c (.int .i64 x.1)))]
def wrSt2 (l : List Rul) (m : Int) (i : Nat) (x : Nat × Int) : List (Nat × AV) := [(0, .d (.sl 11 l.length (flatE rulE l))), (1, .d (.c (.int .i64 m))), (5, .d (.c (.int .i64 x.2))), (6, .d (.c (.int .i64 i))), (7, .d (.c (.int .i64 x.1)))]
set_option maxHeartbeats 1000000 in
theorem wR_ac (l : List Rul) (m : Int) (hl : l.length ≤ 140737488352000) (hs : ∀ r ∈ l, szRw r) (m0 : 0 ≤ m) (m1 : m ≤ 1000000) : AC Try.prog noG 10 [.d (.sl 11 l.length (flatE rulE l)), .d (.c (.int .i64 m))] []
    (fun v r' => (∃ n : Int, v = .d (.c (.int .i64 n))) ∧ r' = []) := by
  refine AC.pure ?_ (by rintro v ⟨n, rfl⟩; rfl)
  refine AC_of_R (N := 77) (res := [.tmp 4]) ty_ok Try.call10 Try.func10 rfl rfl rfl (Nat.le_of_ble_eq_true rfl) ?_
  refine rn0 ?_
  refine HC_loopR (wrSt1 l m) (fun _ => []) (fun x => x.1 ≤ l.length ∧ 0 ≤ x.2 ∧ x.2 ≤ 1000000000000000) (fun x => l.length - x.1) (0, 0) [] [] ⟨by simp, by simp, by simp⟩ ?_ ?_
  · exact ft1 @wrSt1.eq_1
  intro ⟨i, n⟩ ⟨h1, h2, h3⟩
  simp only at h1 h2 h3
  refine HC_of_R ty_ok ?_
  by_cases hlt : i < l.length
  · have hi : (i : Int) < l.length := by omega
    by_cases hn : n ≤ m
    · have hd := flatE_drop rulE_len l i hlt
      have hle := flatE_len rulE_len l
      have hsz := hs l[i] (List.getElem_mem hlt)
      generalize l[i] = f at *
      obtain ⟨⟨z1, z2, z3⟩, z4, z5⟩ := hsz
      unfold szL at z1
      simp only [rulE, List.cons_append, List.nil_append] at hd
      refine rn1 (jn @wrSt1.eq_1 (jn @hi @hn)) ?_
      refine HC_plan [] ty_ok mix (by kernel_rfl) ?_
      refine rn1 (jn @hd @hle) ?_
      (repeat (refine And.intro (by omega) ?_))
      obtain ⟨n0, hn0⟩ : ∃ n0 : Int, n0 = n + (1 + (f.l.length : Int) + (f.p.size : Int) / 16) := ⟨_, rfl⟩
      have hb0 : n + 1 ≤ n0 ∧ n0 ≤ 900000000000000 := by omega
      refine HC_loopR (wrSt2 l m i) (fun _ => []) (fun x => x.1 ≤ f.b.length ∧ 0 ≤ x.2 ∧ x.2 ≤ 1000000000000000) (fun x => f.b.length - x.1) (0, n0) [] [] ⟨by simp, by simp only; omega, by simp only; omega⟩ ?_ ?_
      · rw [hn0]
        exact ft1 @wrSt2.eq_1
      intro ⟨k, q⟩ ⟨g1, g2, g3⟩
      simp only at g1 g2 g3
      refine HC_of_R ty_ok ?_
      by_cases hkl : k < f.b.length
      · have hk : (k : Int) < f.b.length := by omega
        by_cases hq : q ≤ m
        · have hd2 := flatE_drop litE_len f.b k hkl
          have hle2 := flatE_len litE_len f.b
          have hsz := z5 f.b[k] (List.getElem_mem hkl)
          have hsl := z3 f.b[k] (List.getElem_mem hkl)
          unfold szL at hsl
          generalize f.b[k] = c at *
          simp only [litE, List.cons_append, List.nil_append] at hd2
          refine rn1 (jn @wrSt2.eq_1 (jn @hi (jn @hd (jn @hle (jn @hk @hq))))) ?_
          (repeat (refine And.intro (by omega) ?_))
          refine HC_plan [] ty_ok mix (by kernel_rfl) ?_
          refine rn1 (jn @hi (jn @hd (jn @hle (jn @hk (jn @hq (jn @hd2 @hle2)))))) ?_
          (repeat (refine And.intro (by omega) ?_))
          refine ⟨(k + 1, q + (1 + (c.l.length : Int) + (c.p.size : Int) / 16)), ⟨by simp only; omega, by simp only; omega, by simp only; omega⟩, by simp only; omega, [], [], ?_⟩
          exact ft1 @wrSt2.eq_1
        · refine rn1 (jn @wrSt2.eq_1 (jn @hi (jn @hd (jn @hle (jn @hk @hq))))) ?_
          (repeat (refine And.intro (by omega) ?_))
          refine ⟨(i + 1, q), ⟨by simp only; omega, by simp only; omega, by simp only; omega⟩, by simp only; omega, [], [], ?_⟩
          exact ft1 @wrSt1.eq_1
      · have hk : ¬ (k : Int) < f.b.length := by omega
        refine rn1 (jn @wrSt2.eq_1 (jn @hi (jn @hd (jn @hle @hk)))) ?_
        (repeat (refine And.intro (by omega) ?_))
        refine ⟨(i + 1, q), ⟨by simp only; omega, by simp only; omega, by simp only; omega⟩, by simp only; omega, [], [], ?_⟩
        exact ft1 @wrSt1.eq_1
    · refine rn1 (jn @wrSt1.eq_1 (jn @hi @hn)) ?_
      exact ⟨n, rfl⟩
  · have hi : ¬ (i : Int) < l.length := by omega
    refine rn1 (jn @wrSt1.eq_1 @hi) ?_
    exact ⟨n, rfl⟩
end Go.Proofs.Ytfeoafddagdbfaa
