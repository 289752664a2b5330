import Derived.Test.YthdjblfiiogmgaaCJ7
import Derived.Test.YthdjblfiiogmgaaCJ4
import Derived.Test.YthdjblfiiogmgaaCJ6
set_option linter.unusedVariables false
set_option linter.unusedSimpArgs false
set_option maxRecDepth 100000
namespace Go.Proofs.Ythdjblfiiogmgaa
open Go Go.ChangeShapes Go.WideShapes
/-! TrailFounded. -/
theorem tlen_ac (L : List Ntr) (O : List Nat) : AC Try.prog noG 32 [.ptr 0 0] (tr L O) (fun v r' => v = .d (.c (.int .i64 L.length)) ∧ r' = tr L O) := by
  refine AC.fit ?_
  refine AC_of_R (N := 10) (res := [.tmp 2]) ty_ok Try.call32 Try.func32 rfl rfl rfl (Nat.le_of_ble_eq_true rfl) ?_
  have k := tnone_ac L O
  refine rn1 (jn @tr.eq_1 @tpC.eq_1) ?_
  refine HO_callX ty_ok [0] k (tr_hand _ _ _ _ rfl) (tr_wf _ _) ?_
  rintro v r' ⟨rfl, rfl⟩ _
  refine rn1 (jn @tr.eq_1 @tpC.eq_1) ?_
  exact fv1 [0] [] (jn @tr.eq_1 @tpC.eq_1)
theorem okE_sz {x : Ntr} {m : Int} (hm : m ≤ 1000000) (h : szE x) (k : ltE m x) : okE x := ⟨h.1, by have := k.1; omega, by have := k.2.1; omega, fun g hg => by have := k.2.2 g hg; omega⟩
def tfSt (l : List Ntr) (i : Nat) : List (Nat × AV) := [(0, .d (.sl 39 l.length (flE l))), (3, .ptr 0 0), (4, .d (.c (.int .i64 i)))]
def tfRe (l : List Ntr) (i : Nat) : Rs := tr ((l.take i).foldl stT ([], [])).1 ((l.take i).foldl stT ([], [])).2
def tgSt (L : List Ntr) (i : Nat) : List (Nat × AV) := [(3, .ptr 0 0), (5, .d (.sl 39 L.length (flE L))), (6, .d (.c (.int .i64 i)))]
def thSt (L : List Ntr) (i k : Nat) : List (Nat × AV) := [(3, .ptr 0 0), (5, .d (.sl 39 L.length (flE L))), (6, .d (.c (.int .i64 i))), (7, .d (.c (.int .i64 k)))]
set_option maxHeartbeats 2000000 in
theorem trailFounded_ac (l : List Ntr) (hl : l.length ≤ 140737488352000) (hs : ∀ x ∈ l, szE x) : AC Try.prog noG 7 [.d (.sl 39 l.length (flE l))] [] (fun v r' => v = .d (.c (.bool true)) ∧ r' = []) := by
  refine AC.pure ?_ (by rintro v rfl; rfl)
  refine AC_of_R (N := 78) (res := [.tmp 2]) ty_ok Try.call7 Try.func7 rfl rfl rfl (Nat.le_of_ble_eq_true rfl) ?_
  have kw := wE_ac l 400 hl hs (by decide) (by decide)
  refine rn0 ?_
  refine HO_callX ty_ok [] kw (trivial) rfl ?_
  rintro v r' ⟨⟨n, rfl, _, hn⟩, rfl⟩ _
  by_cases hg : n > 400
  · refine rn1 @hg ?_
    refine HO_pureA ty_ok tlive_ac ?_
    exact rz0
  obtain ⟨hl4, hlt4⟩ := hn (by omega)
  have hok : ∀ x ∈ l, okE x := fun x hx => okE_sz (by decide) (hs x hx) (hlt4 x hx)
  refine rn1 @hg ?_
  refine HO_callX ty_ok [] tnew_ac (trivial) rfl ?_
  rintro v r' ⟨rfl, rfl⟩ _
  refine rn1 (jn @tr.eq_1 @tpC.eq_1) ?_
  refine HC_loopR (fun i : Nat => tfSt l i) (fun i => tfRe l i) (fun i => i ≤ l.length) (fun i => l.length - i) 0 [0] [] (Nat.zero_le _) ?_ ?_
  · have e1 : tfRe l 0 = tr [] [] := rfl
    rw [e1]
    exact ft1 (jn @tfSt.eq_1 (jn @tr.eq_1 @tpC.eq_1))
  intro i hi1
  refine HC_of_R ty_ok ?_
  by_cases hlt : i < l.length
  · have hi : (i : Int) < l.length := by omega
    obtain ⟨hd, hle⟩ := flE_drop' (fun x hx => (hs x hx).1) i hlt
    have hox := hok _ (List.getElem_mem hlt)
    have hstp := fold_snoc hlt
    have hT := fold_ok (l.take i) ([], []) 0 TOk.nil fun x hx => hok x (List.mem_of_mem_take hx)
    rw [List.length_take, Nat.zero_add] at hT
    have htl := hT.len
    generalize l[i] = x at *
    have ek : tfRe l (i + 1) = tr (leL ((l.take i).foldl stT ([], [])).1 x) (leO ((l.take i).foldl stT ([], [])).1 ((l.take i).foldl stT ([], [])).2 x) := by rw [tfRe, hstp]; rfl
    have er : tfRe l i = tr ((l.take i).foldl stT ([], [])).1 ((l.take i).foldl stT ([], [])).2 := rfl
    rw [er]
    generalize (l.take i).foldl stT ([], []) = p at *
    obtain ⟨L, O⟩ := p
    simp only at ek htl hT ⊢
    have kk := lenter_ac L O (hT.okL (by omega)) hT.inv (by omega) x hox
    rw [← ek] at kk
    obtain ⟨t1, t2, t3, t4, t5, t6⟩ := tg32 x.tg hox.1
    have htk : (bD x.tg ++ flE (l.drop (i + 1))).take 32 = bD x.tg := by rw [← t2]; exact List.take_left
    simp only [entE, fctE, List.cons_append, List.nil_append] at hd kk
    refine rn1 (jn @tfSt.eq_1 (jn @tr.eq_1 (jn @tpC.eq_1 (jn @hi (jn @hd (jn @hle (jn @htk (jn @t1 (jn @t2 (jn @t3 (jn @t4 (jn @t5 @t6)))))))))))) ?_
    (repeat (refine And.intro (by omega) ?_))
    refine HO_callX ty_ok [0] kk (tr_hand _ _ _ _ rfl) (tr_wf _ _) ?_
    rintro v r' ⟨rfl, rfl⟩ _
    refine rn1 (jn @tfRe.eq_1 (jn @tr.eq_1 @tpC.eq_1)) ?_
    (repeat (refine And.intro (by omega) ?_))
    refine ⟨i + 1, (by omega), by omega, [0], [], ?_⟩
    exact ft1 (jn @tfSt.eq_1 (jn @tfRe.eq_1 (jn @tr.eq_1 @tpC.eq_1)))
  · have hi : ¬ (i : Int) < l.length := by omega
    have hiL : i = l.length := by omega
    subst hiL
    have er : tfRe l l.length = tr (trailOf l).1 (trailOf l).2 := by rw [tfRe, List.take_length]; rfl
    have hT := trail_ok hok
    have htl := hT.len
    rw [er]
    generalize trailOf l = p at *
    obtain ⟨L, O⟩ := p
    simp only at htl ⊢
    have hL := hT.okL (by omega)
    have hI := hT.inv
    have hord := hT.ord
    simp only at hL hI hord
    have ka := allT18_ac L O hL
    have kl := tlen_ac L O
    refine rn1 (jn @tfSt.eq_1 (jn @tr.eq_1 (jn @tpC.eq_1 @hi))) ?_
    refine HO_callX ty_ok [0] ka (tr_hand _ _ _ _ rfl) (tr_wf _ _) ?_
    rintro v r' ⟨rfl, rfl⟩ _
    refine rn1 (jn @tr.eq_1 @tpC.eq_1) ?_
    refine HC_loopR (fun i : Nat => tgSt L i) (fun _ => tr L O) (fun i => i ≤ L.length) (fun i => L.length - i) 0 [0] [] (Nat.zero_le _) ?_ ?_
    · exact ft1 (jn @tgSt.eq_1 (jn @tr.eq_1 @tpC.eq_1))
    intro i hi1
    refine HC_of_R ty_ok ?_
    by_cases hlt : i < L.length
    · have hi : (i : Int) < L.length := by omega
      have hd := flE_drop hL i hlt
      have hle := flE_len hL
      have hox := hL.2 _ (List.getElem_mem hlt)
      have hpl := place_own hI hlt
      have hbl := hox.2.2.1
      have hbd := (hord i hlt).2
      generalize L[i] = x at *
      have kp := tplace_ac L O hL hI x.f hox.2.1
      rw [hpl] at kp
      obtain ⟨t1, t2, t3, t4, t5, t6⟩ := tg32 x.tg hox.1
      simp only [entE, fctE, List.cons_append, List.nil_append] at hd kp
      refine rn1 (jn @tgSt.eq_1 (jn @tr.eq_1 (jn @tpC.eq_1 (jn @hi (jn @hd @hle))))) ?_
      (repeat (refine And.intro (by omega) ?_))
      refine HO_callX ty_ok [0] kp (tr_hand _ _ _ _ rfl) (tr_wf _ _) ?_
      rintro v r' ⟨rfl, rfl⟩ _
      refine rn1 (jn @tr.eq_1 @tpC.eq_1) ?_
      refine HC_loopR (fun k : Nat => thSt L i k) (fun _ => tr L O) (fun k => k ≤ x.body.length) (fun k => x.body.length - k) 0 [0] [] (Nat.zero_le _) ?_ ?_
      · exact ft1 (jn @thSt.eq_1 (jn @tr.eq_1 @tpC.eq_1))
      intro k hk1
      refine HC_of_R ty_ok ?_
      by_cases hkt : k < x.body.length
      · have hk : (k : Int) < x.body.length := by omega
        have hdb := flatE_drop fctE_len x.body k hkt
        have hlb := flatE_len fctE_len x.body
        have hgm := List.getElem_mem hkt
        have hgl := hox.2.2.2 _ hgm
        have hht := has_take hI (hbd _ hgm)
        have hp0 := plc_iff hht.1
        generalize x.body[k] = g at *
        have kq := tplace_ac L O hL hI g hgl
        simp only [fctE, List.cons_append, List.nil_append] at hdb kq
        have hp1 := hht.2
        have g1 : ¬ plc L g < 0 := by omega
        have g2 : ¬ plc L g ≥ i := by omega
        refine rn1 (jn @thSt.eq_1 (jn @tr.eq_1 (jn @tpC.eq_1 (jn @hi (jn @hd (jn @hle @hk)))))) ?_
        (repeat (refine And.intro (by omega) ?_))
        refine rn1 (jn @hdb (jn @hlb (jn @hi (jn @hd (jn @hle @hk))))) ?_
        (repeat (refine And.intro (by omega) ?_))
        refine HO_callX ty_ok [0] kq (tr_hand _ _ _ _ rfl) (tr_wf _ _) ?_
        rintro v r' ⟨rfl, rfl⟩ _
        refine rn1 (jn @tr.eq_1 (jn @tpC.eq_1 (jn @g1 @g2))) ?_
        (repeat (refine And.intro (by omega) ?_))
        refine ⟨k + 1, (by omega), by omega, [0], [], ?_⟩
        exact ft1 (jn @thSt.eq_1 (jn @tr.eq_1 @tpC.eq_1))
      · have hk : ¬ (k : Int) < x.body.length := by omega
        refine rn1 (jn @thSt.eq_1 (jn @tr.eq_1 (jn @tpC.eq_1 (jn @hi (jn @hd (jn @hle @hk)))))) ?_
        (repeat (refine And.intro (by omega) ?_))
        refine ⟨i + 1, (by omega), by omega, [0], [], ?_⟩
        exact ft1 (jn @tgSt.eq_1 (jn @tr.eq_1 @tpC.eq_1))
    · have hi : ¬ (i : Int) < L.length := by omega
      refine rn1 (jn @tgSt.eq_1 (jn @tr.eq_1 (jn @tpC.eq_1 @hi))) ?_
      refine HO_callX ty_ok [0] kl (tr_hand _ _ _ _ rfl) (tr_wf _ _) ?_
      rintro v r' ⟨rfl, rfl⟩ _
      refine rn1 (jn @tr.eq_1 @tpC.eq_1) ?_
      refine HO_pureA ty_ok tlive_ac ?_
      exact rz0
end Go.Proofs.Ythdjblfiiogmgaa
