/- Parts of the proof: CLEnt, CTOk, TrGath, TrClone. -/
import Derived.Test.YthdjblfiiogmgaaCJ6
import Derived.Test.YthdjblfiiogmgaaCJ3
set_option linter.unusedVariables false
set_option linter.unusedSimpArgs false
set_option maxRecDepth 100000
namespace Go.Proofs.Ythdjblfiiogmgaa
open Go Go.ChangeShapes Go.WideShapes
/-! The statement's Enter: an entry by its Why. -/
def rO (L : List Ntr) (O : List Nat) (x : Ntr) : List Nat := if errT L x = 0 then insT L O x.f else O
def named (x : Ntr) : Bool := decide (1 ≤ x.why ∧ x.why ≤ 3)
def leV (L : List Ntr) (x : Ntr) : Int := if named x = true then errT L x else 0
def leL (L : List Ntr) (x : Ntr) : List Ntr := if named x = true then rL L x else L
def leO (L : List Ntr) (O : List Nat) (x : Ntr) : List Nat := if named x = true then rO L O x else O
theorem errT_nrm (L : List Ntr) (x : Ntr) (h : x.why ≠ 2) (w : Int) (hw : w ≠ 2) : errT L ⟨x.f, w, 0, [], x.tg⟩ = errT L x := by
  simp only [errT, h, hw, false_and, if_false]
theorem trN_eq (L : List Ntr) (O : List Nat) (x y : Ntr) (hy : y = nrm x) (he : errT L y = errT L x) : trN L O y = tr (rL L x) (rO L O x) := by
  have hf : y.f = x.f := by rw [hy, nrm]; split <;> rfl
  rw [trN, he, rL, rO, hf, hy]
  split <;> rfl
set_option maxHeartbeats 400000 in
theorem lenter_ac (L : List Ntr) (O : List Nat) (hL : okL L) (hI : TInv L O) (hn : L.length ≤ 100000) (x : Ntr) (hx : okE x) : AC Try.prog noG 27 [.ptr 0 0, .d (.agg (entE x))] (tr L O) (fun v r' => v = .d (.c (.int .i64 (leV L x))) ∧ r' = tr (leL L x) (leO L O x)) := by
  refine AC.fit ?_
  refine AC_of_R (N := 36) (res := [.tmp 4]) ty_ok Try.call27 Try.func27 rfl rfl rfl (Nat.le_of_ble_eq_true rfl) ?_
  obtain ⟨t1, t2, t3, t4, t5, t6⟩ := tg32 x.tg hx.1
  have k1 := base_ac L O hL hI hn x.f x.tg hx.1 hx.2.1
  have k3 := said_ac L O hL hI hn x.f x.tg hx.1 hx.2.1
  have k2 := fun h => rule_ac L O hL hI hn x hx h
  by_cases h1 : x.why = 1
  · have hnm : named x = true := by rw [named, decide_eq_true_eq]; omega
    have e1 : errT L ⟨x.f, 1, 0, [], x.tg⟩ = errT L x := errT_nrm L x (by omega) 1 (by decide)
    have e2 := trN_eq L O x ⟨x.f, 1, 0, [], x.tg⟩ (by rw [nrm, if_neg (by omega), h1]) e1
    rw [leV, leL, leO, if_pos hnm, if_pos hnm, if_pos hnm]
    rw [e1, e2] at k1
    simp only [fctE, List.cons_append, List.nil_append] at k1
    refine rn1 (jn @tr.eq_1 (jn @tpC.eq_1 (jn @entE.eq_1 (jn @fctE.eq_1 (jn @h1 (jn @t1 (jn @t2 (jn @t3 (jn @t4 (jn @t5 (jn @t6 @tA_allD))))))))))) ?_
    refine HO_callX ty_ok [0] k1 (tr_hand _ _ _ _ rfl) (tr_wf _ _) ?_
    rintro v r' ⟨rfl, rfl⟩ _
    refine rn1 (jn @tr.eq_1 @tpC.eq_1) ?_
    exact fv1 [0] [] (jn @tr.eq_1 @tpC.eq_1)
  by_cases h3 : x.why = 3
  · have hnm : named x = true := by rw [named, decide_eq_true_eq]; omega
    have e1 : errT L ⟨x.f, 3, 0, [], x.tg⟩ = errT L x := errT_nrm L x (by omega) 3 (by decide)
    have e2 := trN_eq L O x ⟨x.f, 3, 0, [], x.tg⟩ (by rw [nrm, if_neg (by omega), h3]) e1
    rw [leV, leL, leO, if_pos hnm, if_pos hnm, if_pos hnm]
    rw [e1, e2] at k3
    simp only [fctE, List.cons_append, List.nil_append] at k3
    refine rn1 (jn @tr.eq_1 (jn @tpC.eq_1 (jn @entE.eq_1 (jn @fctE.eq_1 (jn @h3 (jn @t1 (jn @t2 (jn @t3 (jn @t4 (jn @t5 (jn @t6 @tA_allD))))))))))) ?_
    refine HO_callX ty_ok [0] k3 (tr_hand _ _ _ _ rfl) (tr_wf _ _) ?_
    rintro v r' ⟨rfl, rfl⟩ _
    refine rn1 (jn @tr.eq_1 @tpC.eq_1) ?_
    exact fv1 [0] [] (jn @tr.eq_1 @tpC.eq_1)
  by_cases h2 : x.why = 2
  · have hnm : named x = true := by rw [named, decide_eq_true_eq]; omega
    have e2 := trN_eq L O x x (by rw [nrm, if_pos h2]) rfl
    have k2 := k2 h2
    rw [leV, leL, leO, if_pos hnm, if_pos hnm, if_pos hnm]
    rw [e2] at k2
    simp only [derE, fctE, List.cons_append, List.nil_append] at k2
    refine rn1 (jn @tr.eq_1 (jn @tpC.eq_1 (jn @entE.eq_1 (jn @fctE.eq_1 (jn @h2 (jn @t1 (jn @t2 (jn @t3 (jn @t4 (jn @t5 (jn @t6 @tA_allD))))))))))) ?_
    refine HO_callX ty_ok [0] k2 (tr_hand _ _ _ _ rfl) (tr_wf _ _) ?_
    rintro v r' ⟨rfl, rfl⟩ _
    refine rn1 (jn @tr.eq_1 @tpC.eq_1) ?_
    exact fv1 [0] [] (jn @tr.eq_1 @tpC.eq_1)
  · have hnm : ¬ named x = true := by rw [named, decide_eq_true_eq]; omega
    rw [leV, leL, leO, if_neg hnm, if_neg hnm, if_neg hnm]
    refine rn1 (jn @tr.eq_1 (jn @tpC.eq_1 (jn @entE.eq_1 (jn @fctE.eq_1 (jn @h1 (jn @h2 (jn @h3 (jn @t1 (jn @t2 (jn @t3 (jn @t4 (jn @t5 (jn @t6 @tA_allD))))))))))))) ?_
    exact fv1 [0] [] (jn @tr.eq_1 @tpC.eq_1)
end Go.Proofs.Ythdjblfiiogmgaa

set_option linter.unusedVariables false
set_option linter.unusedSimpArgs false
set_option maxRecDepth 100000
namespace Go.Proofs.Ythdjblfiiogmgaa
open Go Go.ChangeShapes Go.WideShapes
/-! The trail of entries that were entered, with no program in sight. -/
def stT (p : List Ntr × List Nat) (x : Ntr) : List Ntr × List Nat := (leL p.1 x, leO p.1 p.2 x)
def trailOf (l : List Ntr) : List Ntr × List Nat := l.foldl stT ([], [])
/-- What stands in a trail came behind its body. -/
structure TOk (p : List Ntr × List Nat) (n : Nat) : Prop where
  len : p.1.length ≤ n
  ok : ∀ x ∈ p.1, okE x
  inv : TInv p.1 p.2
  ord : ∀ i (h : i < p.1.length), (p.1[i].why = 2 ∨ p.1[i].body = []) ∧ ∀ g ∈ p.1[i].body, hasT (p.1.take i) g = true
theorem TOk.nil : TOk ([], []) 0 := ⟨Nat.le_refl _, by simp, TInv.nil, by simp⟩
theorem TOk.mono {p : List Ntr × List Nat} {n m : Nat} (h : TOk p n) (hm : n ≤ m) : TOk p m := ⟨Nat.le_trans h.len hm, h.ok, h.inv, h.ord⟩
theorem TOk.okL {p : List Ntr × List Nat} {n : Nat} (h : TOk p n) (hn : n ≤ 1000000) : okL p.1 := ⟨Nat.le_trans h.len hn, h.ok⟩
theorem nrm_ok {x : Ntr} (h : okE x) : okE (nrm x) := by
  rw [nrm]; split
  · exact h
  · exact ⟨h.1, h.2.1, by simp⟩
theorem nrm_f (x : Ntr) : (nrm x).f = x.f := by rw [nrm]; split <;> rfl
theorem err_has {L : List Ntr} {x : Ntr} (h : errT L x = 0) : hasT L x.f = false := by
  cases hq : hasT L x.f with
  | false => rfl
  | true =>
    rw [errT, hq] at h
    split at h
    · omega
    · split at h
      · omega
      · simp at h
theorem err_ord {L : List Ntr} {x : Ntr} (h : errT L x = 0) (hw : x.why = 2) : ordT L x = true := by
  cases hq : ordT L x with
  | true => rfl
  | false =>
    have hh := err_has h
    rw [errT, hq, hh] at h
    split at h
    · omega
    · split at h
      · omega
      · simp [hw] at h
theorem stT_ok {p : List Ntr × List Nat} {n : Nat} (h : TOk p n) {x : Ntr} (hx : okE x) : TOk (stT p x) (n + 1) := by
  by_cases hn : named x = true
  · by_cases he : errT p.1 x = 0
    · have e1 : (stT p x).1 = p.1 ++ [nrm x] := by simp only [stT, leL, rL, if_pos hn, if_pos he]
      have e2 : (stT p x).2 = insT p.1 p.2 x.f := by simp only [stT, leO, rO, if_pos hn, if_pos he]
      have hh := err_has he
      refine ⟨?_, ?_, ?_, ?_⟩
      · rw [e1, List.length_append, List.length_singleton]; have := h.len; omega
      · intro y hy
        rw [e1, List.mem_append, List.mem_singleton] at hy
        rcases hy with hy | rfl
        · exact h.ok y hy
        · exact nrm_ok hx
      · rw [e1, e2, ← nrm_f x]
        exact h.inv.enter (by rw [nrm_f]; exact hh)
      · generalize (stT p x).1 = q at e1
        subst e1
        intro i hi
        rw [List.length_append, List.length_singleton] at hi
        by_cases hlt : i < p.1.length
        · rw [List.getElem_append_left hlt, List.take_append_of_le_length (by omega)]
          exact h.ord i hlt
        · have hie : i = p.1.length := by omega
          subst hie
          rw [List.getElem_append_right (Nat.le_refl _)]
          simp only [Nat.sub_self, List.getElem_cons_zero, List.take_left']
          by_cases hw : x.why = 2
          · have e : nrm x = x := by rw [nrm, if_pos hw]
            rw [e]
            refine ⟨.inl hw, fun g hg => ?_⟩
            have := err_ord he hw
            rw [ordT, List.all_eq_true] at this
            exact this g hg
          · have e : nrm x = ⟨x.f, x.why, 0, [], x.tg⟩ := by rw [nrm, if_neg hw]
            rw [e]
            exact ⟨.inr rfl, by simp⟩
    · have e : stT p x = p := by simp only [stT, leL, leO, rL, rO, if_pos hn, if_neg he]
      rw [e]; exact h.mono (by omega)
  · have e : stT p x = p := by simp only [stT, leL, leO, if_neg hn]
    rw [e]; exact h.mono (by omega)
theorem fold_ok : ∀ (l : List Ntr) (p : List Ntr × List Nat) (n : Nat), TOk p n → (∀ x ∈ l, okE x) → TOk (l.foldl stT p) (n + l.length)
  | [], p, n, h, _ => h
  | x :: l, p, n, h, hl => by
    have h1 := fold_ok l (stT p x) (n + 1) (stT_ok h (hl x (by simp))) fun y hy => hl y (by simp [hy])
    rw [List.foldl_cons, List.length_cons]
    exact h1.mono (by omega)
theorem trail_ok {l : List Ntr} (h : ∀ x ∈ l, okE x) : TOk (trailOf l) l.length := (fold_ok l ([], []) 0 TOk.nil h).mono (by omega)
theorem fold_snoc {l : List Ntr} {i : Nat} (hi : i < l.length) : (l.take (i + 1)).foldl stT ([], []) = stT ((l.take i).foldl stT ([], [])) l[i] := by
  rw [List.take_succ_eq_append_getElem hi, List.foldl_append]; rfl
theorem get_idx {L : List Ntr} {O : List Nat} (hI : TInv L O) {f : Fct} (h : hasT L f = true) : ∃ k, ∃ hk : k < L.length, plc L f = k ∧ L[k].f = f ∧ getT L f = L[k] := by
  obtain ⟨hp, h1, hk, h2⟩ := hI.place h
  refine ⟨_, hk, h1, h2, ?_⟩
  rw [getT, if_pos h, h1, Int.toNat_natCast, List.getD_eq_getElem?_getD, List.getElem?_eq_getElem hk]; rfl
theorem okE_sz {x : Ntr} {m : Int} (hm : m ≤ 1000000) (h : szE x) (k : ltE m x) : okE x := ⟨h.1, by have := k.1; omega, by have := k.2.1; omega, fun g hg => by have := k.2.2 g hg; omega⟩
end Go.Proofs.Ythdjblfiiogmgaa

set_option linter.unusedVariables false
set_option linter.unusedSimpArgs false
set_option maxRecDepth 100000
namespace Go.Proofs.Ythdjblfiiogmgaa
open Go Go.ChangeShapes Go.WideShapes
/-! all: what a trail's All tells. -/
def trA (L : List Ntr) (O : List Nat) : Rs := tr L O ++ [some (.obj [.ptr 0 0])]
theorem tall_ac (L : List Ntr) (O : List Nat) : AC Try.prog noG 64 [.ptr 0 0] (tr L O) (fun v r' => v = .fn (.func 87) [] [.ptr 1 0] ∧ r' = trA L O) := by
  refine AC.fit ?_
  refine AC_of_R (N := 4) (res := [.tmp 2]) ty_ok Try.call64 Try.func64 rfl rfl rfl (Nat.le_of_ble_eq_true rfl) ?_
  refine rn1 (jn @tr.eq_1 @tpC.eq_1) ?_
  exact fv1 [0,1] [] (jn @trA.eq_1 (jn @tr.eq_1 @tpC.eq_1))
/-- The rows while the range goes on. -/
def hR (L : List Ntr) (O : List Nat) (q : Int) (xs : List Ntr) : Rs := tr L O ++ [some (.obj [.d (.c (.int .i64 q))]), some (.obj [.sl (.own 4) 39 xs.length (flE xs)]), some (.obj [.ptr 0 0]), some (.tok (39 * xs.length))]
def hSt : List (Nat × AV) := [(3, .ptr 1 0), (5, .ptr 2 0), (13, .fn (.func 87) [] [.ptr 3 0])]
def haS (L : List Ntr) (l : Nat) (Lp : Loop) (i : Nat) : List (Nat × AV) := [(0, .yv l Lp (slotsOf 24 hSt)), (1, .ptr 3 0), (10, .d (.sl 39 L.length (flE L))), (11, .d (.c (.int .i64 L.length))), (12, .d (.c (.int .i64 i)))]
set_option maxHeartbeats 800000 in
theorem tall1_ac (L : List Ntr) (O : List Nat) (hL : okL L) (q : Int) (l : Nat) (Lp : Loop)
    (hY : ∀ i (h : i < L.length), AY Try.prog noG l Lp (slotsOf 24 hSt) (.d (.agg (entE L[i]))) (hR L O q (L.take i) ++ [some (.ob l (.loop Lp))]) (fun v r' => ∃ s, s = hR L O q (L.take (i + 1)) ∧ v = .d (.c (.bool true)) ∧ r' = s ++ [some (.ob l (.loop Lp))])) :
    AC Try.prog noG 87 [.yv l Lp (slotsOf 24 hSt), .ptr 3 0] (hR L O q [] ++ [some (.ob l (.loop Lp))]) (fun v r' => v = .tup [] ∧ r' = hR L O q L ++ [some (.ob l (.loop Lp))]) := by
  refine AC.fit ?_
  refine AC_of_R (N := 22) (res := []) ty_ok Try.call87 Try.func87 rfl rfl rfl (Nat.le_of_ble_eq_true rfl) ?_
  have k := tnone_ac L O
  have hl := hL.1
  refine rn1 (jn @hR.eq_1 (jn @tr.eq_1 @tpC.eq_1)) ?_
  refine HO_callX ty_ok [0] k (tr_hand _ _ _ _ rfl) (tr_wf _ _) ?_
  rintro v r' ⟨rfl, rfl⟩ _
  refine rn1 (jn @tr.eq_1 @tpC.eq_1) ?_
  refine HC_loopR (fun i : Nat => haS L l Lp i) (fun i => hR L O q (L.take i) ++ [some (.ob l (.loop Lp))]) (fun i => i ≤ L.length) (fun i => L.length - i) 0 [0, 1, 2, 3, 4, 5] [] (Nat.zero_le _) ?_ ?_
  · exact ft1 (jn @haS.eq_1 (jn @hR.eq_1 (jn @tr.eq_1 (jn @tpC.eq_1 @List.take_zero.{0}))))
  intro i hi1
  refine HC_of_R ty_ok ?_
  by_cases hlt : i < L.length
  · have hi : (i : Int) < L.length := by omega
    have hd := flE_drop hL i hlt
    have hle := flE_len hL
    have hox := hL.2 _ (List.getElem_mem hlt)
    have hy := hY i hlt
    generalize L[i] = x at *
    have kk := own_ac x hox
    obtain ⟨t1, t2, t3, t4, t5, t6⟩ := tg32 x.tg hox.1
    have htk : (bD x.tg ++ flE (L.drop (i + 1))).take 32 = bD x.tg := by rw [← t2]; exact List.take_left
    simp only [entE, fctE, List.cons_append, List.nil_append] at hd hy kk
    refine rn1 (jn @haS.eq_1 (jn @hR.eq_1 (jn @tr.eq_1 (jn @tpC.eq_1 (jn @hi (jn @hd (jn @hle (jn @htk (jn @t1 (jn @t2 (jn @t3 (jn @t4 (jn @t5 (jn @t6 @tA_allD)))))))))))))) ?_
    (repeat (refine And.intro (by omega) ?_))
    refine HO_pureA ty_ok kk ?_
    refine rn0 ?_
    refine HO_yield ty_ok [0, 1, 2, 3, 4, 5] hy rfl rfl rfl rfl (by kernel_rfl) (by decide) ⟨(by simp), (by repeat' (first | exact trivial | exact WeakA.refl _ | exact WeakA.toD rfl | refine ⟨?_, ?_⟩)), rfl, (by repeat' (first | exact trivial | (intro y h; injection h with h; subst h; rfl) | (intro y h; cases h; done) | refine ⟨?_, ?_⟩)), rfl⟩ ?_
    rintro v r' ⟨s, rfl, rfl, rfl⟩ _
    refine rn1 (jn @hR.eq_1 (jn @tr.eq_1 @tpC.eq_1)) ?_
    refine ⟨i + 1, (by omega), by omega, [0, 1, 2, 3, 4, 5], [], ?_⟩
    exact ft1 (jn @haS.eq_1 (jn @hR.eq_1 (jn @tr.eq_1 @tpC.eq_1)))
  · have hi : ¬ (i : Int) < L.length := by omega
    have hiL : i = L.length := by omega
    subst hiL
    rw [List.take_length]
    refine rn1 (jn @haS.eq_1 (jn @hR.eq_1 (jn @tr.eq_1 (jn @tpC.eq_1 @hi)))) ?_
    exact fv1 [0,1,2,3,4,5] [] (jn @hR.eq_1 (jn @tr.eq_1 @tpC.eq_1))
set_option maxHeartbeats 800000 in
theorem allT18_ac (L : List Ntr) (O : List Nat) (hL : okL L) : AC Try.prog noG 28 [.ptr 0 0, .d (.c (.int .i64 (-1)))] (tr L O) (fun v r' => v = .d (.sl 39 L.length (flE L)) ∧ r' = tr L O) := by
  refine AC.fit ?_
  refine ACM_of_R (N := 24) (res := [.tmp 4]) ty_ok Try.call28 Try.func28 rfl rfl rfl (Nat.le_of_ble_eq_true rfl) ?_
  intro n0
  have k := (tall_ac L O).at (n := n0)
  have hll := hL.1
  refine rn1 (jn @tr.eq_1 @tpC.eq_1) ?_
  refine HO_callX ty_ok [0] k (tr_hand _ _ _ _ rfl) (tr_wf _ _) ?_
  rintro v r' ⟨rfl, rfl⟩ _
  refine rn1 (jn @trA.eq_1 (jn @tr.eq_1 @tpC.eq_1)) ?_
  refine R_range (HC_fitR hSt (hR L O (-1) []) [0, 1, 2, 3] [0] ?_ (HC_range (p := 14) (m := 5) (fun s => s = hR L O (-1) L) (fun l Lp => [.yv l Lp (slotsOf 24 hSt), .ptr 3 0]) rfl rfl rfl rfl rfl (fun l Lp => ⟨.refl _, .refl _, trivial⟩) ?_ ?_ rfl ?_))
  · exact ft1 (jn @hSt.eq_1 (jn @hR.eq_1 (jn @tr.eq_1 @tpC.eq_1)))
  · intro l Lp h1 h2 h3 h4 h5
    refine AC.at ?_
    refine (tall1_ac L O hL (-1) l Lp fun i hi => ?_).mono fun v r' ⟨_, h⟩ => ⟨_, rfl, h⟩
    refine AY_of_body (ti := ty) (p := 14) (m := 5) (re := hR L O (-1) (L.take i)) (q := fun s => s = hR L O (-1) (L.take (i + 1))) rfl rfl rfl h1 h2 h3 h4 h5 (by decide) (by decide) (fun s h => by rw [h]; rfl) ?_
    refine HC_of_R ty_ok ?_
    have hox := hL.2 _ (List.getElem_mem hi)
    have hxl : (flE (L.take i)).length = 39 * (L.take i).length := flE_len ⟨by rw [List.length_take]; omega, fun x hx => hL.2 x (List.mem_of_mem_take hx)⟩
    have hxn : (L.take i).length ≤ 1000000 := by rw [List.length_take]; omega
    rw [List.take_succ_eq_append_getElem hi]
    generalize L[i] = x at *
    generalize L.take i = xs at *
    obtain ⟨t1, t2, t3, t4, t5, t6⟩ := tg32 x.tg hox.1
    have e2 : flE (xs ++ [x]) = flE xs ++ ([.c (.string x.f.a), .c (.string x.f.b), .c (.string x.f.p), .sl 3 x.f.l.length (flatE cstE x.f.l), .c (.int .i64 x.why), .c (.int .i64 x.rule), .sl 4 x.body.length (flatE fctE x.body)] ++ bD x.tg) := by rw [flE_snoc]; rfl
    have e3 : (xs ++ [x]).length = xs.length + 1 := by simp
    refine rn1 (jn @hSt.eq_1 (jn @hR.eq_1 (jn @tr.eq_1 (jn @tpC.eq_1 (jn @entE.eq_1 (jn @fctE.eq_1 (jn @t1 (jn @t2 (jn @t3 (jn @t4 (jn @t5 (jn @t6 @tA_allD)))))))))))) ?_
    refine ⟨rfl, HC_of_R ty_ok ?_⟩
    refine rn1 (jn @hxl (jn @t1 (jn @t2 (jn @t3 (jn @t4 (jn @t5 (jn @t6 @tA_allD))))))) ?_
    (repeat (refine And.intro (by omega) ?_))
    refine ⟨_, [0, 1, 2, 3, 4, 5], [], rfl, ?_⟩
    exact ft1 (jn @hR.eq_1 (jn @tr.eq_1 (jn @tpC.eq_1 (jn @e2 (jn @e3 @hxl)))))
  · rintro s rfl
    exact ⟨rfl, rfl⟩
  · rintro s rfl
    refine rn1 (jn @hSt.eq_1 (jn @hR.eq_1 (jn @tr.eq_1 @tpC.eq_1))) ?_
    exact fv1 [0] [] (jn @tr.eq_1 @tpC.eq_1)
theorem tlen_ac (L : List Ntr) (O : List Nat) : AC Try.prog noG 32 [.ptr 0 0] (tr L O) (fun v r' => v = .d (.c (.int .i64 L.length)) ∧ r' = tr L O) := by
  refine AC.fit ?_
  refine AC_of_R (N := 10) (res := [.tmp 2]) ty_ok Try.call32 Try.func32 rfl rfl rfl (Nat.le_of_ble_eq_true rfl) ?_
  have k := tnone_ac L O
  refine rn1 (jn @tr.eq_1 @tpC.eq_1) ?_
  refine HO_callX ty_ok [0] k (tr_hand _ _ _ _ rfl) (tr_wf _ _) ?_
  rintro v r' ⟨rfl, rfl⟩ _
  refine rn1 (jn @tr.eq_1 @tpC.eq_1) ?_
  exact fv1 [0] [] (jn @tr.eq_1 @tpC.eq_1)
end Go.Proofs.Ythdjblfiiogmgaa

set_option linter.unusedVariables false
set_option linter.unusedSimpArgs false
set_option maxRecDepth 100000
namespace Go.Proofs.Ythdjblfiiogmgaa
open Go Go.ChangeShapes Go.WideShapes
/-! Clones, laid; a trail's Clone. -/
theorem cloneI_d (n : Nat) (xs : List D) (hx : xs.length = n * 1) (h : n ≤ 1000000) :
    AC Try.prog noG 69 [.d (.sl 1 n xs)] [] (fun v r' => v = .d (.sl 1 n xs) ∧ r' = []) := by
  by_cases h0 : 0 < n
  · exact AC.nones (y := .sl 1 n xs) 0 (by simp) ((cslO_lay hx h0 (cloneI_ac n xs hx h0 h)).mono fun v r' ⟨h1, h2⟩ => ⟨h1, by simp, by rw [h2]; simp⟩)
  · have hn : n = 0 := by omega
    subst hn
    have hxs : xs = [] := List.eq_nil_of_length_eq_zero (by omega)
    subst hxs
    exact AC.dat (cloneI_0.mono fun v r' ⟨h1, _⟩ => by rw [h1]; rfl)
theorem tclone_ac (L : List Ntr) (O : List Nat) (hL : okL L) (hI : TInv L O) : AC Try.prog noG 33 [.ptr 0 0] (tr L O) (fun v r' => v = .ptr 1 0 ∧ r' = tr L O ++ tr L O) := by
  refine AC.fit ?_
  refine AC_of_R (N := 27) (res := [.tmp 2]) ty_ok Try.call33 Try.func33 rfl rfl rfl (Nat.le_of_ble_eq_true rfl) ?_
  have k := tnone_ac L O
  have hl := hL.1
  have hle := flE_len hL
  have hio := hI.len
  have hlo := oD_len O
  have kc := cloneI_d O.length (oD O) (by rw [oD_len]; omega) (by omega)
  have htk : (flE L).take (L.length * 39) = flE L := List.take_of_length_le (by omega)
  refine rn1 (jn @tr.eq_1 @tpC.eq_1) ?_
  refine HO_callX ty_ok [0] k (tr_hand _ _ _ _ rfl) (tr_wf _ _) ?_
  rintro v r' ⟨rfl, rfl⟩ _
  refine rn1 (jn @tr.eq_1 @tpC.eq_1) ?_
  refine HC_plan [19] ty_ok mix (by kernel_rfl) ?_
  refine rn0 ?_
  (repeat (refine And.intro (by omega) ?_))
  refine HO_pureA ty_ok kc ?_
  refine rn1 @htk ?_
  exact fv1 [0,1] [] (jn @tr.eq_1 @tpC.eq_1)
end Go.Proofs.Ythdjblfiiogmgaa
