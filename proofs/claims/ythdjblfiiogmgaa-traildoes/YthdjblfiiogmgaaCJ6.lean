/- Parts of the proof: WtF, CWt, TbSet, TbGath, CRow, CRef, CRefE. -/
import Derived.Test.YthdjblfiiogmgaaCJ0
import Derived.Test.YthdjblfiiogmgaaCJ5
import Derived.Test.YthdjblfiiogmgaaCJ3
set_option linter.unusedVariables false
set_option linter.unusedSimpArgs false
set_option maxRecDepth 100000
namespace Go.Proofs.Ythdjblfiiogmgaa
open Go Go.ChangeShapes Go.WideShapes
/-- Sizes that a call's data have. -/
def szF (f : Fct) : Prop := f.a.size ≤ 140737488352000 ∧ f.b.size ≤ 140737488352000 ∧ f.p.size ≤ 140737488352000 ∧ f.l.length ≤ 140737488352000 ∧ ∀ c ∈ f.l, c.s.size ≤ 140737488352000
def wfSt1 (l : List Fct) (m : Int) (x : Nat × Int) : List (Nat × AV) := [(0, .d (.sl 4 l.length (flatE fctE l))), (1, .d (.c (.int .i64 m))), (5, .d (.c (.int .i64 x.2))), (6, .d (.c (.int .i64 x.1)))]
def wfSt2 (l : List Fct) (m : Int) (i : Nat) (x : Nat × Int) : List (Nat × AV) := [(0, .d (.sl 4 l.length (flatE fctE l))), (1, .d (.c (.int .i64 m))), (5, .d (.c (.int .i64 x.2))), (6, .d (.c (.int .i64 i))), (7, .d (.c (.int .i64 x.1)))]
end Go.Proofs.Ythdjblfiiogmgaa

set_option linter.unusedVariables false
set_option linter.unusedSimpArgs false
set_option maxRecDepth 100000
namespace Go.Proofs.Ythdjblfiiogmgaa
open Go Go.ChangeShapes Go.WideShapes
/-! The weight of entries. -/
set_option maxHeartbeats 1000000 in
theorem wF2_ac (l : List Fct) (m : Int) (hl : l.length ≤ 140737488352000) (hs : ∀ f ∈ l, szF f) (m0 : 0 ≤ m) (m1 : m ≤ 1000000) : AC Try.prog noG 12 [.d (.sl 4 l.length (flatE fctE l)), .d (.c (.int .i64 m))] []
    (fun v r' => (∃ n : Int, v = .d (.c (.int .i64 n)) ∧ (0 ≤ n ∧ n ≤ 1000000000000000) ∧ (n ≤ m → (l.length : Int) ≤ m ∧ ∀ f ∈ l, (f.l.length : Int) ≤ m)) ∧ r' = []) := by
  refine AC.pure ?_ (by rintro v ⟨n, rfl, _, _⟩; rfl)
  refine AC_of_R (N := 79) (res := [.tmp 4]) ty_ok Try.call12 Try.func12 rfl rfl rfl (Nat.le_of_ble_eq_true rfl) ?_
  refine rn0 ?_
  refine HC_loopR (wfSt1 l m) (fun _ => []) (fun x => x.1 ≤ l.length ∧ (x.1 : Int) ≤ x.2 ∧ x.2 ≤ 1000000000000000 ∧ ∀ f ∈ l.take x.1, (f.l.length : Int) ≤ x.2) (fun x => l.length - x.1) (0, 0) [] [] ⟨by simp, by simp, by simp, by simp⟩ ?_ ?_
  · exact ft1 @wfSt1.eq_1
  intro ⟨i, n⟩ ⟨h1, h2, h3, h5⟩
  simp only at h1 h2 h3 h5
  refine HC_of_R ty_ok ?_
  by_cases hlt : i < l.length
  · have hi : (i : Int) < l.length := by omega
    by_cases hn : n ≤ m
    · have hd := flatE_drop fctE_len l i hlt
      have hle := flatE_len fctE_len l
      have hsz := hs l[i] (List.getElem_mem hlt)
      have htk := List.take_succ_eq_append_getElem hlt
      generalize l[i] = f at *
      obtain ⟨z1, z2, z3, z4, z5⟩ := hsz
      simp only [fctE, List.cons_append, List.nil_append] at hd
      refine rn1 (jn @wfSt1.eq_1 (jn @hi @hn)) ?_
      refine HC_plan [] ty_ok mix (by kernel_rfl) ?_
      refine rn1 (jn @hd @hle) ?_
      (repeat (refine And.intro (by omega) ?_))
      obtain ⟨n0, hn0⟩ : ∃ n0 : Int, n0 = n + (1 + (f.l.length : Int) + ((f.a.size : Int) + f.b.size + f.p.size) / 16) := ⟨_, rfl⟩
      have hb0 : n + 1 ≤ n0 ∧ n0 ≤ 900000000000000 ∧ (f.l.length : Int) ≤ n0 := by omega
      have hnew : ∀ q : Int, n0 ≤ q → ∀ g ∈ l.take (i + 1), (g.l.length : Int) ≤ q := by
        intro q hq g hg
        rw [htk, List.mem_append, List.mem_singleton] at hg
        rcases hg with hg | rfl
        · have := h5 g hg; omega
        · omega
      refine HC_loopR (wfSt2 l m i) (fun _ => []) (fun x => x.1 ≤ f.l.length ∧ n0 ≤ x.2 ∧ x.2 ≤ 1000000000000000) (fun x => f.l.length - x.1) (0, n0) [] [] ⟨by simp, by simp, by simp only; omega⟩ ?_ ?_
      · rw [hn0]
        exact ft1 @wfSt2.eq_1
      intro ⟨k, q⟩ ⟨g1, g2, g3⟩
      simp only at g1 g2 g3
      refine HC_of_R ty_ok ?_
      by_cases hkl : k < f.l.length
      · have hk : (k : Int) < f.l.length := by omega
        by_cases hq : q ≤ m
        · have hd2 := flatE_drop cstE_len f.l k hkl
          have hle2 := flatE_len cstE_len f.l
          have hsz := z5 f.l[k] (List.getElem_mem hkl)
          generalize f.l[k] = c at *
          simp only [cstE, List.cons_append, List.nil_append] at hd2
          refine rn1 (jn @wfSt2.eq_1 (jn @hi (jn @hd (jn @hle (jn @hk (jn @hq (jn @hd2 @hle2))))))) ?_
          (repeat (refine And.intro (by omega) ?_))
          refine ⟨(k + 1, q + (c.s.size : Int) / 16), ⟨by simp only; omega, by simp only; omega, by simp only; omega⟩, by simp only; omega, [], [], ?_⟩
          exact ft1 @wfSt2.eq_1
        · refine rn1 (jn @wfSt2.eq_1 (jn @hi (jn @hd (jn @hle (jn @hk @hq))))) ?_
          (repeat (refine And.intro (by omega) ?_))
          refine ⟨(i + 1, q), ⟨by simp only; omega, by simp only; omega, by simp only; omega, hnew q (by omega)⟩, by simp only; omega, [], [], ?_⟩
          exact ft1 @wfSt1.eq_1
      · have hk : ¬ (k : Int) < f.l.length := by omega
        refine rn1 (jn @wfSt2.eq_1 (jn @hi (jn @hd (jn @hle @hk)))) ?_
        (repeat (refine And.intro (by omega) ?_))
        refine ⟨(i + 1, q), ⟨by simp only; omega, by simp only; omega, by simp only; omega, hnew q (by omega)⟩, by simp only; omega, [], [], ?_⟩
        exact ft1 @wfSt1.eq_1
    · refine rn1 (jn @wfSt1.eq_1 (jn @hi @hn)) ?_
      exact ⟨n, rfl, ⟨by omega, h3⟩, fun h => absurd h hn⟩
  · have hi : ¬ (i : Int) < l.length := by omega
    refine rn1 (jn @wfSt1.eq_1 @hi) ?_
    rw [List.take_of_length_le (by omega)] at h5
    exact ⟨n, rfl, ⟨by omega, h3⟩, fun h => ⟨by omega, fun g hg => by have := h5 g hg; omega⟩⟩
/-- Entries as memory can hold them. -/
def szE (x : Ntr) : Prop := x.tg.length = 32 ∧ szF x.f ∧ x.body.length ≤ 140737488352000 ∧ ∀ f ∈ x.body, szF f
theorem flE_drop' {L : List Ntr} (h : ∀ x ∈ L, x.tg.length = 32) (i : Nat) (hi : i < L.length) : (flE L).drop (i * 39) = entE L[i] ++ flE (L.drop (i + 1)) ∧ (flE L).length = 39 * L.length := by
  have key : ∀ (l : List Ntr) (i : Nat) (hi : i < l.length), (∀ x ∈ l, x.tg.length = 32) → (flatE entE l).drop (i * 39) = entE l[i] ++ flatE entE (l.drop (i + 1)) := by
    intro l
    induction l with
    | nil => intro i hi; simp at hi
    | cons a l ih =>
      intro i hi h
      have ha := entE_len (h a (by simp))
      cases i with
      | zero => rw [flatE_cons]; simp
      | succ i =>
        rw [flatE_cons, show (i + 1) * 39 = 39 + i * 39 by omega, ← List.drop_drop, ← ha, List.drop_left, ha, ih i (by simpa using hi) (fun x hx => h x (List.mem_cons_of_mem _ hx))]
        simp
  have key2 : ∀ l : List Ntr, (∀ x ∈ l, x.tg.length = 32) → (flatE entE l).length = 39 * l.length := by
    intro l
    induction l with
    | nil => intro _; rfl
    | cons a l ih =>
      intro h
      rw [flatE_cons, List.length_append, entE_len (h a (by simp)), ih (fun x hx => h x (List.mem_cons_of_mem _ hx)), List.length_cons]; omega
  exact ⟨key L i hi h, key2 L h⟩
def weSt (l : List Ntr) (m : Int) (x : Nat × Int) : List (Nat × AV) := [(0, .d (.sl 39 l.length (flE l))), (1, .d (.c (.int .i64 m))), (5, .d (.c (.int .i64 x.2))), (6, .d (.c (.int .i64 x.1)))]
def ltE (m : Int) (x : Ntr) : Prop := (x.f.l.length : Int) ≤ m ∧ (x.body.length : Int) ≤ m ∧ ∀ g ∈ x.body, (g.l.length : Int) ≤ m
set_option maxHeartbeats 1000000 in
theorem wE_ac (l : List Ntr) (m : Int) (hl : l.length ≤ 140737488352000) (hs : ∀ x ∈ l, szE x) (m0 : 0 ≤ m) (m1 : m ≤ 1000000) : AC Try.prog noG 24 [.d (.sl 39 l.length (flE l)), .d (.c (.int .i64 m))] []
    (fun v r' => (∃ n : Int, v = .d (.c (.int .i64 n)) ∧ (0 ≤ n ∧ n ≤ 3000000000000000) ∧ (n ≤ m → (l.length : Int) ≤ m ∧ ∀ x ∈ l, ltE m x)) ∧ r' = []) := by
  refine AC.pure ?_ (by rintro v ⟨n, rfl, _, _⟩; rfl)
  refine AC_of_R (N := 38) (res := [.tmp 4]) ty_ok Try.call24 Try.func24 rfl rfl rfl (Nat.le_of_ble_eq_true rfl) ?_
  refine rn0 ?_
  refine HC_loopR (weSt l m) (fun _ => []) (fun x => x.1 ≤ l.length ∧ (x.1 : Int) ≤ x.2 ∧ x.2 ≤ 3000000000000000 ∧ (x.2 ≤ m → ∀ y ∈ l.take x.1, ltE m y)) (fun x => l.length - x.1) (0, 0) [] [] ⟨by simp, by simp, by simp, by simp⟩ ?_ ?_
  · exact ft1 @weSt.eq_1
  intro ⟨i, n⟩ ⟨h1, h2, h3, h5⟩
  simp only at h1 h2 h3 h5
  refine HC_of_R ty_ok ?_
  by_cases hlt : i < l.length
  · have hi : (i : Int) < l.length := by omega
    by_cases hn : n ≤ m
    · obtain ⟨hd, hle⟩ := flE_drop' (fun x hx => (hs x hx).1) i hlt
      have hsz := hs l[i] (List.getElem_mem hlt)
      have htk := List.take_succ_eq_append_getElem hlt
      generalize l[i] = x at *
      have k1 := wF2_ac [x.f] m (by simp) (by simpa using hsz.2.1) m0 m1
      have k2 := wF2_ac x.body m hsz.2.2.1 hsz.2.2.2 m0 m1
      rw [show flatE fctE [x.f] = fctE x.f by simp [flatE], show [x.f].length = 1 from rfl] at k1
      simp only [entE, fctE, List.cons_append, List.nil_append] at hd k1
      refine rn1 (jn @weSt.eq_1 (jn @hi @hn)) ?_
      refine HC_order [8] ty_ok mix [0, 1, 2, 3, 4, 5, 7, 10, 11, 12, 13, 14, 15, 6, 8, 9, 16, 17, 18, 19] (by kernel_rfl) rfl _ rfl ?_
      simp only [opl_nil', opl_cons', oplC_some, List.getElem?_toArray, List.getElem?_cons_zero, List.getElem?_cons_succ]
      refine rn1 (jn @hi (jn @hd @hle)) ?_
      (repeat (refine And.intro (by omega) ?_))
      refine HO_callX ty_ok [] k1 (trivial) rfl ?_
      rintro v r' ⟨⟨n1, rfl, ⟨p1, p2⟩, p3⟩, rfl⟩ _
      refine rn1 (jn @hi (jn @hd @hle)) ?_
      (repeat (refine And.intro (by omega) ?_))
      refine HO_callX ty_ok [] k2 (trivial) rfl ?_
      rintro v r' ⟨⟨n2, rfl, ⟨q1, q2⟩, q3⟩, rfl⟩ _
      refine rn1 (jn @hi (jn @hd @hle)) ?_
      (repeat (refine And.intro (by omega) ?_))
      refine ⟨(i + 1, n + (1 + n1 + n2)), ⟨by simp only; omega, by simp only; omega, by simp only; omega, ?_⟩, by simp only; omega, [], [], ?_⟩
      · intro hq y hy
        simp only at hq hy
        rw [htk, List.mem_append, List.mem_singleton] at hy
        rcases hy with hy | rfl
        · exact h5 (by omega) y hy
        · exact ⟨(p3 (by omega)).2 _ (by simp), (q3 (by omega)).1, (q3 (by omega)).2⟩
      · exact ft1 @weSt.eq_1
    · refine rn1 (jn @weSt.eq_1 (jn @hi @hn)) ?_
      exact ⟨n, rfl, ⟨by omega, h3⟩, fun h => absurd h hn⟩
  · have hi : ¬ (i : Int) < l.length := by omega
    refine rn1 (jn @weSt.eq_1 @hi) ?_
    rw [List.take_of_length_le (by omega)] at h5
    exact ⟨n, rfl, ⟨by omega, h3⟩, fun h => ⟨by omega, h5 h⟩⟩
end Go.Proofs.Ythdjblfiiogmgaa

set_option linter.unusedVariables false
set_option linter.unusedSimpArgs false
set_option maxRecDepth 100000
namespace Go.Proofs.Ythdjblfiiogmgaa
open Go Go.ChangeShapes Go.WideShapes
/-! Tables that facts were put into, in whatever order. -/
theorem chkE_z {f : Fct} (hc : chkE f = 0) : chkF f = true := by
  rcases Decidable.em (chkF f = true) with h | h
  · exact h
  · rw [chkE_no h] at hc; exact absurd hc (by decide)
theorem errB_0 {L : List Fct} {m : Int} {f : Fct} : errB L m f = 0 ↔ chkE f = 0 ∧ f ∉ L ∧ (L.length : Int) < m := by
  rw [errB]
  by_cases h1 : chkE f = 0
  · rw [if_neg (by simp [h1])]
    by_cases h2 : f ∈ L
    · rw [if_pos h2]; simp [h2]
    · rw [if_neg h2]
      by_cases h3 : m ≤ L.length
      · rw [if_pos h3]; constructor
        · intro h; omega
        · intro h; omega
      · rw [if_neg h3]; exact ⟨fun _ => ⟨h1, h2, by omega⟩, fun _ => rfl⟩
  · rw [if_pos h1]; simp [h1]
theorem okB.put {L : List Fct} (h : okB L) (m : Int) (f : Fct) (hl : L.length < 100000) : okB (insB L m f) := by
  rw [insB]
  by_cases h0 : errB L m f = 0
  · rw [if_pos h0]
    obtain ⟨h1, h2, h3⟩ := errB_0.1 h0
    have := chkF_w (chkE_z h1)
    exact h.ins (by omega) h2 hl
  · rw [if_neg h0]; exact h
end Go.Proofs.Ythdjblfiiogmgaa

set_option linter.unusedVariables false
set_option linter.unusedSimpArgs false
set_option maxRecDepth 100000
namespace Go.Proofs.Ythdjblfiiogmgaa
open Go Go.ChangeShapes Go.WideShapes
/-! gather over a table's All. -/
end Go.Proofs.Ythdjblfiiogmgaa

set_option linter.unusedVariables false
set_option linter.unusedSimpArgs false
set_option maxRecDepth 100000
namespace Go.Proofs.Ythdjblfiiogmgaa
open Go Go.ChangeShapes Go.WideShapes
/-! Rows of facts and of entries. -/
def fB (f : Fct) : Option Res := some (.obj [.d (.c (.string f.a)), .d (.c (.string f.b)), .d (.c (.string f.p)), .d (.sl 3 f.l.length (flatE cstE f.l))])
def xB (x : Ntr) : Option Res := some (.obj (enC x.f x.why x.rule (.d (.sl 4 x.body.length (flatE fctE x.body))) x.tg))
theorem flE_snoc (o : List Ntr) (x : Ntr) : flE (o ++ [x]) = flE o ++ entE x := by simp [flE, flatE]
theorem okE_z : okE zE := ⟨rfl, by simp [zE, zE.zF0], by simp [zE]⟩
theorem okE_getT {L : List Ntr} (h : okL L) (f : Fct) : okE (getT L f) := by
  rw [getT]
  split
  · rw [List.getD_eq_getElem?_getD]
    rcases Nat.lt_or_ge (plc L f).toNat L.length with h1 | h1
    · rw [List.getElem?_eq_getElem h1]; exact h.2 _ (List.getElem_mem h1)
    · rw [List.getElem?_eq_none h1]; exact okE_z
  · exact okE_z
end Go.Proofs.Ythdjblfiiogmgaa

set_option linter.unusedVariables false
set_option linter.unusedSimpArgs false
set_option maxRecDepth 100000
namespace Go.Proofs.Ythdjblfiiogmgaa
open Go Go.ChangeShapes Go.WideShapes
/-! The document's trail: Place, Enter. -/
theorem plc_first : ∀ {L : List Ntr} {f : Fct} {i : Nat} (h : i < L.length), (∀ j (hj : j < L.length), j < i → L[j].f ≠ f) → L[i].f = f → plc L f = i
  | [], _, i, h, _, _ => by simp at h
  | x :: l, f, 0, h, _, hf => by
    have hf' : x.f = f := hf
    rw [plc, if_pos hf']; rfl
  | x :: l, f, i + 1, h, hn, hf => by
    have h0 : x.f ≠ f := hn 0 (by simp) (by omega)
    have h1 : plc l f = i := plc_first (by simpa using h) (fun j hj hlt => hn (j + 1) (by simpa using hj) (by omega)) hf
    rw [plc, if_neg h0, h1, if_neg (by omega)]
    omega
theorem plc_nothing {L : List Ntr} {f : Fct} (h : ∀ j (hj : j < L.length), L[j].f ≠ f) : plc L f = -1 ∧ hasT L f = false := by
  have h2 : hasT L f = false := by
    cases hq : hasT L f with
    | false => rfl
    | true =>
      obtain ⟨k, hk, hf⟩ := hasT_iff.1 hq
      exact absurd hf (h k hk)
  exact ⟨plc_none h2, h2⟩
def rpSt (L : List Ntr) (f : Fct) (i : Nat) : List (Nat × AV) := [(0, .el [.sl 39 L.length (flE L)]), (3, .ptr 0 0), (5, .d (.c (.int .i64 i)))]
set_option maxHeartbeats 400000 in
theorem rplace_ac (L : List Ntr) (hL : okL L) (f : Fct) (hf : f.l.length ≤ 140737488352000) : AC Try.prog noG 38 [.el [.sl 39 L.length (flE L)], .d (.agg (fctE f))] [] (fun v r' => v = .d (.c (.int .i64 (plc L f))) ∧ r' = []) := by
  refine AC.fit ?_
  refine AC_of_R (N := 27) (res := [.tmp 4]) ty_ok Try.call38 Try.func38 rfl rfl rfl (Nat.le_of_ble_eq_true rfl) ?_
  have hl1 := hL.1
  have hle := flE_len hL
  refine rn1 @fctE.eq_1 ?_
  refine HC_loopR (fun i : Nat => rpSt L f i) (fun _ => [fB f]) (fun i => i ≤ L.length ∧ ∀ j (hj : j < L.length), j < i → L[j].f ≠ f) (fun i => L.length - i) 0 [0] [] ⟨by omega, by intro j hj h; omega⟩ ?_ ?_
  · exact ft1 (jn @rpSt.eq_1 @fB.eq_1)
  intro i ⟨hi1, hno⟩
  refine HC_of_R ty_ok ?_
  by_cases hlt : i < L.length
  · have hi : (i : Int) < L.length := by omega
    have hd := flE_drop hL i hlt
    have hx := hL.2 L[i] (List.getElem_mem hlt)
    have kg := rord_ac L[i].f f (Nat.le_trans hx.2.1 (by decide)) hf
    have hfirst := plc_first hlt hno
    have hmore : L[i].f ≠ f → ∀ j (hj : j < L.length), j < i + 1 → L[j].f ≠ f := by
      intro hne j hj hlt2
      rcases Nat.lt_or_ge j i with h | h
      · exact hno j hj h
      · have : j = i := by omega
        subst this; exact hne
    generalize L[i] = x at *
    simp only [entE, fctE, List.cons_append, List.nil_append] at hd kg
    refine rn1 (jn @rpSt.eq_1 (jn @fB.eq_1 @hi)) ?_
    refine HC_plan [] ty_ok mix (by kernel_rfl) ?_
    refine rn1 (jn @hi (jn @hd @hle)) ?_
    (repeat (refine And.intro (by omega) ?_))
    refine HO_pureA ty_ok kg ?_
    by_cases he : x.f = f
    · rw [ordC_zero.2 he, hfirst he]
      refine rn0 ?_
      exact fv0 [] []
    · have h0 : ¬ ordC x.f f = 0 := fun h => he (ordC_zero.1 h)
      refine rn1 @h0 ?_
      (repeat (refine And.intro (by omega) ?_))
      refine ⟨i + 1, ⟨by omega, hmore he⟩, by omega, [0], [], ?_⟩
      exact ft1 (jn @rpSt.eq_1 @fB.eq_1)
  · have hi : ¬ (i : Int) < L.length := by omega
    rw [(plc_nothing (fun j hj => hno j hj (by omega))).1]
    refine rn1 (jn @rpSt.eq_1 @hi) ?_
    exact fv0 [] []
end Go.Proofs.Ythdjblfiiogmgaa

set_option linter.unusedVariables false
set_option linter.unusedSimpArgs false
set_option maxRecDepth 100000
namespace Go.Proofs.Ythdjblfiiogmgaa
open Go Go.ChangeShapes Go.WideShapes
/-! The document's trail: Enter. -/
theorem plc_iff {L : List Ntr} {f : Fct} (h : hasT L f = true) : 0 ≤ plc L f := by
  induction L with
  | nil => cases h
  | cons x l ih =>
    rw [plc]
    by_cases he : x.f = f
    · rw [if_pos he]; omega
    · have h2 : hasT l f = true := by
        simp only [hasT, List.any_cons, Bool.or_eq_true, decide_eq_true_eq] at h ⊢
        exact h.resolve_left he
      have := ih h2
      rw [if_neg he, if_neg (by omega)]; omega
def nrm (x : Ntr) : Ntr := if x.why = 2 then x else ⟨x.f, x.why, 0, [], x.tg⟩
def rL (L : List Ntr) (x : Ntr) : List Ntr := if errT L x = 0 then L ++ [nrm x] else L
def tl (L : List Ntr) : Rs := [some (.obj [.sl (.own 1) 39 L.length (flE L)]), some (.tok (flE L).length)]
theorem tl_hand (L : List Ntr) (rc : Rs) (i j : Nat) (hi : rc[i]? = some (some (.obj [.sl (.own j) 39 L.length (flE L)]))) (hj : rc[j]? = some (some (.tok (flE L).length))) : HandOK (nm [i, j] rc.length) rc (tl L) [i, j] := by
  refine ⟨fun y h => ?_, fun y h => ?_, trivial⟩
  · injection h with h; subst h
    rw [hi]; rfl
  · injection h with h; subst h
    rw [hj]; rfl
theorem tl_wf (L : List Ntr) : wfRs (tl L).length (tl L) = true := rfl
def reSt (i : Nat) : List (Nat × AV) := [(0, .ptr 0 0), (3, .ptr 2 0), (5, .d (.c (.int .i64 i)))]
set_option maxHeartbeats 800000 in
theorem renter_ac (L : List Ntr) (hL : okL L) (hn : L.length ≤ 100000) (x : Ntr) (hx : okE x) : AC Try.prog noG 37 [.ptr 0 0, .d (.agg (entE x))] (tl L) (fun v r' => v = .d (.c (.int .i64 (errT L x))) ∧ r' = tl (rL L x)) := by
  refine AC.fit ?_
  refine AC_of_R (N := 53) (res := [.tmp 4]) ty_ok Try.call37 Try.func37 rfl rfl rfl (Nat.le_of_ble_eq_true rfl) ?_
  have hle := flE_len hL
  obtain ⟨t1, t2, t3, t4, t5, t6⟩ := tg32 x.tg hx.1
  have kc := rfchk_ac x.f (Nat.le_trans hx.2.1 (by decide))
  have kp := rplace_ac L hL x.f (Nat.le_trans hx.2.1 (by decide))
  have hno := plc_none (L := L) (f := x.f)
  have hye := plc_iff (L := L) (f := x.f)
  have hbl := hx.2.2.1
  have hbf := hx.2.2.2
  have ht := hx.1
  clear hx
  obtain ⟨f, w, r, b, tg⟩ := x
  simp only at t1 t2 t3 t4 t5 t6 kc kp hno hye hbl hbf ht
  simp only [fctE, List.cons_append, List.nil_append] at kc kp
  refine rn1 (jn @tl.eq_1 (jn @entE.eq_1 (jn @fctE.eq_1 (jn @t1 (jn @t2 (jn @t3 (jn @t4 (jn @t5 (jn @t6 @tA_allD))))))))) ?_
  refine HO_pureA ty_ok kc ?_
  by_cases h : chkE f = 0
  · by_cases hw : w = 2
    · subst hw
      by_cases hr : r < 0
      · have e : errT L ⟨f, 2, r, b, tg⟩ = 2 := by simp [errT, h, hr]
        have e2 : rL L ⟨f, 2, r, b, tg⟩ = L := by rw [rL, e]; rfl
        rw [e, e2]
        refine rn1 (jn @h (jn @hr (jn @t1 (jn @t2 (jn @t3 (jn @t4 (jn @t5 (jn @t6 @tA_allD)))))))) ?_
        exact fv1 [0,1] [] @tl.eq_1
      refine rn1 (jn @h (jn @hr (jn @t1 (jn @t2 (jn @t3 (jn @t4 (jn @t5 (jn @t6 @tA_allD)))))))) ?_
      refine HO_lend ty_ok (kp) (rfl) rfl rfl rfl (by kernel_rfl) ⟨BwA.ptr0 rfl rfl, BwA.val (.refl _) rfl, trivial⟩ ?_
      cases hq : hasT L f with
      | true =>
        have h0 := hye hq
        have e : errT L ⟨f, 2, r, b, tg⟩ = 151 := by simp [errT, h, hr, hq]
        have e2 : rL L ⟨f, 2, r, b, tg⟩ = L := by rw [rL, e]; rfl
        rw [e, e2]
        refine rn1 (jn @h0 (jn @t1 (jn @t2 (jn @t3 (jn @t4 (jn @t5 (jn @t6 @tA_allD))))))) ?_
        exact fv1 [0,1] [] @tl.eq_1
      | false =>
        rw [hno hq]
        refine rn1 (jn @t1 (jn @t2 (jn @t3 (jn @t4 (jn @t5 (jn @t6 @tA_allD)))))) ?_
        refine HC_loopR (fun i : Nat => reSt i) (fun _ => tl L ++ [xB ⟨f, 2, r, b, tg⟩]) (fun i => i ≤ b.length ∧ (b.take i).all (fun g => hasT L g) = true) (fun i => b.length - i) 0 [0, 1, 2] [] ⟨by omega, rfl⟩ ?_ ?_
        · exact ft1 (jn @reSt.eq_1 (jn @tl.eq_1 (jn @xB.eq_1 (jn @enC.eq_1 @tA_wf))))
        intro i ⟨hi1, hall⟩
        refine HC_of_R ty_ok ?_
        by_cases hlt : i < b.length
        · have hi : (i : Int) < b.length := by omega
          have hd := flatE_drop fctE_len b i hlt
          have hle2 := flatE_len fctE_len b
          have kg := rplace_ac L hL b[i] (Nat.le_trans (hbf _ (List.getElem_mem hlt)) (by decide))
          have hat := bd_take (p := fun f => hasT L f) hlt
          have hano := bd_not (p := fun f => hasT L f) hlt
          have hno2 := plc_none (L := L) (f := b[i])
          have hye2 := plc_iff (L := L) (f := b[i])
          rw [hall, Bool.true_and] at hat
          generalize b[i] = g at *
          simp only [fctE, List.cons_append, List.nil_append] at hd kg
          refine rn1 (jn @reSt.eq_1 (jn @tl.eq_1 (jn @xB.eq_1 (jn @enC.eq_1 (jn @hi (jn @hd (jn @hle2 (jn @t1 (jn @t2 (jn @t3 (jn @t4 (jn @t5 (jn @t6 @tA_allD))))))))))))) ?_
          (repeat (refine And.intro (by omega) ?_))
          refine HO_lend ty_ok (kg) (rfl) rfl rfl rfl (by kernel_rfl) ⟨BwA.ptr0 rfl rfl, BwA.val (.refl _) rfl, trivial⟩ ?_
          cases hg : hasT L g with
          | true =>
            have h0 : ¬ plc L g < 0 := by have := hye2 hg; omega
            refine rn1 (jn @h0 (jn @t1 (jn @t2 (jn @t3 (jn @t4 (jn @t5 (jn @t6 @tA_allD))))))) ?_
            (repeat (refine And.intro (by omega) ?_))
            refine ⟨i + 1, ⟨by omega, by rw [hat, hg]⟩, by omega, [0, 1, 2], [], ?_⟩
            exact ft1 (jn @reSt.eq_1 (jn @tl.eq_1 (jn @xB.eq_1 (jn @enC.eq_1 @tA_wf))))
          | false =>
            have ho : ordT L ⟨f, 2, r, b, tg⟩ = false := hano hg
            have e : errT L ⟨f, 2, r, b, tg⟩ = 200 := by simp [errT, h, hr, hq, ho]
            have e2 : rL L ⟨f, 2, r, b, tg⟩ = L := by rw [rL, e]; rfl
            rw [e, e2, hno2 hg]
            refine rn1 (jn @t1 (jn @t2 (jn @t3 (jn @t4 (jn @t5 (jn @t6 @tA_allD)))))) ?_
            exact fv1 [0,1] [] @tl.eq_1
        · have hi : ¬ (i : Int) < b.length := by omega
          have ho : ordT L ⟨f, 2, r, b, tg⟩ = true := by rw [ordT, ← hall, List.take_of_length_le (by omega)]
          have e : errT L ⟨f, 2, r, b, tg⟩ = 0 := by simp [errT, h, hr, hq, ho]
          have e2 : rL L ⟨f, 2, r, b, tg⟩ = L ++ [⟨f, 2, r, b, tg⟩] := by rw [rL, e]; rfl
          refine rn1 (jn @reSt.eq_1 (jn @tl.eq_1 (jn @xB.eq_1 (jn @enC.eq_1 (jn @hi (jn @t1 (jn @t2 (jn @t3 (jn @t4 (jn @t5 (jn @t6 @tA_allD))))))))))) ?_
          rw [e, e2]
          refine HC_fitR [(0, .ptr 0 0), (3, .ptr 2 0)] (tl L ++ [xB ⟨f, 2, r, b, tg⟩]) [0, 1, 2] [] ?_ ?_
          · exact ft1 (jn @tl.eq_1 (jn @xB.eq_1 (jn @enC.eq_1 (jn @tA_wf @flatE_nil))))
          refine HC_plan [] ty_ok mix (by kernel_rfl) ?_
          refine rn1 (jn @tl.eq_1 (jn @xB.eq_1 (jn @enC.eq_1 (jn @flatE_nil (jn @t1 (jn @t2 (jn @t3 (jn @t4 (jn @t5 (jn @t6 @tA_allD)))))))))) ?_
          (repeat (refine And.intro (by omega) ?_))
          have h39 : (flE (L ++ [⟨f, 2, r, b, tg⟩])).length = (flE L).length + 39 := by rw [flE_snoc, List.length_append, entE_len (x := ⟨f, 2, r, b, tg⟩) ht]
          simp only [tl, h39, List.length_append, List.length_singleton]
          simp only [flE_snoc, entE, fctE, List.cons_append, List.nil_append, flatE_nil, List.length_nil]
          exact fv0 [0,1] []
    · refine rn1 (jn @h (jn @hw (jn @t1 (jn @t2 (jn @t3 (jn @t4 (jn @t5 (jn @t6 @tA_allD)))))))) ?_
      refine HO_lend ty_ok (kp) (rfl) rfl rfl rfl (by kernel_rfl) ⟨BwA.ptr0 rfl rfl, BwA.val (.refl _) rfl, trivial⟩ ?_
      cases hq : hasT L f with
      | true =>
        have h0 := hye hq
        have e : errT L ⟨f, w, r, b, tg⟩ = 151 := by simp [errT, h, hw, hq]
        have e2 : rL L ⟨f, w, r, b, tg⟩ = L := by rw [rL, e]; rfl
        rw [e, e2]
        refine rn1 (jn @h0 (jn @hw (jn @t1 (jn @t2 (jn @t3 (jn @t4 (jn @t5 (jn @t6 @tA_allD)))))))) ?_
        exact fv1 [0,1] [] @tl.eq_1
      | false =>
        have e : errT L ⟨f, w, r, b, tg⟩ = 0 := by simp [errT, h, hw, hq]
        have e2 : rL L ⟨f, w, r, b, tg⟩ = L ++ [⟨f, w, 0, [], tg⟩] := by rw [rL, e, nrm, if_neg hw]; rfl
        rw [hno hq]
        refine rn1 (jn @hw (jn @t1 (jn @t2 (jn @t3 (jn @t4 (jn @t5 (jn @t6 @tA_allD))))))) ?_
        rw [e, e2]
        refine HC_fitR [(0, .ptr 0 0), (3, .ptr 2 0)] (tl L ++ [xB ⟨f, w, 0, [], tg⟩]) [0, 1, 2] [] ?_ ?_
        · exact ft1 (jn @tl.eq_1 (jn @xB.eq_1 (jn @enC.eq_1 (jn @tA_wf @flatE_nil))))
        refine HC_plan [] ty_ok mix (by kernel_rfl) ?_
        refine rn1 (jn @tl.eq_1 (jn @xB.eq_1 (jn @enC.eq_1 (jn @flatE_nil (jn @t1 (jn @t2 (jn @t3 (jn @t4 (jn @t5 (jn @t6 @tA_allD)))))))))) ?_
        (repeat (refine And.intro (by omega) ?_))
        have h39 : (flE (L ++ [⟨f, w, 0, [], tg⟩])).length = (flE L).length + 39 := by rw [flE_snoc, List.length_append, entE_len (x := ⟨f, w, 0, [], tg⟩) ht]
        simp only [tl, h39, List.length_append, List.length_singleton]
        simp only [flE_snoc, entE, fctE, List.cons_append, List.nil_append, flatE_nil, List.length_nil]
        exact fv0 [0,1] []
  · have h40 : chkE f = 40 := by
      by_cases hc : chkF f = true
      · exact absurd (chkE_ok hc) h
      · exact chkE_no hc
    have e : errT L ⟨f, w, r, b, tg⟩ = 40 := by simp [errT, h40]
    have e2 : rL L ⟨f, w, r, b, tg⟩ = L := by rw [rL, e]; rfl
    rw [e, e2]
    refine rn1 (jn @h @h40) ?_
    exact fv1 [0,1] [] @tl.eq_1
end Go.Proofs.Ythdjblfiiogmgaa
