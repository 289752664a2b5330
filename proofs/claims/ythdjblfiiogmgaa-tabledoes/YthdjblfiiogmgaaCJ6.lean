/- Parts of the proof: WtF, CWt, TbSet, TbGath, CRow, CRef, CRefE. -/
import Derived.Test.YthdjblfiiogmgaaCJ0
import Derived.Test.YthdjblfiiogmgaaCJ5
import Derived.Test.YthdjblfiiogmgaaCJ3
set_option linter.unusedVariables false
set_option linter.unusedSimpArgs false
set_option maxRecDepth 100000
namespace Go.Proofs.Ythdjblfiiogmgaa
open Go Go.ChangeShapes Go.WideShapes
/-- Sizes that a call's data have. -/
def szF (f : Fct) : Prop := f.a.size ≤ 140737488352000 ∧ f.b.size ≤ 140737488352000 ∧ f.p.size ≤ 140737488352000 ∧ f.l.length ≤ 140737488352000 ∧ ∀ c ∈ f.l, c.s.size ≤ 140737488352000
def wfSt1 (l : List Fct) (m : Int) (x : Nat × Int) : List (Nat × AV) := [(0, .d (.sl 4 l.length (flatE fctE l))), (1, .d (.c (.int .i64 m))), (5, .d (.c (.int .i64 x.2))), (6, .d (.c (.int .i64 x.1)))]
def wfSt2 (l : List Fct) (m : Int) (i : Nat) (x : Nat × Int) : List (Nat × AV) := [(0, .d (.sl 4 l.length (flatE fctE l))), (1, .d (.c (.int .i64 m))), (5, .d (.c (.int .i64 x.2))), (6, .d (.c (.int .i64 i))), (7, .d (.c (.int .i64 x.1)))]
end Go.Proofs.Ythdjblfiiogmgaa

set_option linter.unusedVariables false
set_option linter.unusedSimpArgs false
set_option maxRecDepth 100000
namespace Go.Proofs.Ythdjblfiiogmgaa
open Go Go.ChangeShapes Go.WideShapes
/-! The weight of entries. -/
set_option maxHeartbeats 1000000 in
theorem wF2_ac (l : List Fct) (m : Int) (hl : l.length ≤ 140737488352000) (hs : ∀ f ∈ l, szF f) (m0 : 0 ≤ m) (m1 : m ≤ 1000000) : AC Try.prog noG 12 [.d (.sl 4 l.length (flatE fctE l)), .d (.c (.int .i64 m))] []
    (fun v r' => (∃ n : Int, v = .d (.c (.int .i64 n)) ∧ (0 ≤ n ∧ n ≤ 1000000000000000) ∧ (n ≤ m → (l.length : Int) ≤ m ∧ ∀ f ∈ l, (f.l.length : Int) ≤ m)) ∧ r' = []) := by
  refine AC.pure ?_ (by rintro v ⟨n, rfl, _, _⟩; rfl)
  refine AC_of_R (N := 79) (res := [.tmp 4]) ty_ok Try.call12 Try.func12 rfl rfl rfl (Nat.le_of_ble_eq_true rfl) ?_
  refine rn0 ?_
  refine HC_loopR (wfSt1 l m) (fun _ => []) (fun x => x.1 ≤ l.length ∧ (x.1 : Int) ≤ x.2 ∧ x.2 ≤ 1000000000000000 ∧ ∀ f ∈ l.take x.1, (f.l.length : Int) ≤ x.2) (fun x => l.length - x.1) (0, 0) [] [] ⟨by simp, by simp, by simp, by simp⟩ ?_ ?_
  · exact ft1 @wfSt1.eq_1
  intro ⟨i, n⟩ ⟨h1, h2, h3, h5⟩
  simp only at h1 h2 h3 h5
  refine HC_of_R ty_ok ?_
  by_cases hlt : i < l.length
  · have hi : (i : Int) < l.length := by omega
    by_cases hn : n ≤ m
    · have hd := flatE_drop fctE_len l i hlt
      have hle := flatE_len fctE_len l
      have hsz := hs l[i] (List.getElem_mem hlt)
      have htk := List.take_succ_eq_append_getElem hlt
      generalize l[i] = f at *
      obtain ⟨z1, z2, z3, z4, z5⟩ := hsz
      simp only [fctE, List.cons_append, List.nil_append] at hd
      refine rn1 (jn @wfSt1.eq_1 (jn @hi @hn)) ?_
      refine HC_plan [] ty_ok mix (by kernel_rfl) ?_
      refine rn1 (jn @hd @hle) ?_
      (repeat (refine And.intro (by omega) ?_))
      obtain ⟨n0, hn0⟩ : ∃ n0 : Int, n0 = n + (1 + (f.l.length : Int) + ((f.a.size : Int) + f.b.size + f.p.size) / 16) := ⟨_, rfl⟩
      have hb0 : n + 1 ≤ n0 ∧ n0 ≤ 900000000000000 ∧ (f.l.length : Int) ≤ n0 := by omega
      have hnew : ∀ q : Int, n0 ≤ q → ∀ g ∈ l.take (i + 1), (g.l.length : Int) ≤ q := by
        intro q hq g hg
        rw [htk, List.mem_append, List.mem_singleton] at hg
        rcases hg with hg | rfl
        · have := h5 g hg; omega
        · omega
      refine HC_loopR (wfSt2 l m i) (fun _ => []) (fun x => x.1 ≤ f.l.length ∧ n0 ≤ x.2 ∧ x.2 ≤ 1000000000000000) (fun x => f.l.length - x.1) (0, n0) [] [] ⟨by simp, by simp, by simp only; omega⟩ ?_ ?_
      · rw [hn0]
        exact ft1 @wfSt2.eq_1
      intro ⟨k, q⟩ ⟨g1, g2, g3⟩
      simp only at g1 g2 g3
      refine HC_of_R ty_ok ?_
      by_cases hkl : k < f.l.length
      · have hk : (k : Int) < f.l.length := by omega
        by_cases hq : q ≤ m
        · have hd2 := flatE_drop cstE_len f.l k hkl
          have hle2 := flatE_len cstE_len f.l
          have hsz := z5 f.l[k] (List.getElem_mem hkl)
          generalize f.l[k] = c at *
          simp only [cstE, List.cons_append, List.nil_append] at hd2
          refine rn1 (jn @wfSt2.eq_1 (jn @hi (jn @hd (jn @hle (jn @hk (jn @hq (jn @hd2 @hle2))))))) ?_
          (repeat (refine And.intro (by omega) ?_))
          refine ⟨(k + 1, q + (c.s.size : Int) / 16), ⟨by simp only; omega, by simp only; omega, by simp only; omega⟩, by simp only; omega, [], [], ?_⟩
          exact ft1 @wfSt2.eq_1
        · refine rn1 (jn @wfSt2.eq_1 (jn @hi (jn @hd (jn @hle (jn @hk @hq))))) ?_
          (repeat (refine And.intro (by omega) ?_))
          refine ⟨(i + 1, q), ⟨by simp only; omega, by simp only; omega, by simp only; omega, hnew q (by omega)⟩, by simp only; omega, [], [], ?_⟩
          exact ft1 @wfSt1.eq_1
      · have hk : ¬ (k : Int) < f.l.length := by omega
        refine rn1 (jn @wfSt2.eq_1 (jn @hi (jn @hd (jn @hle @hk)))) ?_
        (repeat (refine And.intro (by omega) ?_))
        refine ⟨(i + 1, q), ⟨by simp only; omega, by simp only; omega, by simp only; omega, hnew q (by omega)⟩, by simp only; omega, [], [], ?_⟩
        exact ft1 @wfSt1.eq_1
    · refine rn1 (jn @wfSt1.eq_1 (jn @hi @hn)) ?_
      exact ⟨n, rfl, ⟨by omega, h3⟩, fun h => absurd h hn⟩
  · have hi : ¬ (i : Int) < l.length := by omega
    refine rn1 (jn @wfSt1.eq_1 @hi) ?_
    rw [List.take_of_length_le (by omega)] at h5
    exact ⟨n, rfl, ⟨by omega, h3⟩, fun h => ⟨by omega, fun g hg => by have := h5 g hg; omega⟩⟩
end Go.Proofs.Ythdjblfiiogmgaa

set_option linter.unusedVariables false
set_option linter.unusedSimpArgs false
set_option maxRecDepth 100000
namespace Go.Proofs.Ythdjblfiiogmgaa
open Go Go.ChangeShapes Go.WideShapes
/-! Tables that facts were put into, in whatever order. -/
theorem chkE_z {f : Fct} (hc : chkE f = 0) : chkF f = true := by
  rcases Decidable.em (chkF f = true) with h | h
  · exact h
  · rw [chkE_no h] at hc; exact absurd hc (by decide)
theorem errB_0 {L : List Fct} {m : Int} {f : Fct} : errB L m f = 0 ↔ chkE f = 0 ∧ f ∉ L ∧ (L.length : Int) < m := by
  rw [errB]
  by_cases h1 : chkE f = 0
  · rw [if_neg (by simp [h1])]
    by_cases h2 : f ∈ L
    · rw [if_pos h2]; simp [h2]
    · rw [if_neg h2]
      by_cases h3 : m ≤ L.length
      · rw [if_pos h3]; constructor
        · intro h; omega
        · intro h; omega
      · rw [if_neg h3]; exact ⟨fun _ => ⟨h1, h2, by omega⟩, fun _ => rfl⟩
  · rw [if_pos h1]; simp [h1]
theorem okB.put {L : List Fct} (h : okB L) (m : Int) (f : Fct) (hl : L.length < 100000) : okB (insB L m f) := by
  rw [insB]
  by_cases h0 : errB L m f = 0
  · rw [if_pos h0]
    obtain ⟨h1, h2, h3⟩ := errB_0.1 h0
    have := chkF_w (chkE_z h1)
    exact h.ins (by omega) h2 hl
  · rw [if_neg h0]; exact h
theorem insB_len (L : List Fct) (m : Int) (f : Fct) : (insB L m f).length ≤ L.length + 1 := by
  rw [insB]; split
  · rw [insFc_len]; omega
  · omega
end Go.Proofs.Ythdjblfiiogmgaa

set_option linter.unusedVariables false
set_option linter.unusedSimpArgs false
set_option maxRecDepth 100000
namespace Go.Proofs.Ythdjblfiiogmgaa
open Go Go.ChangeShapes Go.WideShapes
/-! gather over a table's All. -/
def bA (L : List Fct) (m : Int) : Rs := tbl L m ++ [some (.obj [.ptr 0 0]), some (.obj [.fn (.func 59) [] []])]
theorem someT_ac (L : List Fct) (m : Int) : AC Try.prog noG 58 [.ptr 0 0, .fn (.func 59) [] []] (tbl L m) (fun v r' => v = .fn (.func 85) [] [.ptr 1 0, .ptr 2 0] ∧ r' = bA L m) := by
  refine AC.fit ?_
  refine AC_of_R (N := 6) (res := [.tmp 4]) ty_ok Try.call58 Try.func58 rfl rfl rfl (Nat.le_of_ble_eq_true rfl) ?_
  refine rn1 (jn @tbl.eq_1 @tblC.eq_1) ?_
  exact fv1 [0,1,2] [] (jn @bA.eq_1 (jn @tbl.eq_1 @tblC.eq_1))
theorem allT_ac (L : List Fct) (m : Int) : AC Try.prog noG 17 [.ptr 0 0] (tbl L m) (fun v r' => v = .fn (.func 85) [] [.ptr 1 0, .ptr 2 0] ∧ r' = bA L m) := by
  refine AC.fit ?_
  refine AC_of_R (N := 5) (res := [.tmp 2]) ty_ok Try.call17 Try.func17 rfl rfl rfl (Nat.le_of_ble_eq_true rfl) ?_
  have k := someT_ac L m
  refine rn1 (jn @tbl.eq_1 @tblC.eq_1) ?_
  refine HO_callX ty_ok [0] k (tbl_hand _ _ _ _ rfl) (tbl_wf _ _) ?_
  rintro v r' ⟨rfl, rfl⟩ _
  refine rn1 (jn @bA.eq_1 (jn @tbl.eq_1 @tblC.eq_1)) ?_
  exact fv1 [0,1,2] [] (jn @bA.eq_1 (jn @tbl.eq_1 @tblC.eq_1))
theorem all1T_ac (f : Fct) : AC Try.prog noG 59 [.d (.agg (fctE f))] [] (fun v r' => v = .d (.c (.bool true)) ∧ r' = []) := by
  refine AC.fit ?_
  refine AC_of_R (N := 3) (res := [.tmp 2]) ty_ok Try.call59 Try.func59 rfl rfl rfl (Nat.le_of_ble_eq_true rfl) ?_
  refine rn1 @fctE.eq_1 ?_
  exact fv0 [] []
/-- The rows while the range goes on: what has come is gathered. -/
def gR (L : List Fct) (m : Int) (q : Int) (xs : List Fct) : Rs := bA L m ++ [some (.obj [.d (.c (.int .i64 q))]), some (.obj [.sl (.own 5) 4 xs.length (flatE fctE xs)]), some (.tok (4 * xs.length))]
def gSt : List (Nat × AV) := [(3, .ptr 3 0), (5, .ptr 4 0), (10, .fn (.func 85) [] [.ptr 1 0, .ptr 2 0])]
def soS (L : List Fct) (l : Nat) (Lp : Loop) (sl : List AV) (i : Nat) : List (Nat × AV) := [(0, .yv l Lp sl), (1, .ptr 1 0), (2, .ptr 2 0), (11, .d (.sl 4 L.length (flatE fctE L))), (12, .d (.c (.int .i64 L.length))), (13, .d (.c (.int .i64 i)))]
set_option maxHeartbeats 800000 in
theorem some1T_ac (L : List Fct) (hL : okB L) (m : Int) (hm : m ≠ 0) (q : Int) (l : Nat) (Lp : Loop)
    (hY : ∀ xs f, xs.length < L.length → AY Try.prog noG l Lp (slotsOf 21 gSt) (.d (.agg (fctE f))) (gR L m q xs ++ [some (.ob l (.loop Lp))]) (fun v r' => ∃ s, s = gR L m q (xs ++ [f]) ∧ v = .d (.c (.bool true)) ∧ r' = s ++ [some (.ob l (.loop Lp))])) :
    AC Try.prog noG 85 [.yv l Lp (slotsOf 21 gSt), .ptr 1 0, .ptr 2 0] (gR L m q [] ++ [some (.ob l (.loop Lp))]) (fun v r' => v = .tup [] ∧ r' = gR L m q L ++ [some (.ob l (.loop Lp))]) := by
  refine AC.fit ?_
  refine AC_of_R (N := 30) (res := []) ty_ok Try.call85 Try.func85 rfl rfl rfl (Nat.le_of_ble_eq_true rfl) ?_
  have k := bnone_ac L m hm
  have hl := hL.len
  refine rn1 (jn @gR.eq_1 (jn @bA.eq_1 (jn @tbl.eq_1 @tblC.eq_1))) ?_
  refine HO_callX ty_ok [0] k (tbl_hand _ _ _ _ rfl) (tbl_wf _ _) ?_
  rintro v r' ⟨rfl, rfl⟩ _
  refine rn1 (jn @tbl.eq_1 @tblC.eq_1) ?_
  refine HC_loopR (fun i : Nat => soS L l Lp (slotsOf 21 gSt) i) (fun i => gR L m q (L.take i) ++ [some (.ob l (.loop Lp))]) (fun i => i ≤ L.length) (fun i => L.length - i) 0 [0, 1, 2, 3, 4, 5, 6] [] (Nat.zero_le _) ?_ ?_
  · exact ft1 (jn @soS.eq_1 (jn @gR.eq_1 (jn @bA.eq_1 (jn @tbl.eq_1 (jn @tblC.eq_1 @List.take_zero.{0})))))
  intro i hi1
  refine HC_of_R ty_ok ?_
  by_cases hlt : i < L.length
  · have hi : (i : Int) < L.length := by omega
    have hd := flatE_drop fctE_len L i hlt
    have hle := flatE_len fctE_len L
    have hgl := hL.ok _ (List.getElem_mem hlt)
    have hy := hY (L.take i) L[i] (by simp only [List.length_take]; omega)
    rw [← List.take_succ_eq_append_getElem hlt] at hy
    generalize L[i] = g at *
    have ka := all1T_ac g
    have kk := cloneC_d g.l.length (flatE cstE g.l) (by rw [flatE_len cstE_len]; omega) hgl
    simp only [fctE, List.cons_append, List.nil_append] at hd ka hy
    refine rn1 (jn @soS.eq_1 (jn @gR.eq_1 (jn @bA.eq_1 (jn @tbl.eq_1 (jn @tblC.eq_1 (jn @hi (jn @hd @hle))))))) ?_
    (repeat (refine And.intro (by omega) ?_))
    refine HO_pureA ty_ok ka ?_
    refine rn0 ?_
    refine HO_pureA ty_ok kk ?_
    refine rn0 ?_
    refine HO_yield ty_ok [0, 1, 2, 3, 4, 5, 6] hy rfl rfl rfl rfl (by kernel_rfl) (by decide) ⟨(by simp), (by repeat' (first | exact trivial | exact WeakA.refl _ | exact WeakA.toD rfl | refine ⟨?_, ?_⟩)), rfl, (by repeat' (first | exact trivial | (intro y h; injection h with h; subst h; rfl) | (intro y h; cases h; done) | refine ⟨?_, ?_⟩)), rfl⟩ ?_
    rintro v r' ⟨s, rfl, rfl, rfl⟩ _
    refine rn1 (jn @gR.eq_1 (jn @bA.eq_1 (jn @tbl.eq_1 @tblC.eq_1))) ?_
    refine ⟨i + 1, (by omega), by omega, [0, 1, 2, 3, 4, 5, 6], [], ?_⟩
    exact ft1 (jn @soS.eq_1 (jn @gR.eq_1 (jn @bA.eq_1 (jn @tbl.eq_1 @tblC.eq_1))))
  · have hi : ¬ (i : Int) < L.length := by omega
    have hiL : i = L.length := by omega
    subst hiL
    rw [List.take_length]
    refine rn1 (jn @soS.eq_1 (jn @gR.eq_1 (jn @bA.eq_1 (jn @tbl.eq_1 (jn @tblC.eq_1 @hi))))) ?_
    exact fv1 [0,1,2,3,4,5,6] [] (jn @gR.eq_1 (jn @bA.eq_1 (jn @tbl.eq_1 @tblC.eq_1)))
set_option maxHeartbeats 800000 in
theorem gathT_ac (L : List Fct) (hL : okB L) (m : Int) (hm : m ≠ 0) : AC Try.prog noG 16 [.fn (.func 85) [] [.ptr 1 0, .ptr 2 0], .d (.c (.int .i64 (-1)))] (bA L m) (fun v r' => v = .d (.sl 4 L.length (flatE fctE L)) ∧ r' = bA L m) := by
  refine AC.fit ?_
  refine ACM_of_R (N := 21) (res := [.tmp 4]) ty_ok Try.call16 Try.func16 rfl rfl rfl (Nat.le_of_ble_eq_true rfl) ?_
  intro n0
  refine rn1 (jn @bA.eq_1 (jn @tbl.eq_1 @tblC.eq_1)) ?_
  refine R_range (HC_fitR gSt (gR L m (-1) []) [0, 1, 2, 3, 4] [0] ?_ (HC_range (p := 11) (m := 6) (fun s => s = gR L m (-1) L) (fun l Lp => [.yv l Lp (slotsOf 21 gSt), .ptr 1 0, .ptr 2 0]) rfl rfl rfl rfl rfl (fun l Lp => ⟨.refl _, .refl _, .refl _, trivial⟩) ?_ ?_ rfl ?_))
  · exact ft1 (jn @gSt.eq_1 (jn @gR.eq_1 (jn @bA.eq_1 (jn @tbl.eq_1 @tblC.eq_1))))
  · intro l Lp h1 h2 h3 h4 h5
    refine AC.at ?_
    refine (some1T_ac L hL m hm (-1) l Lp fun xs f hx => ?_).mono fun v r' ⟨_, h⟩ => ⟨_, rfl, h⟩
    refine AY_of_body (ti := ty) (p := 11) (m := 6) (re := gR L m (-1) xs) (q := fun s => s = gR L m (-1) (xs ++ [f])) rfl rfl rfl h1 h2 h3 h4 h5 (by decide) (by decide) (fun s h => by rw [h]; rfl) ?_
    refine HC_of_R ty_ok ?_
    have hxl := flatE_len fctE_len xs
    have e2 : flatE fctE (xs ++ [f]) = flatE fctE xs ++ [.c (.string f.a), .c (.string f.b), .c (.string f.p), .sl 3 f.l.length (flatE cstE f.l)] := by rw [flatE_app]; simp [flatE, fctE]
    have e3 : (xs ++ [f]).length = xs.length + 1 := by simp
    have hll := hL.len
    refine rn1 (jn @gSt.eq_1 (jn @gR.eq_1 (jn @bA.eq_1 (jn @tbl.eq_1 (jn @tblC.eq_1 @fctE.eq_1))))) ?_
    refine ⟨rfl, HC_of_R ty_ok ?_⟩
    refine rn1 @hxl ?_
    (repeat (refine And.intro (by omega) ?_))
    refine ⟨_, [0, 1, 2, 3, 4, 5, 6], [], rfl, ?_⟩
    exact ft1 (jn @gR.eq_1 (jn @bA.eq_1 (jn @tbl.eq_1 (jn @tblC.eq_1 (jn @e2 (jn @e3 @hxl))))))
  · rintro s rfl
    exact ⟨rfl, rfl⟩
  · rintro s rfl
    refine rn1 (jn @gSt.eq_1 (jn @gR.eq_1 (jn @bA.eq_1 (jn @tbl.eq_1 @tblC.eq_1)))) ?_
    exact fv1 [0,1,2] [] (jn @bA.eq_1 (jn @tbl.eq_1 @tblC.eq_1))
end Go.Proofs.Ythdjblfiiogmgaa

set_option linter.unusedVariables false
set_option linter.unusedSimpArgs false
set_option maxRecDepth 100000
namespace Go.Proofs.Ythdjblfiiogmgaa
open Go Go.ChangeShapes Go.WideShapes
/-! Rows of facts and of entries. -/
end Go.Proofs.Ythdjblfiiogmgaa

set_option linter.unusedVariables false
set_option linter.unusedSimpArgs false
set_option maxRecDepth 100000
namespace Go.Proofs.Ythdjblfiiogmgaa
open Go Go.ChangeShapes Go.WideShapes
/-! The document's trail: Place, Enter. -/
end Go.Proofs.Ythdjblfiiogmgaa

set_option linter.unusedVariables false
set_option linter.unusedSimpArgs false
set_option maxRecDepth 100000
namespace Go.Proofs.Ythdjblfiiogmgaa
open Go Go.ChangeShapes Go.WideShapes
/-! The document's trail: Enter. -/
end Go.Proofs.Ythdjblfiiogmgaa
