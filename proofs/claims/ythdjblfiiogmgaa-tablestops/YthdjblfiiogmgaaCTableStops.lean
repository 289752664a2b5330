import Derived.Test.YthdjblfiiogmgaaCJ8
import Derived.Test.YthdjblfiiogmgaaCJ5
import Derived.Test.YthdjblfiiogmgaaCJ6
import Derived.Test.YthdjblfiiogmgaaCJ9
set_option linter.unusedVariables false
set_option linter.unusedSimpArgs false
set_option maxRecDepth 100000
namespace Go.Proofs.Ythdjblfiiogmgaa
open Go Go.ChangeShapes Go.WideShapes
/-! TableStops. -/
theorem begin_ac (L : List Fct) (q : Int) : AC Try.prog noG 20 [.d (.sl 4 L.length (flatE fctE L)), .d (.c (.int .i64 q))] [] (fun v r' => v = .d (.sl 4 (begT q L).length (flatE fctE (begT q L))) ∧ r' = []) := by
  refine AC.fit ?_
  refine AC_of_R (N := 17) (res := [.tmp 4]) ty_ok Try.call20 Try.func20 rfl rfl rfl (Nat.le_of_ble_eq_true rfl) ?_
  by_cases h0 : q < 0
  · have e : begT q L = L := by rw [begT, if_pos h0]
    rw [e]
    refine rn1 @h0 ?_
    exact fv0 [] []
  · by_cases h1 : q > L.length
    · have e : begT q L = L := begT_all (fun _ => by omega)
      rw [e]
      refine rn1 (jn @h0 @h1) ?_
      exact fv0 [] []
    · have e : begT q L = L.take q.toNat := by rw [begT, if_neg h0]
      have hlen : (L.take q.toNat).length = q.toNat := by rw [List.length_take]; omega
      have hfl : flatE fctE (L.take q.toNat) = (flatE fctE L).take (q.toNat * 4) := by
        have h2 := flatE_len fctE_len (L.take q.toNat)
        have h3 := flatE_app fctE (L.take q.toNat) (L.drop q.toNat)
        rw [List.take_append_drop] at h3
        rw [h3, show q.toNat * 4 = (flatE fctE (L.take q.toNat)).length by omega, List.take_left]
      rw [e, hlen, hfl]
      refine rn1 (jn @h0 @h1) ?_
      (repeat (refine And.intro (by omega) ?_))
      exact fv0 [] []
def stM (f : Fct) (L V : List Fct) : List Fct := V.foldl (fun M g => insB (tkB M g) 4096 f) L
theorem stM_ok (f : Fct) : ∀ (V L : List Fct), okB L → L.length + V.length ≤ 90000 → okB (stM f L V) ∧ (stM f L V).length ≤ L.length + V.length
  | [], L, h, hl => ⟨h, Nat.le_refl _⟩
  | g :: V, L, h, hl => by
    rw [List.length_cons] at hl
    have h1 := tkB_ok h g
    have h2 := tkB_le h g
    have h3 := insB_len (tkB L g) 4096 f
    have h4 := stM_ok f V (insB (tkB L g) 4096 f) (h1.put 4096 f (by omega)) (by omega)
    refine ⟨h4.1, ?_⟩
    have h5 := h4.2
    show (stM f (insB (tkB L g) 4096 f) V).length ≤ _
    rw [List.length_cons]; omega
theorem stM_snoc (f : Fct) (L V : List Fct) (g : Fct) : stM f L (V ++ [g]) = insB (tkB (stM f L V) g) 4096 f := by rw [stM, List.foldl_append]; rfl
def fRow (f : Fct) : Option Res := some (.obj ((fctE f).map .d))
def tsS (l : List Fct) (q : Int) (i : Nat) : List (Nat × AV) := [(0, .d (.sl 4 l.length (flatE fctE l))), (1, .d (.c (.int .i64 q))), (5, .ptr 0 0), (7, .ptr 2 0), (9, .d (.c (.int .i64 i)))]
def tsR (f : Fct) (M : List Fct) : Rs := [fRow f, some (.obj (tblC M 4096)), some (.obj [.ptr 1 0])]
def stS (L : List Fct) : List (Nat × AV) := [(5, .ptr 0 0), (7, .ptr 2 0), (10, .d (.sl 4 L.length (flatE fctE L))), (11, .ptr 7 0), (52, .fn (.func 85) [] [.ptr 8 0, .ptr 9 0])]
def stR (f : Fct) (M xs : List Fct) (X : Option Res) : Rs := [fRow f, some (.obj (tblC M 4096)), some (.obj [.ptr 1 0]), none, none, none, none, some (.obj [.sl (.own 10) 4 xs.length (flatE fctE xs)]), some (.obj [.ptr 1 0]), some (.obj [.fn (.func 59) [] []]), some (.tok (4 * xs.length)), X]
def stIt (L : List Fct) (l : Nat) (Lp : Loop) (i : Nat) : List (Nat × AV) := [(0, .yv l Lp (slotsOf 74 (stS L))), (1, .ptr 8 0), (2, .ptr 9 0), (11, .d (.sl 4 L.length (flatE fctE L))), (12, .d (.c (.int .i64 L.length))), (13, .d (.c (.int .i64 i)))]
/-- What a round does: the fact is copied to what was seen, taken, f put. -/
def rdS (f : Fct) (M xs : List Fct) (g : Fct) : Rs := stR f (insB (tkB M g) 4096 f) (xs ++ [g]) none
theorem stR_wf (f : Fct) (M xs : List Fct) (g : Fct) (zs : List D) (l : Nat) (Lp : Loop) : wfRs 13 (stR f M xs (argR g zs) ++ [some (.ob l (.loop Lp))]) = true := by
  simp only [stR, argR, fRow, tblC, List.cons_append, List.nil_append, wfRs, wfL_map_d, Bool.and_true]; rfl
set_option maxHeartbeats 1000000 in
theorem some1S_ac (L : List Fct) (hL : okB L) (hl9 : L.length ≤ 40000) (f : Fct) (l : Nat) (Lp : Loop)
    (hY0 : ∀ M xs g, okB M → M.length ≤ 80000 → xs.length < L.length → g.l.length ≤ 1000000 → g.l = [] → AY Try.prog noG l Lp (slotsOf 74 (stS L)) (.d (.agg (fctE g))) (stR f M xs none ++ [some (.ob l (.loop Lp))]) (fun v r' => ∃ s, s = rdS f M xs g ∧ v = .d (.c (.bool true)) ∧ r' = s ++ [some (.ob l (.loop Lp))]))
    (hY1 : ∀ M xs g zs, okB M → M.length ≤ 80000 → xs.length < L.length → g.l.length ≤ 1000000 → 0 < g.l.length → AY Try.prog noG l Lp (slotsOf 74 (stS L)) (.agg (fctO g 11)) (stR f M xs (argR g zs) ++ [some (.ob l (.loop Lp))]) (fun v r' => ∃ s, s = rdS f M xs g ∧ v = .d (.c (.bool true)) ∧ r' = s ++ [some (.ob l (.loop Lp))])) :
    AC Try.prog noG 85 [.yv l Lp (slotsOf 74 (stS L)), .ptr 8 0, .ptr 9 0] (stR f L [] none ++ [some (.ob l (.loop Lp))]) (fun v r' => v = .tup [] ∧ r' = stR f (stM f L L) L none ++ [some (.ob l (.loop Lp))]) := by
  refine AC.fit ?_
  refine AC_of_R (N := 30) (res := []) ty_ok Try.call85 Try.func85 rfl rfl rfl (Nat.le_of_ble_eq_true rfl) ?_
  have k := bnone_ac L 4096 (by decide)
  have hl := hL.len
  refine rn1 (jn @stR.eq_1 (jn @fRow.eq_1 (jn @fctE.eq_1 @tblC.eq_1))) ?_
  refine HO_callX ty_ok [1] k (tbl_hand _ _ _ _ rfl) (tbl_wf _ _) ?_
  rintro v r' ⟨rfl, rfl⟩ _
  refine rn1 (jn @tbl.eq_1 @tblC.eq_1) ?_
  refine HC_loopR (fun i : Nat => stIt L l Lp i) (fun i => stR f (stM f L (L.take i)) (L.take i) none ++ [some (.ob l (.loop Lp))]) (fun i => i ≤ L.length) (fun i => L.length - i) 0 [0, 1, 2, 3, 4, 5, 6, 7, 8, 9, 10, 11, 12] [] (Nat.zero_le _) ?_ ?_
  · have e1 : stM f L (L.take 0) = L := rfl
    exact ft1 (jn @stIt.eq_1 (jn @stR.eq_1 (jn @fRow.eq_1 (jn @fctE.eq_1 (jn @tblC.eq_1 (jn @e1 @List.take_zero.{0}))))))
  intro i hi1
  refine HC_of_R ty_ok ?_
  by_cases hlt : i < L.length
  · have hi : (i : Int) < L.length := by omega
    have hd := flatE_drop fctE_len L i hlt
    have hle := flatE_len fctE_len L
    have hgl := hL.ok _ (List.getElem_mem hlt)
    have hti : (L.take i).length = i := by rw [List.length_take]; omega
    have hM := stM_ok f (L.take i) L hL (by omega)
    have hst : L.take (i + 1) = L.take i ++ [L[i]] := List.take_succ_eq_append_getElem hlt
    have hM2 := stM_snoc f L (L.take i) L[i]
    rw [← hst] at hM2
    obtain ⟨hM0, hMl⟩ := hM
    generalize L[i] = g at *
    have ka := all1T_ac g
    have e4 : rdS f (stM f L (L.take i)) (L.take i) g = stR f (stM f L (L.take (i + 1))) (L.take (i + 1)) none := by rw [rdS, hM2, hst]
    generalize stM f L (L.take i) = M at *
    by_cases h0 : g.l = []
    · have hy := hY0 M (L.take i) g hM0 (by omega) (by omega) hgl h0
      have kk := cloneC_d g.l.length (flatE cstE g.l) (by rw [flatE_len cstE_len]; omega) hgl
      rw [e4] at hy
      simp only [fctE, List.cons_append, List.nil_append] at hd ka hy
      refine rn1 (jn @stIt.eq_1 (jn @stR.eq_1 (jn @fRow.eq_1 (jn @fctE.eq_1 (jn @tblC.eq_1 (jn @hi (jn @hd @hle))))))) ?_
      (repeat (refine And.intro (by omega) ?_))
      refine HO_pureA ty_ok ka ?_
      refine rn0 ?_
      refine HO_pureA ty_ok kk ?_
      refine rn0 ?_
      refine HO_yield ty_ok [0,1,2,3,4,5,6,7,8,9,10,11,12] hy rfl rfl rfl rfl (by kernel_rfl) (by decide) ⟨(by simp), (by repeat' (first | exact trivial | exact WeakA.refl _ | exact WeakA.toD rfl | refine ⟨?_, ?_⟩)), rfl, (by repeat' (first | exact trivial | (intro y h; injection h with h; subst h; rfl) | (intro y h; cases h; done) | refine ⟨?_, ?_⟩)), rfl⟩ ?_
      rintro v r' ⟨s, rfl, rfl, rfl⟩ _
      refine rn1 (jn @stR.eq_1 (jn @fRow.eq_1 (jn @fctE.eq_1 @tblC.eq_1))) ?_
      refine ⟨i + 1, (by omega), by omega, [0, 1, 2, 3, 4, 5, 6, 7, 8, 9, 10, 11, 12], [], ?_⟩
      exact ft1 (jn @stIt.eq_1 (jn @stR.eq_1 (jn @fRow.eq_1 (jn @fctE.eq_1 @tblC.eq_1))))
    · have h0' : 0 < g.l.length := List.length_pos_iff.2 h0
      have kk := cslO_osl (cloneC_ac g.l.length (flatE cstE g.l) (by rw [flatE_len cstE_len]; omega) h0' hgl)
      simp only [fctE, List.cons_append, List.nil_append] at hd ka
      refine rn1 (jn @stIt.eq_1 (jn @stR.eq_1 (jn @fRow.eq_1 (jn @fctE.eq_1 (jn @tblC.eq_1 (jn @hi (jn @hd @hle))))))) ?_
      (repeat (refine And.intro (by omega) ?_))
      refine HO_pureA ty_ok ka ?_
      refine rn0 ?_
      refine HO_callX ty_ok [] kk (trivial) rfl ?_
      rintro v r' ⟨zs, rfl, rfl⟩ _
      have hy := hY1 M (L.take i) g zs hM0 (by omega) (by omega) hgl h0'
      rw [e4] at hy
      refine rn1 @renL_map_d ?_
      refine HO_yield ty_ok [0, 1, 2, 3, 4, 5, 6, 7, 8, 9, 10, 14, 12] hy rfl rfl rfl rfl (by kernel_rfl) (by decide) ⟨(by simp), (by repeat' (first | exact trivial | exact WeakA.refl _ | exact WeakA.toD rfl | refine ⟨?_, ?_⟩)), rfl, (by repeat' (first | exact trivial | (intro y h; injection h with h; subst h; rfl) | (intro y h; injection h with h; subst h; show some (some (Res.obj (List.map AV.d _))) = some (some (Res.obj (renL _ _))); rw [renL_map_d]) | (intro y h; cases h; done) | refine ⟨?_, ?_⟩)), stR_wf _ _ _ _ _ _ _⟩ ?_
      rintro v r' ⟨s, rfl, rfl, rfl⟩ _
      refine rn1 (jn @stR.eq_1 (jn @fRow.eq_1 (jn @fctE.eq_1 @tblC.eq_1))) ?_
      refine ⟨i + 1, (by omega), by omega, [0, 1, 2, 3, 4, 5, 6, 7, 8, 9, 10, 11, 12], [], ?_⟩
      exact ft1 (jn @stIt.eq_1 (jn @stR.eq_1 (jn @fRow.eq_1 (jn @fctE.eq_1 @tblC.eq_1))))
  · have hi : ¬ (i : Int) < L.length := by omega
    have hiL : i = L.length := by omega
    subst hiL
    rw [List.take_length]
    refine rn1 (jn @stIt.eq_1 (jn @stR.eq_1 (jn @fRow.eq_1 (jn @fctE.eq_1 (jn @tblC.eq_1 @hi))))) ?_
    exact fv1 [0,1,2,3,4,5,6,7,8,9,10,11,12] [] (jn @stR.eq_1 (jn @fRow.eq_1 (jn @fctE.eq_1 @tblC.eq_1)))
def sbS (L : List Fct) : List (Nat × AV) := [(5, .ptr 0 0), (7, .ptr 2 0), (10, .d (.sl 4 L.length (flatE fctE L))), (11, .ptr 7 0), (13, .ptr 13 0)]
def bz (l : Nat) (Lp : Loop) : Option Res := some (.ob l (.loop { Lp with state := .busy }))
theorem fo_hand (f : Fct) (zs : List D) (rc : Rs) (i j : Nat) (hi : rc[i]? = some (some (.obj (fctO f j)))) (hj : rc[j]? = some (argR f zs)) : HandOK (nm [i, j] rc.length) rc [some (.obj (fctO f 1)), argR f zs] [i, j] := by
  refine ⟨fun y h => ?_, fun y h => ?_, trivial⟩
  · injection h with h; subst h
    rw [hi]; rfl
  · injection h with h; subst h
    rw [hj]
    show some (argR f zs) = some (some (Res.obj (renL _ _)))
    rw [renL_map_d]; rfl
theorem fo_wf (f : Fct) (zs : List D) : wfRs 2 [some (.obj (fctO f 1)), argR f zs] = true := by
  simp only [argR, wfRs, wfL_map_d, Bool.and_true]; rfl
set_option maxHeartbeats 2000000 in
theorem tableStops_ac (l : List Fct) (q : Int) (f : Fct) (hl : l.length ≤ 140737488352000) (hs : ∀ f ∈ l, szF f) (hf : f.l.length ≤ 140737488352000) : AC Try.prog noG 4 [.d (.sl 4 l.length (flatE fctE l)), .d (.c (.int .i64 q)), .d (.agg (fctE f))] [] (fun v r' => v = .d (.c (.bool true)) ∧ r' = []) := by
  refine AC.pure ?_ (by rintro v rfl; rfl)
  refine ACM_of_R (N := 74) (res := [.tmp 6]) ty_ok Try.call4 Try.func4 rfl rfl rfl (Nat.le_of_ble_eq_true rfl) ?_
  intro n0
  have kw := wF2_ac l 300 hl hs (by decide) (by decide)
  refine rn1 @fctE.eq_1 ?_
  refine HO_callX ty_ok [] (AC.at (n := n0) kw) (trivial) rfl ?_
  rintro v r' ⟨⟨n, rfl, _, hn⟩, rfl⟩ _
  by_cases hg : n > 300
  · refine rn1 @hg ?_
    refine HO_pureA ty_ok (AC.at (n := n0) blive_ac) ?_
    exact rz0
  have hn := hn (by omega)
  have hl3 : l.length ≤ 300 := by omega
  have k0 := AC.at (n := n0) (bnew_ac 4096 (by decide) (by decide))
  refine rn1 @hg ?_
  refine HO_callX ty_ok [] k0 (trivial) rfl ?_
  rintro v r' ⟨rfl, rfl⟩ _
  refine rn1 (jn @tbl.eq_1 (jn @tblC.eq_1 @flatE_nil)) ?_
  refine HC_loopR (fun i : Nat => tsS l q i) (fun i => tsR f (putB 4096 [] (l.take i))) (fun i => i ≤ l.length) (fun i => l.length - i) 0 [0, 1, 2] [] (Nat.zero_le _) ?_ ?_
  · have e1 : putB 4096 [] (l.take 0) = [] := rfl
    exact ft1 (jn @tsS.eq_1 (jn @tsR.eq_1 (jn @fRow.eq_1 (jn @fctE.eq_1 (jn @tblC.eq_1 (jn @e1 @flatE_nil))))))
  intro i hi1
  refine HC_of_R ty_ok ?_
  by_cases hlt : i < l.length
  · have hi : (i : Int) < l.length := by omega
    have hdi := flatE_drop fctE_len l i hlt
    have hle := flatE_len fctE_len l
    have hok1 := okB.puts 4096 (l.take i) [] okB0 (by rw [List.length_take]; simp only [List.length_nil]; omega)
    have k1 := bput_ac _ 4096 (by decide) hok1 l[i] (hs _ (List.getElem_mem hlt)).2.2.2.1
    rw [← putB_snoc, ← List.take_succ_eq_append_getElem hlt] at k1
    have k1 := AC.at (n := n0) k1
    generalize l[i] = g at *
    simp only [fctE, List.cons_append, List.nil_append] at hdi k1
    refine rn1 (jn @tsS.eq_1 (jn @tsR.eq_1 (jn @fRow.eq_1 (jn @fctE.eq_1 (jn @tblC.eq_1 (jn @hi (jn @hdi @hle))))))) ?_
    (repeat (refine And.intro (by omega) ?_))
    refine HC_plan [] ty_ok mix (by kernel_rfl) ?_
    refine rn1 (jn @hi (jn @hdi @hle)) ?_
    (repeat (refine And.intro (by omega) ?_))
    refine HO_callX ty_ok [1] k1 (tbl_hand _ _ _ _ rfl) (tbl_wf _ _) ?_
    rintro v r' ⟨rfl, rfl⟩ _
    refine rn1 (jn @tbl.eq_1 @tblC.eq_1) ?_
    (repeat (refine And.intro (by omega) ?_))
    refine ⟨i + 1, (by omega), by omega, [0, 1, 2], [], ?_⟩
    exact ft1 (jn @tsS.eq_1 (jn @tsR.eq_1 (jn @fRow.eq_1 (jn @fctE.eq_1 @tblC.eq_1))))
  · have hi : ¬ (i : Int) < l.length := by omega
    have hiL : i = l.length := by omega
    subst hiL
    have hok := okB.puts 4096 l [] okB0 (by simp only [List.length_nil]; omega)
    have hle := putB_len 4096 l []
    simp only [List.length_nil] at hle
    rw [List.take_length]
    generalize putB 4096 [] l = L at *
    have ka := AC.at (n := n0) (allT_ac L 4096)
    have kg := AC.at (n := n0) (gathT_ac L hok 4096 (by decide))
    have kq := AC.at (n := n0) (gathA_ac L hok 4096 (by decide) q)
    have kb := AC.at (n := n0) (begin_ac L q)
    have hbl : (begT q L).length ≤ L.length := by rw [begT]; split; exact Nat.le_refl _; rw [List.length_take]; omega
    have hbs : ∀ g ∈ begT q L, g ∈ L := fun g hg => by
      rw [begT] at hg; split at hg
      · exact hg
      · exact List.mem_of_mem_take hg
    have kk := rlikeF_ac (begT q L) (begT q L) (by omega) (by omega) (fun g hg => hok.ok g (hbs g hg)) (fun g hg => hok.ok g (hbs g hg))
    rw [decide_eq_true rfl] at kk
    have kk := AC.at (n := n0) kk
    refine rn1 (jn @tsS.eq_1 (jn @tsR.eq_1 (jn @fRow.eq_1 (jn @fctE.eq_1 (jn @tblC.eq_1 @hi))))) ?_
    refine HO_callX ty_ok [1] ka (tbl_hand _ _ _ _ rfl) (tbl_wf _ _) ?_
    rintro v r' ⟨rfl, rfl⟩ _
    refine rn1 (jn @bA.eq_1 (jn @tbl.eq_1 @tblC.eq_1)) ?_
    refine HO_callX ty_ok [1, 3, 4] kg (bA_hand _ _ _ _ _ _ rfl rfl rfl) (bA_wf _ _) ?_
    rintro v r' ⟨rfl, rfl⟩ _
    refine rn1 (jn @bA.eq_1 (jn @tbl.eq_1 @tblC.eq_1)) ?_
    refine HO_callX ty_ok [1] ka (tbl_hand _ _ _ _ rfl) (tbl_wf _ _) ?_
    rintro v r' ⟨rfl, rfl⟩ _
    refine rn1 (jn @bA.eq_1 (jn @tbl.eq_1 @tblC.eq_1)) ?_
    refine HO_callX ty_ok [1, 5, 6] kq (bA_hand _ _ _ _ _ _ rfl rfl rfl) (bA_wf _ _) ?_
    rintro v r' ⟨rfl, rfl⟩ _
    refine rn1 (jn @bA.eq_1 (jn @tbl.eq_1 @tblC.eq_1)) ?_
    refine HO_pureA ty_ok kb ?_
    refine rn0 ?_
    refine HO_pureA ty_ok kk ?_
    refine rn0 ?_
    refine HO_callX ty_ok [1] ka (tbl_hand _ _ _ _ rfl) (tbl_wf _ _) ?_
    rintro v r' ⟨rfl, rfl⟩ _
    refine rn1 (jn @bA.eq_1 (jn @tbl.eq_1 @tblC.eq_1)) ?_
    refine R_range (HC_fitR (stS L) (stR f L [] none) [0, 1, 2, 0, 0, 0, 0, 7, 8, 9, 10, 0] [0] ?_ (HC_range (p := 53) (m := 12) (fun s => s = stR f (stM f L L) L none) (fun l Lp => [.yv l Lp (slotsOf 74 (stS L)), .ptr 8 0, .ptr 9 0]) rfl rfl rfl rfl rfl (fun l Lp => ⟨.refl _, .refl _, .refl _, trivial⟩) ?_ ?_ rfl ?_))
    · exact ft1 (jn @stS.eq_1 (jn @stR.eq_1 (jn @fRow.eq_1 (jn @fctE.eq_1 (jn @tblC.eq_1 @flatE_nil)))))
    · intro l Lp h1 h2 h3 h4 h5
      refine AC.at ?_
      refine (some1S_ac L hok (by omega) f l Lp (fun M xs g hM hMl hxl hgl h0 => ?_) (fun M xs g zs hM hMl hxl hgl h0 => ?_)).mono fun v r' ⟨_, h⟩ => ⟨_, rfl, h⟩
      · refine AY_of_body (ti := ty) (p := 53) (m := 12) (re := stR f M xs none) (q := fun s => s = rdS f M xs g) rfl rfl rfl h1 h2 h3 h4 h5 (by simp [stS]) (by decide) (fun s h => by rw [h]; rfl) ?_
        refine HC_of_R ty_ok ?_
        refine rn1 (jn @stS.eq_1 (jn @stR.eq_1 (jn @fRow.eq_1 (jn @fctE.eq_1 @tblC.eq_1)))) ?_
        refine ⟨rfl, HC_of_R ty_ok ?_⟩
        refine rn0 ?_
        have kc := AC.inR (l := l) (copyD_ac g hgl)
        have kt := AC.inR (l := l) (btake_ac M 4096 (by decide) hM g (by omega))
        have hM2 := tkB_ok hM g
        have hMl2 := tkB_le hM g
        have kp := AC.inR (l := l) (bput_ac (tkB M g) 4096 (by decide) hM2 f hf)
        have ks := AC.inR (l := l) (spoilD_ac g h0)
        have hxf := flatE_len fctE_len xs
        have e2 : flatE fctE (xs ++ [g]) = flatE fctE xs ++ [.c (.string g.a), .c (.string g.b), .c (.string g.p), .sl 3 g.l.length (flatE cstE g.l)] := by rw [flatE_app]; simp [flatE, fctE]
        have e3 : (xs ++ [g]).length = xs.length + 1 := by simp
        simp only [fctE, List.cons_append, List.nil_append] at kc kt kp ks
        refine HC_cutR (sbS L) (stR f M (xs ++ [g]) none ++ [bz l Lp, some (.obj ((fctE g).map .d))]) ?_ ?_
        · refine rn1 (jn @stS.eq_1 (jn @stR.eq_1 (jn @fRow.eq_1 (jn @fctE.eq_1 @tblC.eq_1)))) ?_
          refine HC_of_HVG mix ?_
          refine HV_split 0 3 (by decide) ?_ ?_
          · simp only [addAt]
            refine HV_order [] ty_ok [0, 1, 2, 3, 4, 5] (by kernel_rfl) rfl _ rfl ?_
            simp only [opl_nil', opl_cons', oplC_some, List.getElem?_toArray, List.getElem?_cons_zero, List.getElem?_cons_succ]
            refine rn0 ?_
            refine HO_pureA ty_ok kc ?_
            refine rn1 @hxf ?_
            (repeat (refine And.intro (by omega) ?_))
            refine ⟨[0, 1, 2, 3, 4, 5, 6, 7, 8, 9, 10, 11, 12, 13], [], ?_⟩
            exact ft1 (jn @sbS.eq_1 (jn @stR.eq_1 (jn @bz.eq_1 (jn @fRow.eq_1 (jn @fctE.eq_1 (jn @tblC.eq_1 (jn @e2 @e3)))))))
          · simp only [addAt]
            refine HV_order [] ty_ok [1, 2, 3, 0, 4, 5] (by kernel_rfl) rfl _ rfl ?_
            simp only [opl_nil', opl_cons', oplC_some, List.getElem?_toArray, List.getElem?_cons_zero, List.getElem?_cons_succ]
            refine rn0 ?_
            refine HO_pureA ty_ok kc ?_
            refine rn1 @hxf ?_
            (repeat (refine And.intro (by omega) ?_))
            refine ⟨[0, 1, 2, 3, 4, 5, 6, 7, 8, 9, 10, 11, 12, 13], [], ?_⟩
            exact ft1 (jn @sbS.eq_1 (jn @stR.eq_1 (jn @bz.eq_1 (jn @fRow.eq_1 (jn @fctE.eq_1 (jn @tblC.eq_1 (jn @e2 @e3)))))))
        · refine rn1 (jn @sbS.eq_1 (jn @stR.eq_1 (jn @bz.eq_1 (jn @fRow.eq_1 (jn @fctE.eq_1 @tblC.eq_1))))) ?_
          refine HO_callX ty_ok [1] kt (tbl_hand _ _ _ _ rfl) (tbl_wf _ _) ?_
          rintro v r' ⟨rfl, rfl⟩ _
          refine rn1 (jn @tbl.eq_1 @tblC.eq_1) ?_
          refine HO_callX ty_ok [1] kp (tbl_hand _ _ _ _ rfl) (tbl_wf _ _) ?_
          rintro v r' ⟨rfl, rfl⟩ _
          refine rn1 (jn @tbl.eq_1 @tblC.eq_1) ?_
          refine HO_pureA ty_ok ks ?_
          refine rn0 ?_
          refine ⟨_, [0, 1, 2, 3, 4, 5, 6, 7, 8, 9, 10, 11, 12], [], rfl, ?_⟩
          exact ft1 (jn @rdS.eq_1 (jn @stR.eq_1 (jn @fRow.eq_1 (jn @fctE.eq_1 @tblC.eq_1))))
      · refine AY_of_body (ti := ty) (p := 53) (m := 12) (re := stR f M xs (argR g zs)) (q := fun s => s = rdS f M xs g) rfl rfl rfl h1 h2 h3 h4 h5 (by simp [stS]) (by decide) (fun s h => by rw [h]; rfl) ?_
        refine HC_of_R ty_ok ?_
        refine rn1 (jn @stS.eq_1 (jn @stR.eq_1 (jn @fRow.eq_1 (jn @fctE.eq_1 (jn @fctO.eq_1 (jn @argR.eq_1 @tblC.eq_1)))))) ?_
        refine ⟨rfl, HC_of_R ty_ok ?_⟩
        refine rn0 ?_
        have kc := AC.inR (l := l) (copyO_ac g zs h0 hgl)
        have kt := AC.inR (l := l) (btakeO_ac M 4096 (by decide) hM g zs h0 (by omega))
        have hM2 := tkB_ok hM g
        have hMl2 := tkB_le hM g
        have kp := AC.inR (l := l) (bput_ac (tkB M g) 4096 (by decide) hM2 f hf)
        have ks := AC.inR (l := l) (spoilO_ac g zs h0 hgl)
        have hxf := flatE_len fctE_len xs
        have e2 : flatE fctE (xs ++ [g]) = flatE fctE xs ++ [.c (.string g.a), .c (.string g.b), .c (.string g.p), .sl 3 g.l.length (flatE cstE g.l)] := by rw [flatE_app]; simp [flatE, fctE]
        have e3 : (xs ++ [g]).length = xs.length + 1 := by simp
        simp only [fctE, List.cons_append, List.nil_append] at kp
        refine HC_cutR (sbS L) (stR f M (xs ++ [g]) (argR g zs) ++ [bz l Lp, some (.obj (fctO g 11))]) ?_ ?_
        · refine rn1 (jn @stS.eq_1 (jn @stR.eq_1 (jn @fRow.eq_1 (jn @fctE.eq_1 @tblC.eq_1)))) ?_
          refine HC_of_HVG mix ?_
          refine HV_split 0 3 (by decide) ?_ ?_
          · simp only [addAt]
            refine HV_order [] ty_ok [0, 1, 2, 3, 4, 5] (by kernel_rfl) rfl _ rfl ?_
            simp only [opl_nil', opl_cons', oplC_some, List.getElem?_toArray, List.getElem?_cons_zero, List.getElem?_cons_succ]
            refine rn0 ?_
            refine HO_callX ty_ok [14, 11] kc (fo_hand _ _ _ _ _ rfl rfl) (fo_wf _ _) ?_
            rintro v r' ⟨rfl, rfl⟩ _
            refine rn1 (jn @fctO.eq_1 (jn @argR.eq_1 (jn @renL_map_d @hxf))) ?_
            (repeat (refine And.intro (by omega) ?_))
            refine ⟨[0, 1, 2, 3, 4, 5, 6, 7, 8, 9, 10, 11, 12, 13], [], ?_⟩
            exact ft1 (jn @sbS.eq_1 (jn @stR.eq_1 (jn @bz.eq_1 (jn @fRow.eq_1 (jn @fctE.eq_1 (jn @fctO.eq_1 (jn @argR.eq_1 (jn @tblC.eq_1 (jn @e2 @e3)))))))))
          · simp only [addAt]
            refine HV_order [] ty_ok [1, 2, 3, 0, 4, 5] (by kernel_rfl) rfl _ rfl ?_
            simp only [opl_nil', opl_cons', oplC_some, List.getElem?_toArray, List.getElem?_cons_zero, List.getElem?_cons_succ]
            refine rn0 ?_
            refine HO_callX ty_ok [14, 11] kc (fo_hand _ _ _ _ _ rfl rfl) (fo_wf _ _) ?_
            rintro v r' ⟨rfl, rfl⟩ _
            refine rn1 (jn @fctO.eq_1 (jn @argR.eq_1 (jn @renL_map_d @hxf))) ?_
            (repeat (refine And.intro (by omega) ?_))
            refine ⟨[0, 1, 2, 3, 4, 5, 6, 7, 8, 9, 10, 11, 12, 13], [], ?_⟩
            exact ft1 (jn @sbS.eq_1 (jn @stR.eq_1 (jn @bz.eq_1 (jn @fRow.eq_1 (jn @fctE.eq_1 (jn @fctO.eq_1 (jn @argR.eq_1 (jn @tblC.eq_1 (jn @e2 @e3)))))))))
        · refine rn1 (jn @sbS.eq_1 (jn @stR.eq_1 (jn @bz.eq_1 (jn @fRow.eq_1 (jn @fctE.eq_1 (jn @fctO.eq_1 (jn @argR.eq_1 @tblC.eq_1))))))) ?_
          refine HO_callX ty_ok [1, 11] kt (tblO_hand _ _ _ _ _ _ _ rfl rfl) (tblO_wf _ _ _ _) ?_
          rintro v r' ⟨rfl, rfl⟩ _
          refine rn1 (jn @tbl.eq_1 (jn @tblC.eq_1 (jn @argR.eq_1 @renL_map_d))) ?_
          refine HO_callX ty_ok [1] kp (tbl_hand _ _ _ _ rfl) (tbl_wf _ _) ?_
          rintro v r' ⟨rfl, rfl⟩ _
          refine rn1 (jn @tbl.eq_1 @tblC.eq_1) ?_
          refine HO_callX ty_ok [14, 11] ks (fo_hand _ _ _ _ _ rfl rfl) (fo_wf _ _) ?_
          rintro v r' ⟨rfl, rfl⟩ _
          refine rn0 ?_
          refine ⟨_, [0, 1, 2, 3, 4, 5, 6, 7, 8, 9, 10, 11, 12], [], rfl, ?_⟩
          exact ft1 (jn @rdS.eq_1 (jn @stR.eq_1 (jn @fRow.eq_1 (jn @fctE.eq_1 @tblC.eq_1))))
    · rintro s rfl
      exact ⟨rfl, rfl⟩
    · rintro s rfl
      have kl := rlikeF_ac L L (by omega) (by omega) hok.ok hok.ok
      rw [decide_eq_true rfl] at kl
      have kl := AC.at (n := n0) kl
      refine rn1 (jn @stS.eq_1 (jn @stR.eq_1 (jn @fRow.eq_1 (jn @fctE.eq_1 @tblC.eq_1)))) ?_
      refine HO_pureA ty_ok kl ?_
      refine rn0 ?_
      refine HO_pureA ty_ok (AC.at (n := n0) blive_ac) ?_
      exact rz0
end Go.Proofs.Ythdjblfiiogmgaa
