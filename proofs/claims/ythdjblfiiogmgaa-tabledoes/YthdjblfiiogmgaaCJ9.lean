/- Parts of the proof: StOwn, StCpy, Drw, CHas, TbFnd. -/
import Derived.Test.YthdjblfiiogmgaaCJ7
import Derived.Test.YthdjblfiiogmgaaCJ0
import Derived.Test.YthdjblfiiogmgaaCJ3
import Derived.Test.YthdjblfiiogmgaaCJ8
set_option linter.unusedVariables false
set_option linter.unusedSimpArgs false
set_option maxRecDepth 100000
namespace Go.Proofs.Ythdjblfiiogmgaa
open Go Go.ChangeShapes Go.WideShapes
/-! A fact whose arguments lie in a row of the call's own: looked for, taken, copied, spoiled. -/
/-- A value that may be lent; or a struct whose parts may be. -/
def BwG (r : Rs) (a b : AV) : Prop := BwA r a b ∨ ∃ l ds, a = .agg l ∧ b = .d (.agg ds) ∧ BwAs r l (ds.map .d)
theorem BwG.agg {r : Rs} {l : List AV} {ds : List D} (h : BwAs r l (ds.map .d)) : BwG r (.agg l) (.d (.agg ds)) := .inr ⟨l, ds, rfl, rfl, h⟩
section
variable {E : Env} {r : Rs} {w : World} {G : GR}
end
section
variable {P : Program} {ti : Ti} {G : GR} {N : Nat} {ops : Array Oper} {σ : St}
end
end Go.Proofs.Ythdjblfiiogmgaa

set_option linter.unusedVariables false
set_option linter.unusedSimpArgs false
set_option maxRecDepth 100000
namespace Go.Proofs.Ythdjblfiiogmgaa
open Go Go.ChangeShapes Go.WideShapes
/-! ref04.Copy and Spoil of one fact. -/
end Go.Proofs.Ythdjblfiiogmgaa

set_option linter.unusedVariables false
set_option linter.unusedSimpArgs false
set_option maxRecDepth 100000
namespace Go.Proofs.Ythdjblfiiogmgaa
open Go Go.ChangeShapes Go.WideShapes
/-! Regions that draw their order, within a round of a range over a function. -/
def noDef (o : Oper) : Bool := match o.op with
  | .defer _ => false
  | _ => true
section
variable {P : Program} {ti : Ti} {G : GR} {N : Nat} {K : KD} {σ : St}
theorem upon_in {o : Oper} {a : Act} {next next' : Act → World → Prop} {Q : Exit → Act → World → Prop} (hn : ∀ a w, next a w → next' a w) (res : Result Next) (h : o.upon P a next Q res) : o.uponIn (fcR G) 0 P a next' Q res := by
  unfold Oper.upon at h
  split at h
  · exact hn _ _ h
  · exact hn _ _ h
  · exact hn _ _ h
  · rename_i f args w'
    refine ⟨fun hd => (by cases hd), trivial, fun cs _ => ?_⟩
    obtain ⟨e, w2, fr, hr, hs, hx⟩ := h cs
    refine ⟨e, w2, fr, ?_, comesIn_wide.2 hs, hx⟩
    cases e with
    | returned v => exact hn _ _ hr
    | panicked ch => exact hr
    | outgrown => exact hr
  · rename_i row args w'
    refine ⟨fun hd => (by cases hd), fun c cs _ => ?_⟩
    obtain ⟨v, w2, hr, hs⟩ := h c cs
    exact ⟨v, w2, hn _ _ hr, stepsIn_wide.2 hs⟩
  · exact h
  · exact h.elim
theorem wpOps_in {ops : Array Oper} {Q : Exit → Act → World → Prop} (hd : ∀ (i : Nat) (o : Oper), ops[i]? = some o → noDef o = true) (hno : ¬ LetsOut Q) : ∀ (l : List Nat) (a : Act) (w : World), wpOps P ops Q l a w → wpOpsIn (fcR G) 0 P ops Q l a w
  | [], a, w, h => h
  | i :: rest, a, w, h => by
    have ih := wpOps_in hd hno rest
    simp only [wpOps] at h
    simp only [wpOpsIn]
    cases ho : ops[i]? with
    | none => rw [ho] at h; exact ih a w h
    | some o =>
      rw [ho] at h
      simp only at h ⊢
      split at h
      · rename_i hw
        rw [if_pos hw]
        rcases h with h | h
        · refine ⟨fun _ _ => trivial, ?_⟩
          have hnd := hd i o ho
          rw [Oper.semAt_eq _ _ _ (fun c hc => by unfold noDef at hnd; rw [hc] at hnd; cases hnd)]
          exact upon_in ih _ h
        · exact absurd h.2 hno
      · rename_i hw
        rw [if_neg hw]
        exact ⟨fun _ _ => trivial, ih _ _ h⟩
theorem HC_of_HVG (hm : P.follows .mixedOrders = true) {id : Nat} {l : List Oper} (h : HV P ti G N l K σ) (hnd : l.all noDef = true := by rfl) (hno : ∀ σ, ¬ app P ti G N K .outgrown σ := by intro σ h; exact h) : HC P ti G N (.region id l.toArray true) K σ := by
  intro E0 r0 w0 E a w hR hS
  refine wpIn_region_draw fun t => ?_
  simp only [Region.schedule, hm, Bool.true_or, if_true]
  refine wpOps_in (fun i o ho => ?_) (fun hq => ?_) _ _ _ (h E0 r0 w0 E a w hR hS _ (VL_lin _ t _))
  · have := List.mem_of_getElem? (l := l) (by simpa using ho)
    exact List.all_eq_true.1 hnd o this
  · obtain ⟨a2, w2, σ2, E2, hk, _⟩ := hq
    exact hno σ2 hk
end
end Go.Proofs.Ythdjblfiiogmgaa

set_option linter.unusedVariables false
set_option linter.unusedSimpArgs false
set_option maxRecDepth 100000
namespace Go.Proofs.Ythdjblfiiogmgaa
open Go Go.ChangeShapes Go.WideShapes
/-! The document's Has. -/
def hsSt (l : List Fct) (i : Nat) : List (Nat × AV) := [(0, .d (.sl 4 l.length (flatE fctE l))), (3, .ptr 0 0), (5, .d (.c (.int .i64 i)))]
def hsRe (f : Fct) : Rs := [some (.obj [.d (.c (.string f.a)), .d (.c (.string f.b)), .d (.c (.string f.p)), .d (.sl 3 f.l.length (flatE cstE f.l))])]
set_option maxHeartbeats 400000 in
theorem has_ac (l : List Fct) (hl : l.length ≤ 140737488352000) (hs : ∀ g ∈ l, g.l.length ≤ 140737488352000) (f : Fct) (hf : f.l.length ≤ 140737488352000) : AC Try.prog noG 51 [.d (.sl 4 l.length (flatE fctE l)), .d (.agg (fctE f))] [] (fun v r' => v = .d (.c (.bool (decide (f ∈ l)))) ∧ r' = []) := by
  refine AC.fit ?_
  refine AC_of_R (N := 19) (res := [.tmp 4]) ty_ok Try.call51 Try.func51 rfl rfl rfl (Nat.le_of_ble_eq_true rfl) ?_
  refine rn1 @fctE.eq_1 ?_
  refine HC_loopR (fun i : Nat => hsSt l i) (fun _ => hsRe f) (fun i => i ≤ l.length ∧ f ∉ l.take i) (fun i => l.length - i) 0 [0] [] ⟨by omega, by simp⟩ ?_ ?_
  · exact ft1 (jn @hsSt.eq_1 @hsRe.eq_1)
  intro i ⟨hi1, hno⟩
  refine HC_of_R ty_ok ?_
  by_cases hlt : i < l.length
  · have hi : (i : Int) < l.length := by omega
    have hd := flatE_drop fctE_len l i hlt
    have hle := flatE_len fctE_len l
    have hmem := List.getElem_mem hlt
    have kg := rord_ac l[i] f (hs _ hmem) hf
    have htk := List.take_succ_eq_append_getElem hlt
    generalize l[i] = g at *
    simp only [fctE, List.cons_append, List.nil_append] at hd kg
    refine rn1 (jn @hsSt.eq_1 (jn @hsRe.eq_1 @hi)) ?_
    refine HC_plan [] ty_ok mix (by kernel_rfl) ?_
    refine rn1 (jn @hi (jn @hd @hle)) ?_
    (repeat (refine And.intro (by omega) ?_))
    refine HO_pureA ty_ok kg ?_
    by_cases he : g = f
    · have e : decide (f ∈ l) = true := decide_eq_true (he ▸ hmem)
      rw [ordC_zero.2 he, e]
      refine rn0 ?_
      exact fv0 [] []
    · have h0 : ¬ ordC g f = 0 := fun h => he (ordC_zero.1 h)
      refine rn1 @h0 ?_
      (repeat (refine And.intro (by omega) ?_))
      refine ⟨i + 1, ⟨by omega, ?_⟩, by omega, [0], [], ?_⟩
      · rw [htk, List.mem_append, List.mem_singleton]
        exact fun h => h.elim hno (fun h => he h.symm)
      · exact ft1 (jn @hsSt.eq_1 @hsRe.eq_1)
  · have hi : ¬ (i : Int) < l.length := by omega
    rw [List.take_of_length_le (by omega)] at hno
    rw [decide_eq_false hno]
    refine rn1 (jn @hsSt.eq_1 (jn @hsRe.eq_1 @hi)) ?_
    exact fv0 [] []
end Go.Proofs.Ythdjblfiiogmgaa

set_option linter.unusedVariables false
set_option linter.unusedSimpArgs false
set_option maxRecDepth 100000
namespace Go.Proofs.Ythdjblfiiogmgaa
open Go Go.ChangeShapes Go.WideShapes
/-! table.Find and Clone; gather over Find. -/
theorem AY.inR {P : Program} {G : GR} {l l2 : Nat} {L : Loop} {sl : List AV} {x : AV} {r : Rs} {O : AV → Rs → Prop} (h : AY P G l L sl x r O) : AY P (G.inR l2) l L sl x r O := by
  intro E w vals hG hA
  refine (h E w vals (Go.Proofs.Ythdjblfiiogmgaa.Good.gr (G := G.inR l2) (G' := G) rfl hG) hA).mono fun e w' ⟨v, x, r', E', he, ho, h1, h2, h3⟩ => ?_
  exact ⟨v, x, r', E', he, ho, h1, Go.Proofs.Ythdjblfiiogmgaa.Good.gr (G := G) (G' := G.inR l2) rfl h2, h3⟩
set_option maxHeartbeats 400000 in
theorem bclone_ac (L : List Fct) (m : Int) (hm : m ≠ 0) (hL : okB L) : AC Try.prog noG 45 [.ptr 0 0] (tbl L m) (fun v r' => v = .ptr 1 0 ∧ r' = tbl L m ++ tbl L m) := by
  refine AC.fit ?_
  refine AC_of_R (N := 16) (res := [.tmp 2]) ty_ok Try.call45 Try.func45 rfl rfl rfl (Nat.le_of_ble_eq_true rfl) ?_
  have k := bnone_ac L m hm
  have hl := hL.len
  have hle := flatE_len fctE_len L
  have kc := cloneF_d L.length (flatE fctE L) (by omega) (by omega)
  refine rn1 (jn @tbl.eq_1 @tblC.eq_1) ?_
  refine HO_callX ty_ok [0] k (tbl_hand _ _ _ _ rfl) (tbl_wf _ _) ?_
  rintro v r' ⟨rfl, rfl⟩ _
  refine rn1 (jn @tbl.eq_1 @tblC.eq_1) ?_
  refine HC_order [4] ty_ok mix [0, 1, 2, 3, 5, 6, 7, 8, 4, 9, 10, 11] (by kernel_rfl) rfl _ rfl ?_
  simp only [opl_nil', opl_cons', oplC_some, List.getElem?_toArray, List.getElem?_cons_zero, List.getElem?_cons_succ]
  refine rn0 ?_
  refine HO_pureA ty_ok kc ?_
  refine rn0 ?_
  exact fv1 [0,1] [] (jn @tbl.eq_1 @tblC.eq_1)
def fndB (p : ByteArray) (k : Int) (c : Cst) (f : Fct) : Bool := decide (f.p = p) && decide (0 ≤ k) && decide (k < f.l.length) && decide (f.l[k.toNat]? = some c)
def bF (L : List Fct) (m : Int) (p : ByteArray) (k : Int) (c : Cst) : Rs := tbl L m ++ [some (.obj [.ptr 0 0]), some (.obj [.d (.c (.string p))]), some (.obj [.d (.c (.int .i64 k))]), some (.obj ((cstE c).map .d))]
def fnF : AV := .fn (.func 76) [] [.ptr 1 0, .ptr 2 0, .ptr 3 0, .ptr 4 0]
def gFst : List (Nat × AV) := [(3, .ptr 5 0), (5, .ptr 6 0), (10, fnF)]
def gFq (L : List Fct) (m : Int) (p : ByteArray) (k : Int) (c : Cst) (xs : List Fct) : Rs := bF L m p k c ++ [some (.obj [.d (.c (.int .i64 (-1)))]), some (.obj [.sl (.own 7) 4 xs.length (flatE fctE xs)]), some (.tok (4 * xs.length))]
def iFst : List (Nat × AV) := [(1, .ptr 1 0), (2, .ptr 2 0), (3, .ptr 3 0), (4, .ptr 4 0), (5, .ptr 9 0), (8, .fn (.func 85) [] [.ptr 10 0, .ptr 11 0])]
def iFq (L : List Fct) (m : Int) (p : ByteArray) (k : Int) (c : Cst) (l1 : Nat) (L1 : Loop) (xs : List Fct) : Rs := gFq L m p k c xs ++ [some (.ob l1 (.loop L1)), some (.obj [.yv l1 L1 (slotsOf 21 gFst)]), some (.obj [.ptr 0 0]), some (.obj [.fn (.func 59) [] []])]
def soF (L : List Fct) (l : Nat) (Lp : Loop) (sl : List AV) (i : Nat) : List (Nat × AV) := [(0, .yv l Lp sl), (1, .ptr 10 0), (2, .ptr 11 0), (11, .d (.sl 4 L.length (flatE fctE L))), (12, .d (.c (.int .i64 L.length))), (13, .d (.c (.int .i64 i)))]
set_option maxHeartbeats 800000 in
theorem some1F_ac (L : List Fct) (hL : okB L) (m : Int) (hm : m ≠ 0) (p : ByteArray) (k0 : Int) (c : Cst) (l1 : Nat) (L1 : Loop) (l : Nat) (Lp : Loop)
    (hY : ∀ xs f, xs.length < L.length → f.l.length ≤ 1000000 → AY Try.prog noG l Lp (slotsOf 39 iFst) (.d (.agg (fctE f))) (iFq L m p k0 c l1 L1 xs ++ [some (.ob l (.loop Lp))]) (fun v r' => ∃ s, s = iFq L m p k0 c l1 L1 (xs ++ [f].filter (fndB p k0 c)) ∧ v = .d (.c (.bool true)) ∧ r' = s ++ [some (.ob l (.loop Lp))])) :
    AC Try.prog noG 85 [.yv l Lp (slotsOf 39 iFst), .ptr 10 0, .ptr 11 0] (iFq L m p k0 c l1 L1 [] ++ [some (.ob l (.loop Lp))]) (fun v r' => v = .tup [] ∧ r' = iFq L m p k0 c l1 L1 (L.filter (fndB p k0 c)) ++ [some (.ob l (.loop Lp))]) := by
  refine AC.fit ?_
  refine AC_of_R (N := 30) (res := []) ty_ok Try.call85 Try.func85 rfl rfl rfl (Nat.le_of_ble_eq_true rfl) ?_
  have k := bnone_ac L m hm
  have hl := hL.len
  refine rn1 (jn @iFq.eq_1 (jn @gFq.eq_1 (jn @bF.eq_1 (jn @cstE.eq_1 (jn @tbl.eq_1 @tblC.eq_1))))) ?_
  refine HO_callX ty_ok [0] k (tbl_hand _ _ _ _ rfl) (tbl_wf _ _) ?_
  rintro v r' ⟨rfl, rfl⟩ _
  refine rn1 (jn @tbl.eq_1 @tblC.eq_1) ?_
  refine HC_loopR (fun i : Nat => soF L l Lp (slotsOf 39 iFst) i) (fun i => iFq L m p k0 c l1 L1 ((L.take i).filter (fndB p k0 c)) ++ [some (.ob l (.loop Lp))]) (fun i => i ≤ L.length) (fun i => L.length - i) 0 [0, 1, 2, 3, 4, 5, 6, 7, 8, 9, 10, 11, 12] [] (Nat.zero_le _) ?_ ?_
  · have e1 : (L.take 0).filter (fndB p k0 c) = [] := rfl
    exact ft1 (jn @soF.eq_1 (jn @iFq.eq_1 (jn @gFq.eq_1 (jn @bF.eq_1 (jn @cstE.eq_1 (jn @tbl.eq_1 (jn @tblC.eq_1 @e1)))))))
  intro i hi1
  refine HC_of_R ty_ok ?_
  by_cases hlt : i < L.length
  · have hi : (i : Int) < L.length := by omega
    have hd := flatE_drop fctE_len L i hlt
    have hle := flatE_len fctE_len L
    have hgl := hL.ok _ (List.getElem_mem hlt)
    have hy := hY ((L.take i).filter (fndB p k0 c)) L[i] (by have := List.length_filter_le (fndB p k0 c) (L.take i); rw [List.length_take] at this; omega) hgl
    have hst : (L.take (i + 1)).filter (fndB p k0 c) = (L.take i).filter (fndB p k0 c) ++ [L[i]].filter (fndB p k0 c) := by rw [List.take_succ_eq_append_getElem hlt, List.filter_append]
    rw [← hst] at hy
    clear hst
    generalize L[i] = g at *
    have ka := all1T_ac g
    have kk := cloneC_d g.l.length (flatE cstE g.l) (by rw [flatE_len cstE_len]; omega) hgl
    simp only [fctE, List.cons_append, List.nil_append] at hd ka hy
    refine rn1 (jn @soF.eq_1 (jn @iFq.eq_1 (jn @gFq.eq_1 (jn @bF.eq_1 (jn @cstE.eq_1 (jn @tbl.eq_1 (jn @tblC.eq_1 (jn @hi (jn @hd @hle))))))))) ?_
    (repeat (refine And.intro (by omega) ?_))
    refine HO_pureA ty_ok ka ?_
    refine rn0 ?_
    refine HO_pureA ty_ok kk ?_
    refine rn0 ?_
    refine HO_yield ty_ok [0,1,2,3,4,5,6,7,8,9,10,11,12] hy rfl rfl rfl rfl (by kernel_rfl) (by decide) ⟨(by simp), (by repeat' (first | exact trivial | exact WeakA.refl _ | exact WeakA.toD rfl | refine ⟨?_, ?_⟩)), rfl, (by repeat' (first | exact trivial | (intro y h; injection h with h; subst h; rfl) | (intro y h; cases h; done) | refine ⟨?_, ?_⟩)), rfl⟩ ?_
    rintro v r' ⟨s, rfl, rfl, rfl⟩ _
    refine rn1 (jn @iFq.eq_1 (jn @gFq.eq_1 (jn @bF.eq_1 (jn @cstE.eq_1 (jn @tbl.eq_1 @tblC.eq_1))))) ?_
    refine ⟨i + 1, (by omega), by omega, [0, 1, 2, 3, 4, 5, 6, 7, 8, 9, 10, 11, 12], [], ?_⟩
    exact ft1 (jn @soF.eq_1 (jn @iFq.eq_1 (jn @gFq.eq_1 (jn @bF.eq_1 (jn @cstE.eq_1 (jn @tbl.eq_1 @tblC.eq_1))))))
  · have hi : ¬ (i : Int) < L.length := by omega
    have hiL : i = L.length := by omega
    subst hiL
    rw [List.take_length]
    refine rn1 (jn @soF.eq_1 (jn @iFq.eq_1 (jn @gFq.eq_1 (jn @bF.eq_1 (jn @cstE.eq_1 (jn @tbl.eq_1 (jn @tblC.eq_1 @hi))))))) ?_
    exact fv1 [0,1,2,3,4,5,6,7,8,9,10,11,12] [] (jn @iFq.eq_1 (jn @gFq.eq_1 (jn @bF.eq_1 (jn @cstE.eq_1 (jn @tbl.eq_1 @tblC.eq_1)))))
theorem ca_yv (l : Nat) (L : Loop) (sl : List AV) : cellsAV (.yv l L sl) = some [.yv l L sl] := rfl
theorem lv_yv (r : Rs) (l : Nat) (L : Loop) (sl : List AV) : liveAV r (.yv l L sl) = true := rfl
set_option maxHeartbeats 1000000 in
theorem fnd1_ac (L : List Fct) (hL : okB L) (m : Int) (hm : m ≠ 0) (p : ByteArray) (k0 : Int) (c : Cst) (l1 : Nat) (L1 : Loop)
    (hY : ∀ xs f, xs.length < L.length → AY Try.prog noG l1 L1 (slotsOf 21 gFst) (.d (.agg (fctE f))) (gFq L m p k0 c xs ++ [some (.ob l1 (.loop L1))]) (fun v r' => ∃ s, s = gFq L m p k0 c (xs ++ [f]) ∧ v = .d (.c (.bool true)) ∧ r' = s ++ [some (.ob l1 (.loop L1))])) :
    AC Try.prog noG 76 [.yv l1 L1 (slotsOf 21 gFst), .ptr 1 0, .ptr 2 0, .ptr 3 0, .ptr 4 0] (gFq L m p k0 c [] ++ [some (.ob l1 (.loop L1))]) (fun v r' => v = .tup [] ∧ r' = gFq L m p k0 c (L.filter (fndB p k0 c)) ++ [some (.ob l1 (.loop L1))]) := by
  refine AC.fit ?_
  refine ACM_of_R (N := 39) (res := []) ty_ok Try.call76 Try.func76 rfl rfl rfl (Nat.le_of_ble_eq_true rfl) ?_
  intro n0
  have ka := AC.at (n := n0) (allT_ac L m)
  refine rn1 (jn @gFq.eq_1 (jn @bF.eq_1 (jn @cstE.eq_1 (jn @tbl.eq_1 (jn @tblC.eq_1 (jn @ca_yv @lv_yv)))))) ?_
  refine HO_callX ty_ok [0] ka (tbl_hand _ _ _ _ rfl) (tbl_wf _ _) ?_
  rintro v r' ⟨rfl, rfl⟩ _
  refine rn1 (jn @bA.eq_1 (jn @tbl.eq_1 @tblC.eq_1)) ?_
  refine R_range (HC_fitR iFst (iFq L m p k0 c l1 L1 []) [0, 1, 2, 3, 4, 5, 6, 7, 8, 9, 10, 11] [] ?_ (HC_range (p := 9) (m := 12) (fun s => s = iFq L m p k0 c l1 L1 (L.filter (fndB p k0 c))) (fun l Lp => [.yv l Lp (slotsOf 39 iFst), .ptr 10 0, .ptr 11 0]) rfl rfl rfl rfl rfl (fun l Lp => ⟨.refl _, .refl _, .refl _, trivial⟩) ?_ ?_ rfl ?_))
  · exact ft1 (jn @iFst.eq_1 (jn @iFq.eq_1 (jn @gFq.eq_1 (jn @bF.eq_1 (jn @cstE.eq_1 (jn @tbl.eq_1 @tblC.eq_1))))))
  · intro l Lp h1 h2 h3 h4 h5
    refine AC.at ?_
    refine (some1F_ac L hL m hm p k0 c l1 L1 l Lp fun xs f hx hfl => ?_).mono fun v r' ⟨_, h⟩ => ⟨_, rfl, h⟩
    refine AY_of_body (ti := ty) (p := 9) (m := 12) (re := iFq L m p k0 c l1 L1 xs) (q := fun s => s = iFq L m p k0 c l1 L1 (xs ++ [f].filter (fndB p k0 c))) rfl rfl rfl h1 h2 h3 h4 h5 (by decide) (by decide) (fun s h => by rw [h]; rfl) ?_
    refine HC_of_R ty_ok ?_
    have hy := AY.inR (l2 := l) (hY xs f hx)
    simp only [fctE, List.cons_append, List.nil_append] at hy
    refine rn1 (jn @iFst.eq_1 (jn @iFq.eq_1 (jn @gFq.eq_1 (jn @bF.eq_1 (jn @cstE.eq_1 (jn @tbl.eq_1 (jn @tblC.eq_1 @fctE.eq_1))))))) ?_
    refine ⟨rfl, HC_of_R ty_ok ?_⟩
    refine rn0 ?_
    by_cases hp : f.p = p
    · have hp' : (f.p = p) = True := eq_true hp
      by_cases hk0 : k0 < 0
      · have e5 : [f].filter (fndB p k0 c) = [] := by
          rw [List.filter_cons, fndB, decide_eq_true hp, decide_eq_false (show ¬ 0 ≤ k0 by omega)]; rfl
        rw [e5, List.append_nil]
        refine HC_of_HVG mix ?_
        refine HV_order [] ty_ok [0, 1, 2, 3, 4, 5, 6, 7, 8, 9, 10, 11, 12, 13, 14, 15, 16, 17, 18, 19, 20, 21, 22, 23, 24] (by kernel_rfl) rfl _ rfl ?_
        simp only [opl_nil', opl_cons', oplC_some, List.getElem?_toArray, List.getElem?_cons_zero, List.getElem?_cons_succ]
        refine rn1 (jn @hp' @hk0) ?_
        refine ⟨_, [0, 1, 2, 3, 4, 5, 6, 7, 8, 9, 10, 11, 12], [], rfl, ?_⟩
        exact ft1 (jn @iFq.eq_1 (jn @gFq.eq_1 (jn @bF.eq_1 (jn @cstE.eq_1 (jn @tbl.eq_1 @tblC.eq_1)))))
      · by_cases hk1 : k0 ≥ f.l.length
        · have e5 : [f].filter (fndB p k0 c) = [] := by
            rw [List.filter_cons, fndB, decide_eq_true hp, decide_eq_true (show 0 ≤ k0 by omega), decide_eq_false (show ¬ k0 < f.l.length by omega)]; rfl
          rw [e5, List.append_nil]
          refine HC_of_HVG mix ?_
          refine HV_order [] ty_ok [0, 1, 2, 3, 4, 5, 6, 7, 8, 9, 10, 11, 12, 13, 14, 15, 16, 17, 18, 19, 20, 21, 22, 23, 24] (by kernel_rfl) rfl _ rfl ?_
          simp only [opl_nil', opl_cons', oplC_some, List.getElem?_toArray, List.getElem?_cons_zero, List.getElem?_cons_succ]
          refine rn1 (jn @hp' (jn @hk0 @hk1)) ?_
          refine ⟨_, [0, 1, 2, 3, 4, 5, 6, 7, 8, 9, 10, 11, 12], [], rfl, ?_⟩
          exact ft1 (jn @iFq.eq_1 (jn @gFq.eq_1 (jn @bF.eq_1 (jn @cstE.eq_1 (jn @tbl.eq_1 @tblC.eq_1)))))
        · obtain ⟨kn, rfl⟩ : ∃ kn : Nat, k0 = kn := ⟨k0.toNat, by omega⟩
          have hkn : kn < f.l.length := by omega
          have hkI : (kn : Int) < f.l.length := by omega
          have hdk := flatE_drop cstE_len f.l kn hkn
          have hlk := flatE_len cstE_len f.l
          have hgk : f.l[((kn : Int)).toNat]? = some f.l[kn] := List.getElem?_eq_getElem hkn
          have kz := cstC_zero (a := f.l[kn]) (b := c)
          generalize f.l[kn] = a at *
          have kc := AC.inR (l := l) (fcmp_ac a c)
          simp only [cstE, List.cons_append, List.nil_append] at hdk kc
          by_cases hac : a = c
          · have hz : cstC a c = 0 := kz.2 hac
            have e5 : [f].filter (fndB p kn c) = [f] := by
              rw [List.filter_cons, fndB, decide_eq_true hp, decide_eq_true (show (0 : Int) ≤ kn by omega), decide_eq_true hkI, decide_eq_true (by rw [hgk, hac])]; rfl
            rw [hz] at kc
            rw [e5]
            refine HC_of_HVG mix ?_
            refine HV_order [] ty_ok [0, 1, 2, 3, 4, 5, 6, 7, 8, 9, 10, 11, 12, 13, 14, 15, 16, 17, 18, 19, 20, 21, 22, 23, 24] (by kernel_rfl) rfl _ rfl ?_
            simp only [opl_nil', opl_cons', oplC_some, List.getElem?_toArray, List.getElem?_cons_zero, List.getElem?_cons_succ]
            refine rn1 (jn @hp' (jn @hkI (jn @hdk @hlk))) ?_
            (repeat (refine And.intro (by omega) ?_))
            refine HO_pureA ty_ok kc ?_
            refine rn0 ?_
            refine HO_yield ty_ok [0,1,2,3,4,5,6,7,8] hy rfl rfl rfl rfl (by kernel_rfl) (by decide) ⟨(by simp), (by repeat' (first | exact trivial | exact WeakA.refl _ | exact WeakA.toD rfl | refine ⟨?_, ?_⟩)), rfl, (by repeat' (first | exact trivial | (intro y h; injection h with h; subst h; rfl) | (intro y h; cases h; done) | refine ⟨?_, ?_⟩)), rfl⟩ ?_
            rintro v r' ⟨s, rfl, rfl, rfl⟩ _
            refine rn1 (jn @gFq.eq_1 (jn @bF.eq_1 (jn @cstE.eq_1 (jn @tbl.eq_1 @tblC.eq_1)))) ?_
            refine ⟨_, [0, 1, 2, 3, 4, 5, 6, 7, 8, 9, 10, 11, 12], [], rfl, ?_⟩
            exact ft1 (jn @iFq.eq_1 (jn @gFq.eq_1 (jn @bF.eq_1 (jn @cstE.eq_1 (jn @tbl.eq_1 @tblC.eq_1)))))
          · have hz : ¬ cstC a c = 0 := fun h => hac (kz.1 h)
            have e5 : [f].filter (fndB p kn c) = [] := by
              rw [List.filter_cons, fndB, decide_eq_true hp, decide_eq_true (show (0 : Int) ≤ kn by omega), decide_eq_true hkI, decide_eq_false (by rw [hgk]; intro h; injection h with h; exact hac h)]; rfl
            rw [e5, List.append_nil]
            refine HC_of_HVG mix ?_
            refine HV_order [] ty_ok [0, 1, 2, 3, 4, 5, 6, 7, 8, 9, 10, 11, 12, 13, 14, 15, 16, 17, 18, 19, 20, 21, 22, 23, 24] (by kernel_rfl) rfl _ rfl ?_
            simp only [opl_nil', opl_cons', oplC_some, List.getElem?_toArray, List.getElem?_cons_zero, List.getElem?_cons_succ]
            refine rn1 (jn @hp' (jn @hkI (jn @hdk @hlk))) ?_
            (repeat (refine And.intro (by omega) ?_))
            refine HO_pureA ty_ok kc ?_
            refine rn1 @hz ?_
            refine ⟨_, [0, 1, 2, 3, 4, 5, 6, 7, 8, 9, 10, 11, 12], [], rfl, ?_⟩
            exact ft1 (jn @iFq.eq_1 (jn @gFq.eq_1 (jn @bF.eq_1 (jn @cstE.eq_1 (jn @tbl.eq_1 @tblC.eq_1)))))
    · have e5 : [f].filter (fndB p k0 c) = [] := by rw [List.filter_cons, fndB, decide_eq_false hp]; rfl
      rw [e5, List.append_nil]
      refine HC_of_HVG mix ?_
      refine HV_order [] ty_ok [0, 1, 2, 3, 4, 5, 6, 7, 8, 9, 10, 11, 12, 13, 14, 15, 16, 17, 18, 19, 20, 21, 22, 23, 24] (by kernel_rfl) rfl _ rfl ?_
      simp only [opl_nil', opl_cons', oplC_some, List.getElem?_toArray, List.getElem?_cons_zero, List.getElem?_cons_succ]
      refine rn1 @hp ?_
      refine ⟨_, [0, 1, 2, 3, 4, 5, 6, 7, 8, 9, 10, 11, 12], [], rfl, ?_⟩
      exact ft1 (jn @iFq.eq_1 (jn @gFq.eq_1 (jn @bF.eq_1 (jn @cstE.eq_1 (jn @tbl.eq_1 @tblC.eq_1)))))
  · rintro s rfl
    exact ⟨rfl, rfl⟩
  · rintro s rfl
    refine rn1 (jn @iFst.eq_1 (jn @iFq.eq_1 (jn @gFq.eq_1 (jn @bF.eq_1 (jn @cstE.eq_1 (jn @tbl.eq_1 @tblC.eq_1)))))) ?_
    exact fv1 [0,1,2,3,4,5,6,7,8] [] (jn @gFq.eq_1 (jn @bF.eq_1 (jn @cstE.eq_1 (jn @tbl.eq_1 @tblC.eq_1))))
theorem bF_hand (L : List Fct) (m : Int) (p : ByteArray) (k : Int) (c : Cst) (rc : Rs) (i0 i1 i2 i3 i4 : Nat) (h0 : rc[i0]? = some (some (.obj (tblC L m)))) (h1 : rc[i1]? = some (some (.obj [.ptr i0 0]))) (h2 : rc[i2]? = some (some (.obj [.d (.c (.string p))]))) (h3 : rc[i3]? = some (some (.obj [.d (.c (.int .i64 k))]))) (h4 : rc[i4]? = some (some (.obj ((cstE c).map .d)))) : HandOK (nm [i0, i1, i2, i3, i4] rc.length) rc (bF L m p k c) [i0, i1, i2, i3, i4] := by
  refine ⟨fun y h => ?_, fun y h => ?_, fun y h => ?_, fun y h => ?_, fun y h => ?_, trivial⟩
  · injection h with h; subst h; rw [h0]; rfl
  · injection h with h; subst h; rw [h1]; rfl
  · injection h with h; subst h; rw [h2]; rfl
  · injection h with h; subst h; rw [h3]; rfl
  · injection h with h; subst h; rw [h4]; rfl
theorem bF_wf (L : List Fct) (m : Int) (p : ByteArray) (k : Int) (c : Cst) : wfRs (bF L m p k c).length (bF L m p k c) = true := rfl
set_option maxHeartbeats 800000 in
theorem gathF_ac (L : List Fct) (hL : okB L) (m : Int) (hm : m ≠ 0) (p : ByteArray) (k : Int) (c : Cst) : AC Try.prog noG 16 [fnF, .d (.c (.int .i64 (-1)))] (bF L m p k c) (fun v r' => v = .d (.sl 4 (L.filter (fndB p k c)).length (flatE fctE (L.filter (fndB p k c)))) ∧ r' = bF L m p k c) := by
  refine AC.fit ?_
  refine ACM_of_R (N := 21) (res := [.tmp 4]) ty_ok Try.call16 Try.func16 rfl rfl rfl (Nat.le_of_ble_eq_true rfl) ?_
  intro n0
  refine rn1 (jn @fnF.eq_1 (jn @bF.eq_1 (jn @cstE.eq_1 (jn @tbl.eq_1 @tblC.eq_1)))) ?_
  refine R_range (HC_fitR gFst (gFq L m p k c []) [0, 1, 2, 3, 4, 5, 6] [0] ?_ (HC_range (p := 11) (m := 8) (fun s => s = gFq L m p k c (L.filter (fndB p k c))) (fun l Lp => [.yv l Lp (slotsOf 21 gFst), .ptr 1 0, .ptr 2 0, .ptr 3 0, .ptr 4 0]) rfl rfl rfl rfl rfl (fun l Lp => ⟨.refl _, .refl _, .refl _, .refl _, .refl _, trivial⟩) ?_ ?_ rfl ?_))
  · exact ft1 (jn @gFst.eq_1 (jn @fnF.eq_1 (jn @gFq.eq_1 (jn @bF.eq_1 (jn @cstE.eq_1 (jn @tbl.eq_1 @tblC.eq_1))))))
  · intro l Lp h1 h2 h3 h4 h5
    refine AC.at ?_
    refine (fnd1_ac L hL m hm p k c l Lp fun xs f hx => ?_).mono fun v r' ⟨_, h⟩ => ⟨_, rfl, h⟩
    refine AY_of_body (ti := ty) (p := 11) (m := 8) (re := gFq L m p k c xs) (q := fun s => s = gFq L m p k c (xs ++ [f])) rfl rfl rfl h1 h2 h3 h4 h5 (by decide) (by decide) (fun s h => by rw [h]; rfl) ?_
    refine HC_of_R ty_ok ?_
    have hxl := flatE_len fctE_len xs
    have e2 : flatE fctE (xs ++ [f]) = flatE fctE xs ++ [.c (.string f.a), .c (.string f.b), .c (.string f.p), .sl 3 f.l.length (flatE cstE f.l)] := by rw [flatE_app]; simp [flatE, fctE]
    have e3 : (xs ++ [f]).length = xs.length + 1 := by simp
    have hll := hL.len
    refine rn1 (jn @gFst.eq_1 (jn @fnF.eq_1 (jn @gFq.eq_1 (jn @bF.eq_1 (jn @cstE.eq_1 (jn @tbl.eq_1 (jn @tblC.eq_1 @fctE.eq_1))))))) ?_
    refine ⟨rfl, HC_of_R ty_ok ?_⟩
    refine rn1 @hxl ?_
    (repeat (refine And.intro (by omega) ?_))
    refine ⟨_, [0, 1, 2, 3, 4, 5, 6, 7, 8], [], rfl, ?_⟩
    exact ft1 (jn @gFq.eq_1 (jn @bF.eq_1 (jn @cstE.eq_1 (jn @tbl.eq_1 (jn @tblC.eq_1 (jn @e2 (jn @e3 @hxl)))))))
  · rintro s rfl
    exact ⟨rfl, rfl⟩
  · rintro s rfl
    refine rn1 (jn @gFst.eq_1 (jn @fnF.eq_1 (jn @gFq.eq_1 (jn @bF.eq_1 (jn @cstE.eq_1 (jn @tbl.eq_1 @tblC.eq_1)))))) ?_
    exact fv1 [0,1,2,3,4] [] (jn @bF.eq_1 (jn @cstE.eq_1 (jn @tbl.eq_1 @tblC.eq_1)))
end Go.Proofs.Ythdjblfiiogmgaa
