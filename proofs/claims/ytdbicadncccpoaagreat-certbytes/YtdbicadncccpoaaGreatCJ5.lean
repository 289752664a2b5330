/- Parts of the proof: TBase, TGet, CGet, CSrc. -/
import Derived.Test.YtdbicadncccpoaaGreatCJ4
set_option linter.unusedVariables false
set_option linter.unusedSimpArgs false
set_option maxRecDepth 100000
namespace Go.Proofs.YtdbicadncccpoaaGreat
open Go Go.ChangeShapes Go.WideShapes
/-! trail's doors: Base, Said, Rule, Place, Get, over a trail that a call made. -/
theorem wkDs_refl : ∀ l : List D, WkDs l l
  | [] => trivial
  | _ :: l => ⟨.inl rfl, wkDs_refl l⟩
theorem spl7 {tg : List UInt8} (ht : tg.length = 32) (c0 c1 c2 c3 c4 c5 c6 : AV) : splice (c0 :: c1 :: c2 :: c3 :: c4 :: c5 :: c6 :: [.d (.c (.int .u8 0)), .d (.c (.int .u8 0)), .d (.c (.int .u8 0)), .d (.c (.int .u8 0)), .d (.c (.int .u8 0)), .d (.c (.int .u8 0)), .d (.c (.int .u8 0)), .d (.c (.int .u8 0)), .d (.c (.int .u8 0)), .d (.c (.int .u8 0)), .d (.c (.int .u8 0)), .d (.c (.int .u8 0)), .d (.c (.int .u8 0)), .d (.c (.int .u8 0)), .d (.c (.int .u8 0)), .d (.c (.int .u8 0)), .d (.c (.int .u8 0)), .d (.c (.int .u8 0)), .d (.c (.int .u8 0)), .d (.c (.int .u8 0)), .d (.c (.int .u8 0)), .d (.c (.int .u8 0)), .d (.c (.int .u8 0)), .d (.c (.int .u8 0)), .d (.c (.int .u8 0)), .d (.c (.int .u8 0)), .d (.c (.int .u8 0)), .d (.c (.int .u8 0)), .d (.c (.int .u8 0)), .d (.c (.int .u8 0)), .d (.c (.int .u8 0)), .d (.c (.int .u8 0))]) 7 (tA tg) = c0 :: c1 :: c2 :: c3 :: c4 :: c5 :: c6 :: tA tg := by
  have hl : (tA tg).length = 32 := by rw [tA_len, ht]
  rw [splice_eq (by rw [hl]; exact Nat.le_refl _), hl]
  show [c0, c1, c2, c3, c4, c5, c6] ++ tA tg ++ [] = _
  rw [List.append_nil]; rfl
theorem tnone_ac (L : List Ntr) (O : List Nat) : AC Tryz.prog noG 54 [.ptr 0 0] (tr L O) (fun v r' => v = .d (.c (.bool false)) ∧ r' = tr L O) := by
  refine AC_of_R (N := 12) (res := [.tmp 2]) ty_ok Tryz.call54 Tryz.func54 rfl rfl rfl (Nat.le_of_ble_eq_true rfl) ?_
  exact rz1 (jn @tr.eq_1 @tpC.eq_1)
theorem tmay_ac (L : List Ntr) (O : List Nat) (f : Fct) (hf : f.l.length ≤ 140737488352000) : AC Tryz.prog noG 35 [.ptr 0 0, .d (.agg (fctE f))] (tr L O) (fun v r' => v = .d (.c (.int .i64 (chkE f))) ∧ r' = tr L O) := by
  refine AC.fit ?_
  refine AC_of_R (N := 13) (res := [.tmp 4]) ty_ok Tryz.call35 Tryz.func35 rfl rfl rfl (Nat.le_of_ble_eq_true rfl) ?_
  have kc := fchk_ac f hf
  simp only [fctE, List.cons_append, List.nil_append] at kc
  refine rn1 (jn @tr.eq_1 (jn @tpC.eq_1 @fctE.eq_1)) ?_
  refine HO_callX ty_ok [0] (tnone_ac L O) (tr_hand _ _ _ _ rfl) (tr_wf _ _) ?_
  rintro v r' ⟨rfl, rfl⟩ _
  refine rn1 (jn @tr.eq_1 @tpC.eq_1) ?_
  refine HO_pureA ty_ok kc ?_
  by_cases h : chkE f = 0
  · rw [h]
    refine rn0 ?_
    exact fv1 [0] [] (jn @tr.eq_1 @tpC.eq_1)
  · refine rn1 @h ?_
    exact fv1 [0] [] (jn @tr.eq_1 @tpC.eq_1)
def ordT (L : List Ntr) (x : Ntr) : Bool := x.body.all fun f => hasT L f
def errT (L : List Ntr) (x : Ntr) : Int := if chkE x.f ≠ 0 then chkE x.f else if x.why = 2 ∧ x.rule < 0 then 2 else if hasT L x.f = true then 151 else if x.why = 2 ∧ ordT L x = false then 200 else 0
/-- What an entry leaves. -/
def trN (L : List Ntr) (O : List Nat) (x : Ntr) : Rs := if errT L x = 0 then tr (L ++ [x]) (insT L O x.f) else tr L O
set_option maxHeartbeats 400000 in
theorem base_ac (L : List Ntr) (O : List Nat) (hL : okL L) (hI : TInv L O) (hn : L.length ≤ 100000) (f : Fct) (tg : List UInt8) (ht : tg.length = 32) (hf : f.l.length ≤ 1000000) :
    AC Tryz.prog noG 17 [.ptr 0 0, .d (.agg (fctE f)), .d (.agg (bD tg))] (tr L O) (fun v r' => v = .d (.c (.int .i64 (errT L ⟨f, 1, 0, [], tg⟩))) ∧ r' = trN L O ⟨f, 1, 0, [], tg⟩) := by
  skip
  refine AC.fit ?_
  refine AC_of_R (N := 19) (res := [.tmp 6]) ty_ok Tryz.call17 Tryz.func17 rfl rfl rfl (Nat.le_of_ble_eq_true rfl) ?_
  obtain ⟨t1, t2, t3, t4, t5, t6⟩ := tg32 tg ht
  have hx : okE ⟨f, 1, 0, [], tg⟩ := ⟨ht, hf, by simp⟩
  have km := tmay_ac L O f (by omega)
  have ke := enter_ac L O hL hI ⟨f, 1, 0, [], tg⟩ hx hn
  simp only [entE, fctE, List.cons_append, List.nil_append, List.length_nil, flatE_nil] at km ke
  rw [trN, errT]
  refine rn1 (jn @tr.eq_1 (jn @tpC.eq_1 (jn @fctE.eq_1 (jn @t1 (jn @t2 (jn @t3 (jn @t4 (jn @t5 (jn @t6 @tA_allD))))))))) ?_
  refine HO_callX ty_ok [0] (km) (tr_hand _ _ _ _ rfl) (tr_wf _ _) ?_
  rintro v r' ⟨rfl, rfl⟩ _
  by_cases h : chkE f = 0
  · rw [h] at *
    have hs7 := spl7 ht
    refine rn1 (jn @hs7 (jn @tr.eq_1 (jn @tpC.eq_1 (jn @t1 (jn @t2 (jn @t3 (jn @t4 (jn @t5 (jn @t6 @tA_allD))))))))) ?_
    refine HO_call ty_ok [0] (ke) rfl rfl rfl (by kernel_rfl) (by decide) ⟨(by simp), (by repeat' (first | exact trivial | exact WeakA.refl _ | exact WeakA.toD rfl | exact WeakA.nilD _ | exact WeakA.nils rfl (by repeat' (first | exact trivial | exact wkDs_refl _ | exact .inl rfl | exact .inr ⟨rfl, _, rfl⟩ | refine ⟨?_, ?_⟩)) | refine ⟨?_, ?_⟩)), rfl, tr_hand _ _ _ _ rfl, tr_wf _ _⟩ (by first | exact .inl rfl | exact .inr rfl) ?_
    rintro v r' ⟨rfl, rfl⟩ _
    cases hq : hasT L f with
    | true =>
      refine rn1 (jn @tr.eq_1 @tpC.eq_1) ?_
      exact fv1 [0] [] (jn @tr.eq_1 @tpC.eq_1)
    | false =>
      refine rn1 (jn @tr.eq_1 @tpC.eq_1) ?_
      exact fv1 [0] [] (jn @tr.eq_1 @tpC.eq_1)
  · refine rn1 (jn @h (jn @tr.eq_1 @tpC.eq_1)) ?_
    exact fv1 [0] [] (jn @tr.eq_1 @tpC.eq_1)
def derE (r : Int) (f : Fct) (b : List Fct) : List D := .c (.int .i64 r) :: (fctE f ++ [.sl 4 b.length (flatE fctE b)])
def ruSt (b : List Fct) (i : Nat) : List (Nat × AV) := [(0, .ptr 0 0), (4, .ptr 1 0), (5, .ptr 2 0), (33, .d (.sl 4 b.length (flatE fctE b))), (34, .d (.c (.int .i64 b.length))), (35, .d (.c (.int .i64 i)))]
def ruRe (L : List Ntr) (O : List Nat) (r : Int) (f : Fct) (b : List Fct) (tg : List UInt8) : Rs := [some (.obj (tpC L O)), some (.obj [.d (.c (.int .i64 r)), .d (.c (.string f.a)), .d (.c (.string f.b)), .d (.c (.string f.p)), .d (.sl 3 f.l.length (flatE cstE f.l)), .d (.sl 4 b.length (flatE fctE b))]), some (.obj (tA tg))]
theorem bd_take {p : Fct → Bool} {l : List Fct} {i : Nat} (h : i < l.length) : (l.take (i + 1)).all p = ((l.take i).all p && p l[i]) := by
  rw [List.take_succ_eq_append_getElem h, List.all_append, List.all_cons, List.all_nil, Bool.and_true]
theorem bd_not {p : Fct → Bool} {l : List Fct} {i : Nat} (h : i < l.length) (hp : p l[i] = false) : l.all p = false := by
  rw [List.all_eq_false]
  exact ⟨_, List.getElem_mem h, by simp [hp]⟩
set_option maxHeartbeats 400000 in
theorem rule_ac (L : List Ntr) (O : List Nat) (hL : okL L) (hI : TInv L O) (hn : L.length ≤ 100000) (x : Ntr) (hx : okE x) (hw : x.why = 2) :
    AC Tryz.prog noG 19 [.ptr 0 0, .d (.agg (derE x.rule x.f x.body)), .d (.agg (bD x.tg))] (tr L O) (fun v r' => v = .d (.c (.int .i64 (errT L x))) ∧ r' = trN L O x) := by
  refine AC.fit ?_
  refine AC_of_R (N := 58) (res := [.tmp 6]) ty_ok Tryz.call19 Tryz.func19 rfl rfl rfl (Nat.le_of_ble_eq_true rfl) ?_
  obtain ⟨t1, t2, t3, t4, t5, t6⟩ := tg32 x.tg hx.1
  have km := tmay_ac L O x.f (Nat.le_trans hx.2.1 (by decide))
  have kf := tfind_ac L O hL hI x.f (Nat.le_trans hx.2.1 (by decide))
  have ke := enter_ac L O hL hI x hx hn
  obtain ⟨f, why, r, b, tg⟩ := x
  have hs7 := spl7 (tg := tg) hx.1
  simp only at hw t1 t2 t3 t4 t5 t6 km kf ke
  subst hw
  have hbl : b.length ≤ 1000000 := hx.2.2.1
  simp only [entE, fctE, List.cons_append, List.nil_append] at km ke kf
  rw [trN, errT]
  refine rn1 (jn @tr.eq_1 (jn @tpC.eq_1 (jn @derE.eq_1 (jn @fctE.eq_1 (jn @t1 (jn @t2 (jn @t3 (jn @t4 (jn @t5 (jn @t6 @tA_allD)))))))))) ?_
  refine HO_callX ty_ok [0] (km) (tr_hand _ _ _ _ rfl) (tr_wf _ _) ?_
  rintro v r' ⟨rfl, rfl⟩ _
  by_cases h : chkE f = 0
  · rw [h] at *
    by_cases hr : r < 0
    · refine rn1 (jn @hr (jn @tr.eq_1 (jn @tpC.eq_1 (jn @t1 (jn @t2 (jn @t3 (jn @t4 (jn @t5 (jn @t6 @tA_allD))))))))) ?_
      exact fv1 [0] [] (jn @tr.eq_1 @tpC.eq_1)
    refine rn1 (jn @hr (jn @tr.eq_1 (jn @tpC.eq_1 (jn @t1 (jn @t2 (jn @t3 (jn @t4 (jn @t5 (jn @t6 @tA_allD))))))))) ?_
    refine HO_callX ty_ok [0] (kf) (tr_hand _ _ _ _ rfl) (tr_wf _ _) ?_
    rintro v r' ⟨rfl, rfl⟩ _
    cases hq : hasT L f with
    | true =>
      refine rn1 (jn @tr.eq_1 @tpC.eq_1) ?_
      exact fv1 [0] [] (jn @tr.eq_1 @tpC.eq_1)
    | false =>
      refine rn1 (jn @tr.eq_1 @tpC.eq_1) ?_
      refine HC_loopR (ruSt b) (fun _ => ruRe L O r f b tg) (fun i => i ≤ b.length ∧ (b.take i).all (fun f => hasT L f) = true) (fun i => b.length - i) 0 [0, 1, 2] [] ⟨by omega, rfl⟩ ?_ ?_
      · exact ft1 (jn @ruSt.eq_1 (jn @ruRe.eq_1 (jn @tpC.eq_1 @tA_wf)))
      intro i ⟨hi, hall⟩
      refine HC_of_R ty_ok ?_
      by_cases hlt : i < b.length
      · have hi' : (i : Int) < b.length := by omega
        have hd := flatE_drop fctE_len b i hlt
        have hle := flatE_len fctE_len b
        have hgb := hx.2.2.2 b[i] (List.getElem_mem hlt)
        have kg := tfind_ac L O hL hI b[i] (Nat.le_trans hgb (by decide))
        have ht := bd_take (p := fun f => hasT L f) hlt
        have hno := bd_not (p := fun f => hasT L f) hlt
        rw [hall, Bool.true_and] at ht
        generalize b[i] = g at *
        simp only [fctE, List.cons_append, List.nil_append] at hd kg
        refine rn1 (jn @ruSt.eq_1 (jn @ruRe.eq_1 (jn @tpC.eq_1 (jn @hi' (jn @hd @hle))))) ?_
        (repeat (refine And.intro (by omega) ?_))
        refine HO_callX ty_ok [0] (kg) (tr_hand _ _ _ _ rfl) (tr_wf _ _) ?_
        rintro v r' ⟨rfl, rfl⟩ _
        cases hg : hasT L g with
        | true =>
          refine rn1 (jn @tr.eq_1 @tpC.eq_1) ?_
          (repeat (refine And.intro (by omega) ?_))
          refine ⟨i + 1, ⟨by omega, by rw [ht, hg]⟩, by omega, [0, 1, 2], [], ?_⟩
          exact ft1 (jn @ruSt.eq_1 (jn @ruRe.eq_1 (jn @tpC.eq_1 @tA_wf)))
        | false =>
          have ho : ordT L ⟨f, 2, r, b, tg⟩ = false := hno hg
          rw [ho]
          refine rn1 (jn @tr.eq_1 @tpC.eq_1) ?_
          exact fv1 [0] [] (jn @tr.eq_1 @tpC.eq_1)
      · have hi' : ¬ (i : Int) < b.length := by omega
        have ho : ordT L ⟨f, 2, r, b, tg⟩ = true := by rw [ordT, ← hall, List.take_of_length_le (by omega)]
        rw [ho]
        refine rn1 (jn @ruSt.eq_1 (jn @ruRe.eq_1 (jn @tpC.eq_1 (jn @hi' (jn @hs7 (jn @t1 (jn @t2 (jn @t3 (jn @t4 (jn @t5 (jn @t6 @tA_allD))))))))))) ?_
        refine HO_callX ty_ok [0] (ke) (tr_hand _ _ _ _ rfl) (tr_wf _ _) ?_
        rintro v r' ⟨rfl, rfl⟩ _
        rw [hq]
        refine rn1 (jn @tr.eq_1 @tpC.eq_1) ?_
        exact fv1 [0] [] (jn @tr.eq_1 @tpC.eq_1)
  · refine rn1 (jn @h (jn @tr.eq_1 @tpC.eq_1)) ?_
    exact fv1 [0] [] (jn @tr.eq_1 @tpC.eq_1)
end Go.Proofs.YtdbicadncccpoaaGreat

set_option linter.unusedVariables false
set_option linter.unusedSimpArgs false
set_option maxRecDepth 100000
namespace Go.Proofs.YtdbicadncccpoaaGreat
open Go Go.ChangeShapes Go.WideShapes
/-! trail.Place, Get, New, Len; the statement's Enter. -/
def getT (L : List Ntr) (f : Fct) : Ntr := if hasT L f = true then L.getD (plc L f).toNat zE else zE
theorem tnew_ac : AC Tryz.prog noG 16 [] [] (fun v r' => v = .ptr 0 0 ∧ r' = tr [] []) := by
  refine AC.fit ?_
  refine AC_of_R (N := 3) (res := [.tmp 0]) ty_ok Tryz.call16 Tryz.func16 rfl rfl rfl (Nat.le_of_ble_eq_true rfl) ?_
  refine rn0 ?_
  have h1 : flE [] = [] := rfl
  have h2 : oD [] = [] := rfl
  rw [tr, tpC, h1, h2]
  exact fv0 [0] []
end Go.Proofs.YtdbicadncccpoaaGreat

set_option linter.unusedVariables false
set_option linter.unusedSimpArgs false
set_option maxRecDepth 100000
namespace Go.Proofs.YtdbicadncccpoaaGreat
open Go Go.ChangeShapes Go.WideShapes
/-! A trail that is laid for good: Place and Get of it; and of none. -/
def trP (L : List Ntr) (O : List Nat) : List D := [.sl 39 L.length (flE L), .sl 1 O.length (oD O), .c (.bool true)]
/-- The cell of the closure. -/
def tc (L : List Ntr) (O : List Nat) : Rs := [some (.obj [.d (.p (trP L O))])]
theorem tc_hand (L : List Ntr) (O : List Nat) (rc : Rs) (i : Nat) (hi : rc[i]? = some (some (.obj [.d (.p (trP L O))]))) : HandOK (nm [i] rc.length) rc (tc L O) [i] := by
  refine ⟨fun y h => ?_, trivial⟩
  injection h with h; subst h
  rw [hi]; rfl
theorem tc_wf (L : List Ntr) (O : List Nat) : wfRs (tc L O).length (tc L O) = true := rfl
set_option maxHeartbeats 400000 in
theorem find1D_ac (L : List Ntr) (O : List Nat) (hL : okL L) (k : Nat) (hk : k < L.length) (f : Fct) (hf : f.l.length ≤ 140737488352000) :
    AC Tryz.prog noG 59 [.d (.c (.int .i64 k)), .d (.agg (fctE f)), .ptr 0 0] (tc L O) (fun v r' => v = .d (.c (.int .i64 (ordC (fa L k) f))) ∧ r' = tc L O) := by
  refine AC.fit ?_
  refine AC_of_R (N := 16) (res := [.tmp 5]) ty_ok Tryz.call59 Tryz.func59 rfl rfl rfl (Nat.le_of_ble_eq_true rfl) ?_
  have hk' : (k : Int) < L.length := by omega
  have hd := flE_drop hL k hk
  have hle := flE_len hL
  have hx := hL.2 L[k] (List.getElem_mem hk)
  have hg := ford_ac (fa L k) f (by rw [fa_get hk]; exact Nat.le_trans hx.2.1 (by decide)) hf
  rw [fa_get hk] at hg ⊢
  obtain ⟨t1, t2, t3, t4, t5, t6⟩ := And.intro hx.1 (And.intro (bD_len L[k].tg) (And.intro hx.2.1 (And.intro trivial (And.intro trivial trivial))))
  generalize L[k] = x at *
  simp only [entE, fctE, List.cons_append, List.nil_append] at hd hg
  refine rn1 (jn @tc.eq_1 (jn @trP.eq_1 @fctE.eq_1)) ?_
  refine HC_plan [] ty_ok mix (by kernel_rfl) ?_
  refine rn1 (jn @hk' (jn @hd @hle)) ?_
  (repeat (refine And.intro (by omega) ?_))
  refine HO_pureA ty_ok hg ?_
  refine rn0 ?_
  exact fv1 [0] [] (jn @tc.eq_1 @trP.eq_1)
def bisStD (L : List Ntr) (O : List Nat) (f : Fct) (x : Nat × Nat) : List (Nat × AV) := [(0, .d (.sl 1 O.length (oD O))), (2, .fn (.func 59) [] [.ptr 0 0]), (4, .ptr 1 0), (8, .d (.c (.int .i64 O.length))), (9, .d (.c (.int .i64 x.1))), (10, .d (.c (.int .i64 x.2)))]
def bisReD (L : List Ntr) (O : List Nat) (f : Fct) : Rs := [some (.obj [.d (.p (trP L O))]), some (.obj [.d (.c (.string f.a)), .d (.c (.string f.b)), .d (.c (.string f.p)), .d (.sl 3 f.l.length (flatE cstE f.l))])]
set_option maxHeartbeats 400000 in
theorem bsID_ac (L : List Ntr) (O : List Nat) (hL : okL L) (hI : TInv L O) (f : Fct) (hf : f.l.length ≤ 140737488352000) :
    AC Tryz.prog noG 58 [.d (.sl 1 O.length (oD O)), .d (.agg (fctE f)), .fn (.func 59) [] [.ptr 0 0]] (tc L O) (fun v r' => v = .tup [.d (.c (.int .i64 (posT L O f))), .d (.c (.bool (hasT L f)))] ∧ r' = tc L O) := by
  refine AC.fit ?_
  refine AC_of_R (N := 49) (res := [.tmp 6, .tmp 7]) ty_ok Tryz.call58 Tryz.func58 rfl rfl rfl (Nat.le_of_ble_eq_true rfl) ?_
  have hOl : O.length ≤ 1000000 := by rw [hI.len]; exact hL.1
  have hp := posT_le L O f
  have h1 := posT_lt L O f
  have h2 := hI.ge f
  have hq := hI.found f
  have hlt0 := hI.lt
  generalize posT L O f = p at *
  refine rn1 (jn @tc.eq_1 (jn @trP.eq_1 @fctE.eq_1)) ?_
  refine HC_loopR (bisStD L O f) (fun _ => bisReD L O f) (fun x => x.1 ≤ p ∧ p ≤ x.2 ∧ x.2 ≤ O.length) (fun x => x.2 - x.1) (0, O.length) [0, 1] [] ⟨by simp, hp, by simp⟩ ?_ ?_
  · exact ft1 (jn @bisStD.eq_1 (jn @bisReD.eq_1 @trP.eq_1))
  intro ⟨i, j⟩ ⟨hi1, hi2, hi3⟩
  simp only at hi1 hi2 hi3
  refine HC_of_R ty_ok ?_
  by_cases hij : i < j
  · have hij' : (i : Int) < j := by omega
    obtain ⟨h, hh⟩ : ∃ h : Nat, h = (i + j) / 2 := ⟨_, rfl⟩
    have em : ((i : Int) + (j : Int)) / 2 = (h : Int) := by omega
    have hlt : h < O.length := by omega
    have hlt' : (h : Int) < O.length := by omega
    have hd := oD_get O h hlt
    have hg := find1D_ac L O hL O[h] (hlt0 _ (List.getElem_mem hlt)) f hf
    have k1 := h1 h hlt
    have k2 := h2 h hlt
    generalize ordC (fa L O[h]) f = c at *
    simp only [fctE, List.cons_append, List.nil_append] at hg
    refine rn1 (jn @bisStD.eq_1 (jn @bisReD.eq_1 (jn @trP.eq_1 (jn @hij' @em)))) ?_
    refine HC_plan [] ty_ok mix (by kernel_rfl) ?_
    refine rn1 (jn @hlt' @hd) ?_
    (repeat (refine And.intro (by omega) ?_))
    refine HO_callX ty_ok [0] (hg) (tc_hand _ _ _ _ rfl) (tc_wf _ _) ?_
    rintro v r' ⟨rfl, rfl⟩ _
    by_cases ho : c < 0
    · have hp2 : ¬ p ≤ h := fun hc => absurd (k2 hc) (by omega)
      refine rn1 (jn @tc.eq_1 (jn @trP.eq_1 @ho)) ?_
      (repeat (refine And.intro (by omega) ?_))
      refine ⟨(h + 1, j), ⟨by simp only; omega, by simp only; omega, by simp only; omega⟩, by simp only; omega, [0, 1], [], ?_⟩
      exact ft1 (jn @bisStD.eq_1 (jn @bisReD.eq_1 @trP.eq_1))
    · have hp2 : ¬ h < p := fun hc => ho (k1 hc)
      refine rn1 (jn @tc.eq_1 (jn @trP.eq_1 @ho)) ?_
      (repeat (refine And.intro (by omega) ?_))
      refine ⟨(i, h), ⟨by simp only; omega, by simp only; omega, by simp only; omega⟩, by simp only; omega, [0, 1], [], ?_⟩
      exact ft1 (jn @bisStD.eq_1 (jn @bisReD.eq_1 @trP.eq_1))
  · have hij' : ¬ (i : Int) < j := by omega
    have hip : i = p := by omega
    subst hip
    by_cases hlt : i < O.length
    · have hlt' : (i : Int) < O.length := by omega
      have hd := oD_get O i hlt
      have hg := find1D_ac L O hL O[i] (hlt0 _ (List.getElem_mem hlt)) f hf
      have hq2 : hasT L f = decide (ordC (fa L O[i]) f = 0) := by
        rw [hq]; congr 1
        exact propext ⟨fun ⟨_, h⟩ => h, fun h => ⟨hlt, h⟩⟩
      rw [hq2]
      clear hq h1 h2 hq2
      generalize ordC (fa L O[i]) f = c at *
      simp only [fctE, List.cons_append, List.nil_append] at hg
      refine rn1 (jn @bisStD.eq_1 (jn @bisReD.eq_1 (jn @trP.eq_1 @hij'))) ?_
      refine HC_plan [] ty_ok mix (by kernel_rfl) ?_
      refine rn1 (jn @hlt' @hd) ?_
      (repeat (refine And.intro (by omega) ?_))
      refine HO_callX ty_ok [0] (hg) (tc_hand _ _ _ _ rfl) (tc_wf _ _) ?_
      rintro v r' ⟨rfl, rfl⟩ _
      refine rn1 (jn @tc.eq_1 @trP.eq_1) ?_
      exact fv1 [0] [] (jn @tc.eq_1 @trP.eq_1)
    · have hlt' : ¬ (i : Int) < O.length := by omega
      have hq2 : hasT L f = false := by
        rw [hq, decide_eq_false_iff_not]
        exact fun ⟨h, _⟩ => hlt h
      rw [hq2]
      refine rn1 (jn @bisStD.eq_1 (jn @bisReD.eq_1 (jn @trP.eq_1 @hij'))) ?_
      refine HC_plan [] ty_ok mix (by kernel_rfl) ?_
      refine rn1 @hlt' ?_
      exact fv1 [0] [] (jn @tc.eq_1 @trP.eq_1)
set_option maxHeartbeats 400000 in
theorem tfindD_ac (L : List Ntr) (O : List Nat) (hL : okL L) (hI : TInv L O) (f : Fct) (hf : f.l.length ≤ 140737488352000) :
    AC Tryz.prog noG 37 [.d (.p (trP L O)), .d (.agg (fctE f))] [] (fun v r' => v = .tup [.d (.c (.int .i64 (posT L O f))), .d (.c (.bool (hasT L f)))] ∧ r' = []) := by
  refine AC.fit ?_
  refine AC_of_R (N := 15) (res := [.tmp 4, .tmp 5]) ty_ok Tryz.call37 Tryz.func37 rfl rfl rfl (Nat.le_of_ble_eq_true rfl) ?_
  have hg := bsID_ac L O hL hI f hf
  simp only [fctE, List.cons_append, List.nil_append] at hg
  refine rn1 (jn @trP.eq_1 @fctE.eq_1) ?_
  refine HC_plan [] ty_ok mix (by kernel_rfl) ?_
  refine rn0 ?_
  refine HO_callX ty_ok [0] hg (tc_hand _ _ _ _ rfl) (tc_wf _ _) ?_
  rintro v r' ⟨rfl, rfl⟩ _
  refine rn1 (jn @tc.eq_1 @trP.eq_1) ?_
  exact fv1 [] [] (jn @tc.eq_1 @trP.eq_1)
theorem tnoneD_ac (L : List Ntr) (O : List Nat) : AC Tryz.prog noG 54 [.d (.p (trP L O))] [] (fun v r' => v = .d (.c (.bool false)) ∧ r' = []) := by
  refine AC_of_R (N := 12) (res := [.tmp 2]) ty_ok Tryz.call54 Tryz.func54 rfl rfl rfl (Nat.le_of_ble_eq_true rfl) ?_
  exact rz1 @trP.eq_1
theorem tnoneN_ac : AC Tryz.prog noG 54 [.d (.c (.pointer none))] [] (fun v r' => v = .d (.c (.bool true)) ∧ r' = []) := by
  refine AC_of_R (N := 12) (res := [.tmp 2]) ty_ok Tryz.call54 Tryz.func54 rfl rfl rfl (Nat.le_of_ble_eq_true rfl) ?_
  exact rz0
set_option maxHeartbeats 400000 in
theorem tplaceD_ac (L : List Ntr) (O : List Nat) (hL : okL L) (hI : TInv L O) (f : Fct) (hf : f.l.length ≤ 140737488352000) :
    AC Tryz.prog noG 99 [.d (.p (trP L O)), .d (.agg (fctE f))] [] (fun v r' => v = .d (.c (.int .i64 (plc L f))) ∧ r' = []) := by
  refine AC.fit ?_
  refine AC_of_R (N := 24) (res := [.tmp 4]) ty_ok Tryz.call99 Tryz.func99 rfl rfl rfl (Nat.le_of_ble_eq_true rfl) ?_
  have kf := tfindD_ac L O hL hI f hf
  have kn := tnoneD_ac L O
  have hno := plc_none (L := L) (f := f)
  have hye := hI.place (f := f)
  simp only [fctE, List.cons_append, List.nil_append] at kf
  refine rn1 @fctE.eq_1 ?_
  refine HO_pureA ty_ok kn ?_
  refine rn0 ?_
  refine HO_pureA ty_ok kf ?_
  cases hq : hasT L f with
  | false =>
    rw [hno hq]
    refine rn0 ?_
    exact fv0 [] []
  | true =>
    obtain ⟨hp, h1, hk, h2⟩ := hye hq
    have hp' : (posT L O f : Int) < O.length := by omega
    have hd := oD_get O (posT L O f) hp
    rw [h1]
    generalize posT L O f = p at *
    refine rn1 (jn @trP.eq_1 (jn @hp' @hd)) ?_
    (repeat (refine And.intro (by omega) ?_))
    exact fv1 [] [] @trP.eq_1
theorem tplaceN_ac (f : Fct) :
    AC Tryz.prog noG 99 [.d (.c (.pointer none)), .d (.agg (fctE f))] [] (fun v r' => v = .d (.c (.int .i64 (-1))) ∧ r' = []) := by
  refine AC.fit ?_
  refine AC_of_R (N := 24) (res := [.tmp 4]) ty_ok Tryz.call99 Tryz.func99 rfl rfl rfl (Nat.le_of_ble_eq_true rfl) ?_
  refine rn1 @fctE.eq_1 ?_
  refine HO_pureA ty_ok tnoneN_ac ?_
  refine rn0 ?_
  exact fv0 [] []
set_option maxHeartbeats 400000 in
theorem tgetD_ac (L : List Ntr) (O : List Nat) (hL : okL L) (hI : TInv L O) (f : Fct) (hf : f.l.length ≤ 140737488352000) :
    AC Tryz.prog noG 85 [.d (.p (trP L O)), .d (.agg (fctE f))] [] (fun v r' => v = .tup [.d (.agg (entE (getT L f))), .d (.c (.bool (hasT L f)))] ∧ r' = []) := by
  refine AC.fit ?_
  refine AC_of_R (N := 21) (res := [.cell 4 43, .tmp 5]) ty_ok Tryz.call85 Tryz.func85 rfl rfl rfl (Nat.le_of_ble_eq_true rfl) ?_
  have hz : ([UInt8.ofNat 0, UInt8.ofNat 0, UInt8.ofNat 0, UInt8.ofNat 0, UInt8.ofNat 0, UInt8.ofNat 0, UInt8.ofNat 0, UInt8.ofNat 0, UInt8.ofNat 0, UInt8.ofNat 0, UInt8.ofNat 0, UInt8.ofNat 0, UInt8.ofNat 0, UInt8.ofNat 0, UInt8.ofNat 0, UInt8.ofNat 0, UInt8.ofNat 0, UInt8.ofNat 0, UInt8.ofNat 0, UInt8.ofNat 0, UInt8.ofNat 0, UInt8.ofNat 0, UInt8.ofNat 0, UInt8.ofNat 0, UInt8.ofNat 0, UInt8.ofNat 0, UInt8.ofNat 0, UInt8.ofNat 0, UInt8.ofNat 0, UInt8.ofNat 0, UInt8.ofNat 0, UInt8.ofNat 0] : List UInt8) = tgz := rfl
  obtain ⟨z1, z2, z3, z4, z5, z6⟩ := tg32 tgz rfl
  have z7 : (tA tgz).drop 32 = [] := List.drop_of_length_le (by omega)
  have kf := tplaceD_ac L O hL hI f hf
  have hno := plc_none (L := L) (f := f)
  have hye := hI.place (f := f)
  simp only [fctE, List.cons_append, List.nil_append] at kf
  refine rn1 (jn @fctE.eq_1 (jn @hz (jn @z1 (jn @z2 (jn @z3 (jn @z4 (jn @z5 (jn @z6 @tA_allD)))))))) ?_
  refine HO_pureA ty_ok kf ?_
  cases hq : hasT L f with
  | false =>
    have hg : getT L f = zE := by rw [getT, hq]; rfl
    rw [hno hq, hg]
    refine rn1 (jn @hz (jn @z1 (jn @z2 (jn @z3 (jn @z4 (jn @z5 (jn @z6 @tA_allD))))))) ?_
    have hz9 : (List.replicate 32 (0 : UInt8)) = tgz := rfl
    simp only [entE, fctE, zE, zE.zF0, flatE_nil, List.cons_append, List.nil_append, List.length_nil]
    rw [hz9]
    exact fv0 [] []
  | true =>
    obtain ⟨hp, h1, hk, h2⟩ := hye hq
    have hg : getT L f = L[O[posT L O f]] := by
      rw [getT, hq, if_pos rfl, h1, Int.toNat_natCast, List.getD_eq_getElem?_getD, List.getElem?_eq_getElem hk]; rfl
    rw [hg, h1]
    generalize O[posT L O f] = k at *
    have hd := flE_drop hL k hk
    have hle := flE_len hL
    have hx := hL.2 L[k] (List.getElem_mem hk)
    have hk' : (k : Int) < L.length := by omega
    have ko := own_ac L[k] hx
    generalize L[k] = x at *
    obtain ⟨t1, t2, t3, t4, t5, t6⟩ := tg32 x.tg hx.1
    simp only [entE, fctE, List.cons_append, List.nil_append] at hd ko
    have htk : (bD x.tg ++ flE (L.drop (k + 1))).take 32 = bD x.tg := by rw [← t2]; exact List.take_left
    refine rn1 (jn @trP.eq_1 (jn @hk' (jn @hd (jn @hle (jn @htk (jn @t1 (jn @t2 (jn @t3 (jn @t4 (jn @t5 @t6)))))))))) ?_
    (repeat (refine And.intro (by omega) ?_))
    refine HO_pureA ty_ok ko ?_
    refine rn1 (jn @t1 (jn @t2 (jn @t3 (jn @t4 (jn @t5 (jn @t6 (jn @z7 @tA_allD))))))) ?_
    (repeat (refine And.intro (by omega) ?_))
    simp only [entE, fctE, List.cons_append, List.nil_append]
    exact fv1 [] [] @trP.eq_1
set_option maxHeartbeats 400000 in
theorem tgetN_ac (f : Fct) :
    AC Tryz.prog noG 85 [.d (.c (.pointer none)), .d (.agg (fctE f))] [] (fun v r' => v = .tup [.d (.agg (entE zE)), .d (.c (.bool false))] ∧ r' = []) := by
  refine AC.fit ?_
  refine AC_of_R (N := 21) (res := [.cell 4 43, .tmp 5]) ty_ok Tryz.call85 Tryz.func85 rfl rfl rfl (Nat.le_of_ble_eq_true rfl) ?_
  have hz : ([UInt8.ofNat 0, UInt8.ofNat 0, UInt8.ofNat 0, UInt8.ofNat 0, UInt8.ofNat 0, UInt8.ofNat 0, UInt8.ofNat 0, UInt8.ofNat 0, UInt8.ofNat 0, UInt8.ofNat 0, UInt8.ofNat 0, UInt8.ofNat 0, UInt8.ofNat 0, UInt8.ofNat 0, UInt8.ofNat 0, UInt8.ofNat 0, UInt8.ofNat 0, UInt8.ofNat 0, UInt8.ofNat 0, UInt8.ofNat 0, UInt8.ofNat 0, UInt8.ofNat 0, UInt8.ofNat 0, UInt8.ofNat 0, UInt8.ofNat 0, UInt8.ofNat 0, UInt8.ofNat 0, UInt8.ofNat 0, UInt8.ofNat 0, UInt8.ofNat 0, UInt8.ofNat 0, UInt8.ofNat 0] : List UInt8) = tgz := rfl
  obtain ⟨z1, z2, z3, z4, z5, z6⟩ := tg32 tgz rfl
  have z7 : (tA tgz).drop 32 = [] := List.drop_of_length_le (by omega)
  have kf := tplaceN_ac f
  simp only [fctE, List.cons_append, List.nil_append] at kf
  refine rn1 (jn @fctE.eq_1 (jn @hz (jn @z1 (jn @z2 (jn @z3 (jn @z4 (jn @z5 (jn @z6 @tA_allD)))))))) ?_
  refine HO_pureA ty_ok kf ?_
  refine rn1 (jn @hz (jn @z1 (jn @z2 (jn @z3 (jn @z4 (jn @z5 (jn @z6 @tA_allD))))))) ?_
  have hz9 : (List.replicate 32 (0 : UInt8)) = tgz := rfl
  simp only [entE, fctE, zE, zE.zF0, flatE_nil, List.cons_append, List.nil_append, List.length_nil]
  rw [hz9]
  exact fv0 [] []
end Go.Proofs.YtdbicadncccpoaaGreat

set_option linter.unusedVariables false
set_option linter.unusedSimpArgs false
set_option maxRecDepth 100000
namespace Go.Proofs.YtdbicadncccpoaaGreat
open Go Go.ChangeShapes Go.WideShapes
/-! cert: the sources, and whose trail is whose. -/
structure Srce where
  who : ByteArray
  t : Option (List Ntr × List Nat)
def ptE : Option (List Ntr × List Nat) → D
  | none => .c (.pointer none)
  | some (L, O) => .p (trP L O)
def srcE (s : Srce) : List D := [.c (.string s.who), ptE s.t]
theorem srcE_len (s : Srce) : (srcE s).length = 2 := rfl
def okP : Option (List Ntr × List Nat) → Prop
  | none => True
  | some (L, O) => okL L ∧ TInv L O
def okS (S : List Srce) : Prop := S.length ≤ 1000000 ∧ ∀ s ∈ S, okP s.t
def hasP (p : Option (List Ntr × List Nat)) (f : Fct) : Bool := match p with
  | none => false
  | some (L, _) => hasT L f
def getP (p : Option (List Ntr × List Nat)) (f : Fct) : Ntr := match p with
  | none => zE
  | some (L, _) => getT L f
def idxF (who : ByteArray) : List Srce → Nat → Int
  | [], _ => -1
  | s :: l, i => if s.who = who then (i : Int) else idxF who l (i + 1)
def srcT (who : ByteArray) : List Srce → Option (List Ntr × List Nat)
  | [] => none
  | s :: l => if s.who = who then s.t else srcT who l
theorem idx_src (who : ByteArray) : ∀ (S : List Srce) (i : Nat), (idxF who S i = -1 ∧ srcT who S = none) ∨ ∃ k, ∃ h : k < S.length, idxF who S i = ((i + k : Nat) : Int) ∧ srcT who S = S[k].t
  | [], i => .inl ⟨rfl, rfl⟩
  | s :: l, i => by
    by_cases h : s.who = who
    · refine .inr ⟨0, by simp, ?_, ?_⟩
      · rw [idxF, if_pos h]; simp
      · rw [srcT, if_pos h]; rfl
    · rcases idx_src who l (i + 1) with ⟨h1, h2⟩ | ⟨k, hk, h1, h2⟩
      · exact .inl ⟨by rw [idxF, if_neg h, h1], by rw [srcT, if_neg h, h2]⟩
      · refine .inr ⟨k + 1, by simp; omega, ?_, ?_⟩
        · rw [idxF, if_neg h, h1]; congr 1; omega
        · rw [srcT, if_neg h, h2]; rfl
theorem okS_src {S : List Srce} (h : okS S) (who : ByteArray) : okP (srcT who S) := by
  rcases idx_src who S 0 with ⟨_, h2⟩ | ⟨k, hk, _, h2⟩
  · rw [h2]; trivial
  · rw [h2]; exact h.2 _ (List.getElem_mem hk)
theorem okE_z : okE zE := ⟨rfl, by simp [zE, zE.zF0], by simp [zE]⟩
theorem okE_getT {L : List Ntr} (h : okL L) (f : Fct) : okE (getT L f) := by
  rw [getT]
  split
  · rw [List.getD_eq_getElem?_getD]
    rcases Nat.lt_or_ge (plc L f).toNat L.length with h1 | h1
    · rw [List.getElem?_eq_getElem h1]; exact h.2 _ (List.getElem_mem h1)
    · rw [List.getElem?_eq_none h1]; exact okE_z
  · exact okE_z
theorem okE_getP {p : Option (List Ntr × List Nat)} (h : okP p) (f : Fct) : okE (getP p f) := by
  cases p with
  | none => exact okE_z
  | some q => obtain ⟨L, O⟩ := q; exact okE_getT h.1 f
theorem getS_ac (p : Option (List Ntr × List Nat)) (hp : okP p) (f : Fct) (hf : f.l.length ≤ 140737488352000) :
    AC Tryz.prog noG 85 [.d (ptE p), .d (.agg (fctE f))] [] (fun v r' => v = .tup [.d (.agg (entE (getP p f))), .d (.c (.bool (hasP p f)))] ∧ r' = []) := by
  cases p with
  | none => exact tgetN_ac f
  | some q => obtain ⟨L, O⟩ := q; exact tgetD_ac L O hp.1 hp.2 f hf
/-! The search. -/
def wR (who : ByteArray) : Rs := [some (.obj [.d (.c (.string who))])]
theorem wR_hand (who : ByteArray) (rc : Rs) (i : Nat) (hi : rc[i]? = some (some (.obj [.d (.c (.string who))]))) : HandOK (nm [i] rc.length) rc (wR who) [i] := by
  refine ⟨fun y h => ?_, trivial⟩
  injection h with h; subst h
  rw [hi]; rfl
theorem wR_wf (who : ByteArray) : wfRs (wR who).length (wR who) = true := rfl
theorem of1_ac (s : Srce) (who : ByteArray) : AC Tryz.prog noG 98 [.d (.agg (srcE s)), .ptr 0 0] (wR who) (fun v r' => v = .d (.c (.bool (decide (s.who = who)))) ∧ r' = wR who) := by
  refine AC.fit ?_
  refine AC_of_R (N := 8) (res := [.tmp 3]) ty_ok Tryz.call98 Tryz.func98 rfl rfl rfl (Nat.le_of_ble_eq_true rfl) ?_
  refine rn1 (jn @wR.eq_1 @srcE.eq_1) ?_
  exact fv1 [0] [] @wR.eq_1
def csSt (S : List Srce) (i : Nat) : List (Nat × AV) := [(0, .d (.sl 2 S.length (flatE srcE S))), (1, .fn (.func 98) [] [.ptr 0 0]), (7, .d (.c (.int .i64 S.length))), (8, .d (.c (.int .i64 i)))]
theorem index_ac (S : List Srce) (hS : S.length ≤ 1000000) (who : ByteArray) : AC Tryz.prog noG 97 [.d (.sl 2 S.length (flatE srcE S)), .fn (.func 98) [] [.ptr 0 0]] (wR who) (fun v r' => v = .d (.c (.int .i64 (idxF who S 0))) ∧ r' = wR who) := by
  refine AC.fit ?_
  refine AC_of_R (N := 19) (res := [.tmp 4]) ty_ok Tryz.call97 Tryz.func97 rfl rfl rfl (Nat.le_of_ble_eq_true rfl) ?_
  refine rn1 @wR.eq_1 ?_
  refine HC_loopR (fun i : Nat => csSt S i) (fun _ => wR who) (fun i => i ≤ S.length ∧ idxF who (S.drop i) i = idxF who S 0) (fun i => S.length - i) 0 [0] [] ⟨by omega, by rw [List.drop_zero]⟩ ?_ ?_
  · exact ft1 (jn @csSt.eq_1 @wR.eq_1)
  intro i ⟨hi1, hi2⟩
  refine HC_of_R ty_ok ?_
  by_cases hlt : i < S.length
  · have hi : (i : Int) < S.length := by omega
    have hd := flatE_drop srcE_len S i hlt
    have hle := flatE_len srcE_len S
    rw [List.drop_eq_getElem_cons hlt, idxF] at hi2
    have hk := of1_ac S[i] who
    generalize S[i] = s at *
    simp only [srcE, List.cons_append, List.nil_append] at hd hk
    refine rn1 (jn @csSt.eq_1 (jn @wR.eq_1 (jn @hi (jn @hd @hle)))) ?_
    (repeat (refine And.intro (by omega) ?_))
    refine HO_callX ty_ok [0] hk (wR_hand _ _ _ rfl) (wR_wf _) ?_
    rintro v r' ⟨rfl, rfl⟩ _
    by_cases hq : s.who = who
    · rw [if_pos hq] at hi2
      rw [← hi2]
      refine rn1 (jn @hq @wR.eq_1) ?_
      exact fv1 [0] [] @wR.eq_1
    · rw [if_neg hq] at hi2
      refine rn1 (jn @hq @wR.eq_1) ?_
      (repeat (refine And.intro (by omega) ?_))
      refine ⟨i + 1, ⟨by omega, hi2⟩, by omega, [0], [], ?_⟩
      exact ft1 (jn @csSt.eq_1 @wR.eq_1)
  · have hi : ¬ (i : Int) < S.length := by omega
    rw [List.drop_of_length_le (by omega), idxF] at hi2
    rw [← hi2]
    refine rn1 (jn @csSt.eq_1 (jn @wR.eq_1 @hi)) ?_
    exact fv1 [0] [] @wR.eq_1
/-! The maker's rows, with nothing done, and with something. -/
def R0 (S : List Srce) (n : Nat) (l : List D) (t : Nat) : Rs := [some (.obj [.d (.sl 2 S.length (flatE srcE S)), .sl (.own 2) 39 n l, .d (.c (.slice none 0 0))]), none, some (.tok t)]
def R1 (S : List Srce) (n : Nat) (l : List D) (t m c : Nat) (ds : List D) : Rs := [some (.obj [.d (.sl 2 S.length (flatE srcE S)), .sl (.own 2) 39 n l, .csl 1 0 4 m c]), some (.obj (ds.map .d)), some (.tok t)]
theorem R0_hand (S : List Srce) (n : Nat) (l : List D) (t : Nat) (rc : Rs) (i j k : Nat) (hi : rc[i]? = some (some (.obj [.d (.sl 2 S.length (flatE srcE S)), .sl (.own k) 39 n l, .d (.c (.slice none 0 0))]))) (hk : rc[k]? = some (some (.tok t))) : HandOK (nm [i, j, k] rc.length) rc (R0 S n l t) [i, j, k] := by
  refine ⟨fun y h => ?_, fun y h => ?_, fun y h => ?_, trivial⟩
  · injection h with h; subst h
    rw [hi]; rfl
  · cases h
  · injection h with h; subst h
    rw [hk]; rfl
theorem R1_hand (S : List Srce) (n : Nat) (l : List D) (t m c : Nat) (ds : List D) (rc : Rs) (i j k : Nat) (hi : rc[i]? = some (some (.obj [.d (.sl 2 S.length (flatE srcE S)), .sl (.own k) 39 n l, .csl j 0 4 m c]))) (hj : rc[j]? = some (some (.obj (ds.map .d)))) (hk : rc[k]? = some (some (.tok t))) : HandOK (nm [i, j, k] rc.length) rc (R1 S n l t m c ds) [i, j, k] := by
  refine ⟨fun y h => ?_, fun y h => ?_, fun y h => ?_, trivial⟩
  · injection h with h; subst h
    rw [hi]; rfl
  · injection h with h; subst h
    rw [hj, renRes, renL_map_d]
  · injection h with h; subst h
    rw [hk]; rfl
theorem R0_wf (S : List Srce) (n : Nat) (l : List D) (t : Nat) : wfRs (R0 S n l t).length (R0 S n l t) = true := rfl
theorem R1_wf (S : List Srce) (n : Nat) (l : List D) (t m c : Nat) (ds : List D) : wfRs (R1 S n l t m c ds).length (R1 S n l t m c ds) = true := by
  simp only [R1, wfRs, wfL_map_d, wfL, wfA, wfM, List.length_cons, List.length_nil, Bool.and_true]; rfl
theorem of0_ac (S : List Srce) (hS : okS S) (who : ByteArray) (n : Nat) (l : List D) (t : Nat) : AC Tryz.prog noG 84 [.ptr 0 0, .d (.c (.string who))] (R0 S n l t) (fun v r' => v = .d (ptE (srcT who S)) ∧ r' = R0 S n l t) := by
  skip
  refine AC.fit ?_
  refine AC_of_R (N := 22) (res := [.tmp 4]) ty_ok Tryz.call84 Tryz.func84 rfl rfl rfl (Nat.le_of_ble_eq_true rfl) ?_
  have hk := index_ac S hS.1 who
  have hix := idx_src who S 0
  generalize idxF who S 0 = x at *
  refine rn1 @R0.eq_1 ?_
  refine HO_callX ty_ok [3] hk (wR_hand _ _ _ rfl) (wR_wf _) ?_
  rintro v r' ⟨rfl, rfl⟩ _
  rcases hix with ⟨rfl, h2⟩ | ⟨k, hlt, rfl, h2⟩
  · rw [h2]
    refine rn1 (jn @wR.eq_1 (jn @ptE.eq_1 (jn @ptE.eq_2 @renL_map_d))) ?_
    exact fv1 [0,1,2] [] (jn @wR.eq_1 (jn @R0.eq_1 @wfL_map_d))
  · rw [h2]
    have hd := flatE_drop srcE_len S k hlt
    have hle := flatE_len srcE_len S
    have hi : (k : Int) < S.length := by omega
    have hi0 : ¬ (k : Int) < 0 := by omega
    rw [Nat.zero_add]
    generalize S[k] = s at *
    simp only [srcE, List.cons_append, List.nil_append] at hd
    refine rn1 (jn @wR.eq_1 (jn @hi (jn @hi0 (jn @hd (jn @hle @renL_map_d))))) ?_
    (repeat (refine And.intro (by omega) ?_))
    exact fv1 [0,1,2] [] (jn @wR.eq_1 (jn @R0.eq_1 @wfL_map_d))
theorem of_ac (S : List Srce) (hS : okS S) (who : ByteArray) (n : Nat) (l : List D) (t m c : Nat) (ds : List D) : AC Tryz.prog noG 84 [.ptr 0 0, .d (.c (.string who))] (R1 S n l t m c ds) (fun v r' => v = .d (ptE (srcT who S)) ∧ r' = R1 S n l t m c ds) := by
  skip
  refine AC.fit ?_
  refine AC_of_R (N := 22) (res := [.tmp 4]) ty_ok Tryz.call84 Tryz.func84 rfl rfl rfl (Nat.le_of_ble_eq_true rfl) ?_
  have hk := index_ac S hS.1 who
  have hix := idx_src who S 0
  generalize idxF who S 0 = x at *
  refine rn1 @R1.eq_1 ?_
  refine HO_callX ty_ok [3] hk (wR_hand _ _ _ rfl) (wR_wf _) ?_
  rintro v r' ⟨rfl, rfl⟩ _
  rcases hix with ⟨rfl, h2⟩ | ⟨k, hlt, rfl, h2⟩
  · rw [h2]
    refine rn1 (jn @wR.eq_1 (jn @ptE.eq_1 (jn @ptE.eq_2 @renL_map_d))) ?_
    exact fv1 [0,1,2] [] (jn @wR.eq_1 (jn @R1.eq_1 @wfL_map_d))
  · rw [h2]
    have hd := flatE_drop srcE_len S k hlt
    have hle := flatE_len srcE_len S
    have hi : (k : Int) < S.length := by omega
    have hi0 : ¬ (k : Int) < 0 := by omega
    rw [Nat.zero_add]
    generalize S[k] = s at *
    simp only [srcE, List.cons_append, List.nil_append] at hd
    refine rn1 (jn @wR.eq_1 (jn @hi (jn @hi0 (jn @hd (jn @hle @renL_map_d))))) ?_
    (repeat (refine And.intro (by omega) ?_))
    exact fv1 [0,1,2] [] (jn @wR.eq_1 (jn @R1.eq_1 @wfL_map_d))
end Go.Proofs.YtdbicadncccpoaaGreat
