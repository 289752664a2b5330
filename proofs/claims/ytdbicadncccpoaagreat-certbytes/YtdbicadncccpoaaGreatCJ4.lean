/- Parts of the proof: TFind, LayR, Dig, TOwn, TEnter. -/
import Derived.Test.YtdbicadncccpoaaGreatCJ3
import Derived.Test.YtdbicadncccpoaaGreatCJ0
set_option linter.unusedVariables false
set_option linter.unusedSimpArgs false
set_option maxRecDepth 100000
namespace Go.Proofs.YtdbicadncccpoaaGreat
open Go Go.ChangeShapes Go.WideShapes
/-! trail: what finds a fact's place. -/
theorem entE_len {x : Ntr} (h : x.tg.length = 32) : (entE x).length = 39 := by simp [entE, fctE, bD, h]
/-- Entries as a program can hold them. -/
def okE (x : Ntr) : Prop := x.tg.length = 32 ∧ x.f.l.length ≤ 1000000 ∧ (x.body.length ≤ 1000000 ∧ ∀ f ∈ x.body, f.l.length ≤ 1000000)
def okL (L : List Ntr) : Prop := L.length ≤ 1000000 ∧ ∀ x ∈ L, okE x
def flE (L : List Ntr) : List D := flatE entE L
theorem flE_len {L : List Ntr} (h : okL L) : (flE L).length = 39 * L.length := by
  have key : ∀ l : List Ntr, (∀ x ∈ l, okE x) → (flatE entE l).length = 39 * l.length := by
    intro l
    induction l with
    | nil => intro _; rfl
    | cons a l ih =>
      intro h
      rw [flatE_cons, List.length_append, entE_len (h a (by simp)).1, ih (fun x hx => h x (List.mem_cons_of_mem _ hx)), List.length_cons]; omega
  exact key L h.2
theorem flE_drop {L : List Ntr} (h : okL L) (i : Nat) (hi : i < L.length) : (flE L).drop (i * 39) = entE L[i] ++ flE (L.drop (i + 1)) := by
  have key : ∀ (l : List Ntr) (i : Nat) (hi : i < l.length), (∀ x ∈ l, okE x) → (flatE entE l).drop (i * 39) = entE l[i] ++ flatE entE (l.drop (i + 1)) := by
    intro l
    induction l with
    | nil => intro i hi; simp at hi
    | cons a l ih =>
      intro i hi h
      have ha := entE_len (h a (by simp)).1
      cases i with
      | zero => rw [flatE_cons]; simp
      | succ i =>
        rw [flatE_cons, show (i + 1) * 39 = 39 + i * 39 by omega, ← List.drop_drop, ← ha, List.drop_left, ha, ih i (by simpa using hi) (fun x hx => h x (List.mem_cons_of_mem _ hx))]
        simp
  exact key L i hi h.2
def oD (O : List Nat) : List D := O.map fun n : Nat => D.c (.int .i64 (n : Int))
theorem oD_len (O : List Nat) : (oD O).length = O.length := List.length_map ..
theorem oD_get (O : List Nat) (i : Nat) (h : i < O.length) : ((oD O).drop i)[0]? = some (.c (.int .i64 (O[i] : Int))) := by rw [List.getElem?_drop, Nat.add_zero, oD, List.getElem?_map, List.getElem?_eq_getElem h]; rfl
def tpC (L : List Ntr) (O : List Nat) : List AV := [.d (.sl 39 L.length (flE L)), .d (.sl 1 O.length (oD O)), .d (.c (.bool true))]
/-- A trail's row. -/
def tr (L : List Ntr) (O : List Nat) : Rs := [some (.obj (tpC L O))]
theorem tr_hand (L : List Ntr) (O : List Nat) (rc : Rs) (i : Nat) (hi : rc[i]? = some (some (.obj (tpC L O)))) : HandOK (nm [i] rc.length) rc (tr L O) [i] := by
  refine ⟨fun y h => ?_, trivial⟩
  injection h with h; subst h
  rw [hi]; rfl
theorem tr_wf (L : List Ntr) (O : List Nat) : wfRs (tr L O).length (tr L O) = true := rfl
/-- .. behind the closure's cell. -/
def tb (L : List Ntr) (O : List Nat) : Rs := [some (.obj [.ptr 1 0]), some (.obj (tpC L O))]
theorem tb_hand (L : List Ntr) (O : List Nat) (rc : Rs) (i j : Nat) (hi : rc[i]? = some (some (.obj [.ptr j 0]))) (hj : rc[j]? = some (some (.obj (tpC L O)))) : HandOK (nm [i, j] rc.length) rc (tb L O) [i, j] := by
  refine ⟨fun y h => ?_, fun y h => ?_, trivial⟩
  · injection h with h; subst h
    rw [hi]; rfl
  · injection h with h; subst h
    rw [hj]; rfl
theorem tb_wf (L : List Ntr) (O : List Nat) : wfRs (tb L O).length (tb L O) = true := rfl
set_option maxHeartbeats 400000 in
theorem find1_ac (L : List Ntr) (O : List Nat) (hL : okL L) (k : Nat) (hk : k < L.length) (f : Fct) (hf : f.l.length ≤ 140737488352000) :
    AC Tryz.prog noG 59 [.d (.c (.int .i64 k)), .d (.agg (fctE f)), .ptr 0 0] (tb L O) (fun v r' => v = .d (.c (.int .i64 (ordC (fa L k) f))) ∧ r' = tb L O) := by
  refine AC.fit ?_
  refine AC_of_R (N := 16) (res := [.tmp 5]) ty_ok Tryz.call59 Tryz.func59 rfl rfl rfl (Nat.le_of_ble_eq_true rfl) ?_
  have hk' : (k : Int) < L.length := by omega
  have hd := flE_drop hL k hk
  have hle := flE_len hL
  have hx := hL.2 L[k] (List.getElem_mem hk)
  have hg := ford_ac (fa L k) f (by rw [fa_get hk]; exact Nat.le_trans hx.2.1 (by decide)) hf
  rw [fa_get hk] at hg ⊢
  obtain ⟨t1, t2, t3, t4, t5, t6⟩ := And.intro hx.1 (And.intro (bD_len L[k].tg) (And.intro hx.2.1 (And.intro trivial (And.intro trivial trivial))))
  generalize L[k] = x at *
  simp only [entE, fctE, List.cons_append, List.nil_append] at hd hg
  refine rn1 (jn @tb.eq_1 (jn @tpC.eq_1 @fctE.eq_1)) ?_
  refine HC_plan [] ty_ok mix (by kernel_rfl) ?_
  refine rn1 (jn @hk' (jn @hd @hle)) ?_
  (repeat (refine And.intro (by omega) ?_))
  refine HO_pureA ty_ok hg ?_
  refine rn0 ?_
  exact fv1 [0,1] [] (jn @tb.eq_1 @tpC.eq_1)
def bisSt (L : List Ntr) (O : List Nat) (f : Fct) (x : Nat × Nat) : List (Nat × AV) := [(0, .d (.sl 1 O.length (oD O))), (2, .fn (.func 59) [] [.ptr 0 0]), (4, .ptr 2 0), (8, .d (.c (.int .i64 O.length))), (9, .d (.c (.int .i64 x.1))), (10, .d (.c (.int .i64 x.2)))]
def bisRe (L : List Ntr) (O : List Nat) (f : Fct) : Rs := [some (.obj [.ptr 1 0]), some (.obj (tpC L O)), some (.obj [.d (.c (.string f.a)), .d (.c (.string f.b)), .d (.c (.string f.p)), .d (.sl 3 f.l.length (flatE cstE f.l))])]
set_option maxHeartbeats 400000 in
theorem bsI_ac (L : List Ntr) (O : List Nat) (hL : okL L) (hI : TInv L O) (f : Fct) (hf : f.l.length ≤ 140737488352000) :
    AC Tryz.prog noG 58 [.d (.sl 1 O.length (oD O)), .d (.agg (fctE f)), .fn (.func 59) [] [.ptr 0 0]] (tb L O) (fun v r' => v = .tup [.d (.c (.int .i64 (posT L O f))), .d (.c (.bool (hasT L f)))] ∧ r' = tb L O) := by
  refine AC.fit ?_
  refine AC_of_R (N := 49) (res := [.tmp 6, .tmp 7]) ty_ok Tryz.call58 Tryz.func58 rfl rfl rfl (Nat.le_of_ble_eq_true rfl) ?_
  have hOl : O.length ≤ 1000000 := by rw [hI.len]; exact hL.1
  have hp := posT_le L O f
  have h1 := posT_lt L O f
  have h2 := hI.ge f
  have hq := hI.found f
  have hlt0 := hI.lt
  generalize posT L O f = p at *
  refine rn1 (jn @tb.eq_1 (jn @tpC.eq_1 @fctE.eq_1)) ?_
  refine HC_loopR (bisSt L O f) (fun _ => bisRe L O f) (fun x => x.1 ≤ p ∧ p ≤ x.2 ∧ x.2 ≤ O.length) (fun x => x.2 - x.1) (0, O.length) [0, 1, 2] [] ⟨by simp, hp, by simp⟩ ?_ ?_
  · exact ft1 (jn @bisSt.eq_1 (jn @bisRe.eq_1 @tpC.eq_1))
  intro ⟨i, j⟩ ⟨hi1, hi2, hi3⟩
  simp only at hi1 hi2 hi3
  refine HC_of_R ty_ok ?_
  by_cases hij : i < j
  · have hij' : (i : Int) < j := by omega
    obtain ⟨h, hh⟩ : ∃ h : Nat, h = (i + j) / 2 := ⟨_, rfl⟩
    have em : ((i : Int) + (j : Int)) / 2 = (h : Int) := by omega
    have hlt : h < O.length := by omega
    have hlt' : (h : Int) < O.length := by omega
    have hd := oD_get O h hlt
    have hg := find1_ac L O hL O[h] (hlt0 _ (List.getElem_mem hlt)) f hf
    have k1 := h1 h hlt
    have k2 := h2 h hlt
    generalize ordC (fa L O[h]) f = c at *
    simp only [fctE, List.cons_append, List.nil_append] at hg
    refine rn1 (jn @bisSt.eq_1 (jn @bisRe.eq_1 (jn @tpC.eq_1 (jn @hij' @em)))) ?_
    refine HC_plan [] ty_ok mix (by kernel_rfl) ?_
    refine rn1 (jn @hlt' @hd) ?_
    (repeat (refine And.intro (by omega) ?_))
    refine HO_callX ty_ok [0, 1] (hg) (tb_hand _ _ _ _ _ rfl rfl) (tb_wf _ _) ?_
    rintro v r' ⟨rfl, rfl⟩ _
    by_cases ho : c < 0
    · have hp2 : ¬ p ≤ h := fun hc => absurd (k2 hc) (by omega)
      refine rn1 (jn @tb.eq_1 (jn @tpC.eq_1 @ho)) ?_
      (repeat (refine And.intro (by omega) ?_))
      refine ⟨(h + 1, j), ⟨by simp only; omega, by simp only; omega, by simp only; omega⟩, by simp only; omega, [0, 1, 2], [], ?_⟩
      exact ft1 (jn @bisSt.eq_1 (jn @bisRe.eq_1 @tpC.eq_1))
    · have hp2 : ¬ h < p := fun hc => ho (k1 hc)
      refine rn1 (jn @tb.eq_1 (jn @tpC.eq_1 @ho)) ?_
      (repeat (refine And.intro (by omega) ?_))
      refine ⟨(i, h), ⟨by simp only; omega, by simp only; omega, by simp only; omega⟩, by simp only; omega, [0, 1, 2], [], ?_⟩
      exact ft1 (jn @bisSt.eq_1 (jn @bisRe.eq_1 @tpC.eq_1))
  · have hij' : ¬ (i : Int) < j := by omega
    have hip : i = p := by omega
    subst hip
    by_cases hlt : i < O.length
    · have hlt' : (i : Int) < O.length := by omega
      have hd := oD_get O i hlt
      have hg := find1_ac L O hL O[i] (hlt0 _ (List.getElem_mem hlt)) f hf
      have hq2 : hasT L f = decide (ordC (fa L O[i]) f = 0) := by
        rw [hq]; congr 1
        exact propext ⟨fun ⟨_, h⟩ => h, fun h => ⟨hlt, h⟩⟩
      rw [hq2]
      clear hq h1 h2 hq2
      generalize ordC (fa L O[i]) f = c at *
      simp only [fctE, List.cons_append, List.nil_append] at hg
      refine rn1 (jn @bisSt.eq_1 (jn @bisRe.eq_1 (jn @tpC.eq_1 @hij'))) ?_
      refine HC_plan [] ty_ok mix (by kernel_rfl) ?_
      refine rn1 (jn @hlt' @hd) ?_
      (repeat (refine And.intro (by omega) ?_))
      refine HO_callX ty_ok [0, 1] (hg) (tb_hand _ _ _ _ _ rfl rfl) (tb_wf _ _) ?_
      rintro v r' ⟨rfl, rfl⟩ _
      refine rn1 (jn @tb.eq_1 @tpC.eq_1) ?_
      exact fv1 [0,1] [] (jn @tb.eq_1 @tpC.eq_1)
    · have hlt' : ¬ (i : Int) < O.length := by omega
      have hq2 : hasT L f = false := by
        rw [hq, decide_eq_false_iff_not]
        exact fun ⟨h, _⟩ => hlt h
      rw [hq2]
      refine rn1 (jn @bisSt.eq_1 (jn @bisRe.eq_1 (jn @tpC.eq_1 @hij'))) ?_
      refine HC_plan [] ty_ok mix (by kernel_rfl) ?_
      refine rn1 @hlt' ?_
      exact fv1 [0,1] [] (jn @tb.eq_1 @tpC.eq_1)
set_option maxHeartbeats 400000 in
theorem tfind_ac (L : List Ntr) (O : List Nat) (hL : okL L) (hI : TInv L O) (f : Fct) (hf : f.l.length ≤ 140737488352000) :
    AC Tryz.prog noG 37 [.ptr 0 0, .d (.agg (fctE f))] (tr L O) (fun v r' => v = .tup [.d (.c (.int .i64 (posT L O f))), .d (.c (.bool (hasT L f)))] ∧ r' = tr L O) := by
  refine AC.fit ?_
  refine AC_of_R (N := 15) (res := [.tmp 4, .tmp 5]) ty_ok Tryz.call37 Tryz.func37 rfl rfl rfl (Nat.le_of_ble_eq_true rfl) ?_
  have hg := bsI_ac L O hL hI f hf
  simp only [fctE, List.cons_append, List.nil_append] at hg
  refine rn1 (jn @tr.eq_1 (jn @tpC.eq_1 @fctE.eq_1)) ?_
  refine HC_plan [] ty_ok mix (by kernel_rfl) ?_
  refine rn0 ?_
  refine HO_callX ty_ok [1, 0] hg (tb_hand _ _ _ _ _ rfl rfl) (tb_wf _ _) ?_
  rintro v r' ⟨rfl, rfl⟩ _
  refine rn1 (jn @tb.eq_1 @tpC.eq_1) ?_
  exact fv1 [0] [] (jn @tr.eq_1 @tpC.eq_1)
end Go.Proofs.YtdbicadncccpoaaGreat

set_option linter.unusedVariables false
set_option linter.unusedSimpArgs false
set_option maxRecDepth 100000
namespace Go.Proofs.YtdbicadncccpoaaGreat
open Go Go.ChangeShapes Go.WideShapes
section
variable {P : Program} {ti : Ti} {G : Nat → List D} {N : Nat} {K : KD}
def fzRes (i : Nat) (ds : List D) : Option Res → Option Res
  | some (.obj l) => some (.obj (l.map (fzA i ds)))
  | x => x
def fzR (i : Nat) (ds : List D) (r : Rs) : Rs := (r.set i none).map (fzRes i ds)
theorem fzRes_tok {i : Nat} {ds : List D} {x : Option Res} {k : Nat} (h : fzRes i ds x = some (.tok k)) : x = some (.tok k) := by
  cases x with
  | none => cases h
  | some y => cases y <;> simp_all [fzRes]
theorem fzRes_map {i : Nat} {ds : List D} {x : Option Res} {k : List (D × D)} (h : fzRes i ds x = some (.map k)) : x = some (.map k) := by
  cases x with
  | none => cases h
  | some y => cases y <;> simp_all [fzRes]
theorem fzRes_obj {i : Nat} {ds : List D} {x : Option Res} {l : List AV} (h : fzRes i ds x = some (.obj l)) : ∃ m, x = some (.obj m) ∧ l = m.map (fzA i ds) := by
  cases x with
  | none => cases h
  | some y => cases y <;> simp_all [fzRes]
theorem fzRes_some {i : Nat} {ds : List D} {x : Option Res} {y : Res} (h : fzRes i ds x = some y) : ∃ z, x = some z := by
  cases x with
  | none => cases h
  | some z => exact ⟨z, rfl⟩
theorem fzR_get {i : Nat} {ds : List D} {r : Rs} {j : Nat} {y : Option Res} (h : (fzR i ds r)[j]? = some y) : ∃ x, (r.set i none)[j]? = some x ∧ fzRes i ds x = y := by
  simp only [fzR, List.getElem?_map, Option.map_eq_some_iff] at h
  exact h
/-- .. and what stands in the call's other rows and structs tells it, too. -/
theorem HC_layR (i : Nat) {c : Code} {b : Nat → AV} {sl : List (Nat × AV)} {r : Rs} {l : List AV} {ds : List D} (ho : objOf r i = some l) (hl : allD l = some ds) (h : HC P ti G N c K ⟨b, fzL i ds sl, fzR i ds r⟩) : HC P ti G N c K ⟨b, sl, r⟩ := by
  intro E0 r0 w0 E a w hR hS
  obtain ⟨bb, T', hb, hlen, hrm, hgood, hst⟩ := lay_row hR.good ho hl
  have h12 : Step ⟨T', E.bl⟩ (r.set i none) w ⟨T', E.bl⟩ (fzR i ds r) w := by
    refine ⟨rfl, rfl, rfl, Nat.le_refl _, fun _ _ _ => ⟨rfl, rfl⟩, fun q ⟨j, x, hj, hbj⟩ => ?_, Lasts.refl _ _, ShapeLasts.refl _, ⟨by simp [fzR], fun j k _ hj => ?_, fun j k _ hj => ?_, fun j k _ hj => ?_⟩⟩
    · obtain ⟨x', hj, he⟩ := fzR_get hj
      obtain ⟨z, rfl⟩ := fzRes_some he
      exact .inl ⟨j, z, hj, hbj⟩
    · obtain ⟨x', hj, he⟩ := fzR_get hj
      rw [fzRes_tok he] at hj
      exact ⟨k, hj, Nat.le_refl _, fun _ => rfl⟩
    · obtain ⟨x', hj2, he⟩ := fzR_get hj
      obtain ⟨m, rfl, rfl⟩ := fzRes_obj he
      exact ⟨m, hj2, by simp, rfl⟩
    · obtain ⟨x', hj, he⟩ := fzR_get hj
      rw [fzRes_map he] at hj
      exact ⟨k, hj, rfl⟩
  have hfz : ∀ (l1 : List AV) (vs : List Value), RAL E r w l1 vs → RAL ⟨T', E.bl⟩ (fzR i ds r) w (l1.map (fzA i ds)) vs := by
    intro l1
    induction l1 with
    | nil => intro vs hv; simpa [RAL] using hv
    | cons x l1 ih =>
      intro vs hv
      simp only [RAL, List.map_cons] at hv ⊢
      obtain ⟨v, rest, h1, h2, h3⟩ := hv
      exact ⟨v, rest, h1, (fz_sound hR.good ho hb hlen hrm hst h2).step h12, ih rest h3⟩
  refine h E0 r0 w0 ⟨T', E.bl⟩ a w ⟨hR.size, fun k => ?_, ?_, hR.defers⟩ ((hS.trans hst).trans h12)
  rotate_left
  ·   refine ⟨fun j k q hj hq => ?_, fun j k hj => ?_, fun j k hj => ?_, fun j k x y q hj hk hbj hbk => ?_, hgood.fresh, hgood.glob⟩
      · obtain ⟨x', hj, he⟩ := fzR_get hj
        rw [fzRes_tok he] at hj
        exact hgood.tok j k q hj hq
      · obtain ⟨x', hj2, he⟩ := fzR_get hj
        obtain ⟨m, rfl, rfl⟩ := fzRes_obj he
        obtain ⟨q, hq, h1, vs, e, h2, h3, h4⟩ := hgood.obj j m hj2
        obtain ⟨q', hq', _, vs', e', h2', h3', _⟩ := hR.good.obj j m (getElem?_setnone hj2).2
        have hq' : E.bl j = some q' := hq'
        have hqq : q' = q := by
          have hq : E.bl j = some q := hq
          rw [hq] at hq'; injection hq' with hq'; exact hq'.symm
        subst hqq
        rw [h2] at h2'
        injection h2' with h2'
        injection h2' with h5 _
        subst h5
        exact ⟨q', hq, h1, vs, e, h2, hfz m _ h3', h4⟩
      · obtain ⟨x', hj, he⟩ := fzR_get hj
        rw [fzRes_map he] at hj
        exact hgood.map j k hj
      · obtain ⟨x', hj, he⟩ := fzR_get hj
        obtain ⟨y', hk, he2⟩ := fzR_get hk
        obtain ⟨z, rfl⟩ := fzRes_some he
        obtain ⟨z2, rfl⟩ := fzRes_some he2
        exact hgood.one j k z z2 q hj hk hbj hbk
  have hk := hR.slot k
  show RA _ (fzR i ds r) w (lk (fzL i ds sl) b k) _
  change RA E r w (lk sl b k) _ at hk
  rcases lk_fz (i := i) (ds := ds) (b := b) (l := sl) (k := k) with ⟨v, h1, h2⟩ | ⟨h1, h2⟩
  · rw [h2]; rw [h1] at hk; exact (fz_sound hR.good ho hb hlen hrm hst hk).step h12
  · rw [h2]; rw [h1] at hk; exact (hk.step hst).step h12
end
section
variable {P : Program} {ti : Ti} {G : Nat → List D} {N : Nat} {ops : Array Oper} {M : KM} {σ : St}
end
end Go.Proofs.YtdbicadncccpoaaGreat

set_option linter.unusedVariables false
set_option linter.unusedSimpArgs false
set_option maxRecDepth 100000
namespace Go.Proofs.YtdbicadncccpoaaGreat
open Go Go.ChangeShapes Go.WideShapes
/-! A digest's 32 cells, as they lie in an object of one's own. -/
def tA (l : List UInt8) : List AV := (bD l).map .d
theorem tA_len (l : List UInt8) : (tA l).length = l.length := by simp [tA, bD]
theorem tA_wf (n : Nat) (l : List UInt8) : wfL n (tA l) = true := wfL_map_d n _
theorem tA_allD (l : List UInt8) : allD (tA l) = some (bD l) := allD_map _
theorem tg32 (d : List UInt8) (h : d.length = 32) : d.length = 32 ∧ (bD d).length = 32 ∧ (bD d).take 32 = bD d ∧ (tA d).length = 32 ∧ (tA d).take 32 = tA d ∧ (bD d).map AV.d = tA d := by
  have hb : (tA d).length = 32 := by rw [tA_len, h]
  have hd : (bD d).length = 32 := by rw [bD_length, h]
  exact ⟨h, hd, List.take_of_length_le (by omega), hb, List.take_of_length_le (by omega), rfl⟩
end Go.Proofs.YtdbicadncccpoaaGreat

set_option linter.unusedVariables false
set_option linter.unusedSimpArgs false
set_option maxRecDepth 100000
namespace Go.Proofs.YtdbicadncccpoaaGreat
open Go Go.ChangeShapes Go.WideShapes
/-! trail.own: an entry whose slices are its own. -/
theorem RA_csl_osl {E : Env} {r : Rs} {w : World} {i off sz n c : Nat} {x : Value} (h : RA E r w (.csl i off sz n c) x) : RA E r w (.osl i off sz n) x := by
  simp only [RA] at h ⊢
  obtain ⟨h1, A, rfl, hc, h2⟩ := h
  refine ⟨h1, A, c, rfl, hc, fun l hl => ?_⟩
  obtain ⟨k1, k2⟩ := h2 l hl
  have hmul : n * sz ≤ c * sz := Nat.mul_le_mul_right _ hc
  exact ⟨by omega, fun hn => k2 (by omega)⟩
theorem cslO_osl {sz n : Nat} {xs : List D} {f : FuncId} {P : Program} {G : Nat → List D} {args : List AV} {r : Rs} (h : AC P G f args r (cslO sz n xs)) : AC P G f args r (fun v r' => ∃ zs : List D, v = .osl 0 0 sz n ∧ r' = [some (.obj ((xs ++ zs).map .d))]) :=
  ⟨h.1, fun E w vals hG hA => (h.2 E w vals hG hA).mono fun e w' ⟨v, x, r', E', he, ⟨k, zs, _, hv, hr⟩, k1, k2, k3⟩ => ⟨_, x, r', E', he, ⟨zs, rfl, hr⟩, RA_csl_osl (hv ▸ k1), k2, k3⟩⟩
theorem cloneC_d (n : Nat) (xs : List D) (hx : xs.length = n * 3) (h : n ≤ 1000000) :
    AC Tryz.prog noG 79 [.d (.sl 3 n xs)] [] (fun v r' => v = .d (.sl 3 n xs) ∧ r' = []) := by
  by_cases h0 : 0 < n
  · exact AC.nones (y := .sl 3 n xs) 0 (by simp) ((cslO_lay hx h0 (cloneC_ac n xs hx h0 h)).mono fun v r' ⟨h1, h2⟩ => ⟨h1, by simp, by rw [h2]; simp⟩)
  · have hn : n = 0 := by omega
    subst hn
    have hxs : xs = [] := List.eq_nil_of_length_eq_zero (by omega)
    subst hxs
    exact AC.dat (cloneC_0.mono fun v r' ⟨h1, _⟩ => by rw [h1]; rfl)
def enC (f : Fct) (why rule : Int) (body : AV) (tg : List UInt8) : List AV := [.d (.c (.string f.a)), .d (.c (.string f.b)), .d (.c (.string f.p)), .d (.sl 3 f.l.length (flatE cstE f.l)), .d (.c (.int .i64 why)), .d (.c (.int .i64 rule)), body] ++ tA tg
def owSt (n : Nat) (i : Nat) : List (Nat × AV) := [(1, .ptr 0 0), (2, .ptr 1 0), (16, .d (.c (.int .i64 n))), (17, .d (.c (.int .i64 i)))]
theorem tA_fz (i : Nat) (ds : List D) (l : List UInt8) : (tA l).map (fzA i ds) = tA l := by
  rw [tA, List.map_map]; congr 1
def tgz : List UInt8 := List.replicate 32 0
def owRe (x : Ntr) (zs : List D) : Rs := [some (.obj (enC x.f x.why x.rule (.osl 2 0 4 x.body.length) x.tg)), some (.obj (enC zE.zF0 0 0 (.d (.sl 4 0 [])) tgz)), some (.obj ((flatE fctE x.body ++ zs).map .d))]
theorem body_get (l : List Fct) (zs : List D) (i : Nat) (h : i < l.length) : ((flatE fctE l ++ zs).map AV.d)[i * 4 + 3]? = some (.d (.sl 3 l[i].l.length (flatE cstE l[i].l))) := by
  have h1 := flatE_drop fctE_len l i h
  have hl := flatE_len fctE_len l
  have h2 : (flatE fctE l)[i * 4 + 3]? = some (.sl 3 l[i].l.length (flatE cstE l[i].l)) := by
    rw [← List.getElem?_drop, h1]; rfl
  have hb : i * 4 + 3 < (flatE fctE l).length := by omega
  rw [List.getElem?_map, List.getElem?_append_left hb, h2]; rfl
theorem set_self_ {α : Type} {l : List α} {j : Nat} {a : α} (h : l[j]? = some a) : l.set j a = l := by
  apply List.ext_getElem?
  intro k
  by_cases hk : j = k
  · subst hk
    have hlt := (List.getElem?_eq_some_iff.1 h).1
    rw [List.getElem?_set_self hlt, h]
  · rw [List.getElem?_set_ne hk]
set_option maxHeartbeats 400000 in
theorem own_ac (x : Ntr) (hx : okE x) :
    AC Tryz.prog noG 57 [.d (.agg (entE x))] [] (fun v r' => v = .d (.agg (entE x)) ∧ r' = []) := by
  refine AC.fit ?_
  refine AC_of_R (N := 34) (res := [.cell 2 43]) ty_ok Tryz.call57 Tryz.func57 rfl rfl rfl (Nat.le_of_ble_eq_true rfl) ?_
  have hz : ([UInt8.ofNat 0, UInt8.ofNat 0, UInt8.ofNat 0, UInt8.ofNat 0, UInt8.ofNat 0, UInt8.ofNat 0, UInt8.ofNat 0, UInt8.ofNat 0, UInt8.ofNat 0, UInt8.ofNat 0, UInt8.ofNat 0, UInt8.ofNat 0, UInt8.ofNat 0, UInt8.ofNat 0, UInt8.ofNat 0, UInt8.ofNat 0, UInt8.ofNat 0, UInt8.ofNat 0, UInt8.ofNat 0, UInt8.ofNat 0, UInt8.ofNat 0, UInt8.ofNat 0, UInt8.ofNat 0, UInt8.ofNat 0, UInt8.ofNat 0, UInt8.ofNat 0, UInt8.ofNat 0, UInt8.ofNat 0, UInt8.ofNat 0, UInt8.ofNat 0, UInt8.ofNat 0, UInt8.ofNat 0] : List UInt8) = tgz := rfl
  obtain ⟨z1, z2, z3, z4, z5, z6⟩ := tg32 tgz rfl
  have z7 : (tA tgz).drop 32 = [] := List.drop_of_length_le (by omega)
  have hbl := hx.2.2.1
  have hc := hx.2.1
  have hb := hx.2.2.2
  obtain ⟨t1, t2, t3, t4, t5, t6⟩ := tg32 x.tg hx.1
  have k1 := cloneC_d x.f.l.length (flatE cstE x.f.l) (by rw [flatE_len cstE_len]; omega) hc
  refine rn1 (jn @entE.eq_1 (jn @fctE.eq_1 (jn @t1 (jn @t2 (jn @t3 (jn @t4 (jn @t5 (jn @t6 (jn @hz (jn @z1 (jn @z2 (jn @z3 (jn @z4 (jn @z5 (jn @z6 @tA_allD))))))))))))))) ?_
  refine HO_pureA ty_ok k1 ?_
  refine rn1 (jn @t1 (jn @t2 (jn @t3 (jn @t4 (jn @t5 (jn @t6 @tA_allD)))))) ?_
  by_cases h0 : 0 < x.body.length
  · have k2 := cslO_osl (cloneF_ac x.body.length (flatE fctE x.body) (by rw [flatE_len fctE_len]; omega) h0 hx.2.2.1)
    refine HO_callX ty_ok [] k2 (trivial) rfl ?_
    rintro v r' ⟨zs, rfl, rfl⟩ _
    refine rn1 (jn @t1 (jn @t2 (jn @t3 (jn @t4 (jn @t5 (jn @t6 (jn @tA_allD @renL_map_d))))))) ?_
    refine HC_loopR (owSt x.body.length) (fun _ => owRe x zs) (fun i => i ≤ x.body.length) (fun i => x.body.length - i) 0 [0, 1, 2] [] (by omega) ?_ ?_
    · exact ft1 (jn @owSt.eq_1 (jn @owRe.eq_1 (jn @enC.eq_1 (jn @hz @tA_wf))))
    intro i hi
    by_cases hlt : i < x.body.length
    · refine HC_of_R ty_ok ?_
      have hi' : (i : Int) < x.body.length := by omega
      have hg := body_get x.body zs i hlt
      have hgl : i * 4 + 3 < ((flatE fctE x.body ++ zs).map AV.d).length := (List.getElem?_eq_some_iff.1 hg).1
      have hset := set_self_ hg
      have hk := cloneC_d x.body[i].l.length (flatE cstE x.body[i].l) (by rw [flatE_len cstE_len]; omega) (hb _ (List.getElem_mem hlt))
      generalize x.body[i] = f at *
      refine rn1 (jn @owSt.eq_1 (jn @owRe.eq_1 (jn @enC.eq_1 (jn @hi' (jn @t1 (jn @t2 (jn @t3 (jn @t4 (jn @t5 (jn @t6 @tA_allD)))))))))) ?_
      refine HC_plan [9] ty_ok mix (by kernel_rfl) ?_
      refine rn1 (jn @hi' (jn @hg @hgl)) ?_
      (repeat (refine And.intro (by omega) ?_))
      refine HO_pureA ty_ok hk ?_
      refine rn1 (jn @hi' (jn @hset @hgl)) ?_
      (repeat (refine And.intro (by omega) ?_))
      refine ⟨i + 1, by omega, by omega, [0, 1, 2], [], ?_⟩
      exact ft1 (jn @owSt.eq_1 (jn @owRe.eq_1 (jn @enC.eq_1 (jn @hz @tA_wf))))
    · have hi' : ¬ (i : Int) < x.body.length := by omega
      have htk : ((flatE fctE x.body ++ zs).drop 0).take (x.body.length * 4) = flatE fctE x.body := by
        rw [List.drop_zero, show x.body.length * 4 = (flatE fctE x.body).length by rw [flatE_len fctE_len]; omega, List.take_left]
      refine HC_layR 2 rfl (allD_map (flatE fctE x.body ++ zs)) ?_
      simp only [owSt, owRe, enC, fzL, fzR, fzRes, fzA, List.set_cons_zero, List.set_cons_succ, List.map_cons, List.map_nil, List.map_append, List.cons_append, List.nil_append, ↓reduceIte, Nat.reduceEqDiff, h0, and_self, htk, tA_fz]
      refine HC_of_R ty_ok ?_
      refine rn1 (jn @hi' (jn @t1 (jn @t2 (jn @t3 (jn @t4 (jn @t5 (jn @t6 (jn @z7 @tA_allD)))))))) ?_
      (repeat (refine And.intro (by omega) ?_))
      exact fv0 [] []
  · have hb0 : x.body = [] := List.eq_nil_of_length_eq_zero (by omega)
    rw [hb0]
    refine HO_pureA ty_ok cloneF_0 ?_
    refine rn1 (jn @t1 (jn @t2 (jn @t3 (jn @t4 (jn @t5 (jn @t6 @tA_allD)))))) ?_
    have hle : (flatE fctE ([] : List Fct)) = [] := rfl
    refine HC_loopR (fun _ : Nat => owSt 0 0) (fun _ => [some (.obj (enC x.f x.why x.rule (.d (.sl 4 0 [])) x.tg)), some (.obj (enC zE.zF0 0 0 (.d (.sl 4 0 [])) tgz))]) (fun _ => True) (fun _ => 0) 0 [0, 1] [] trivial ?_ ?_
    · exact ft1 (jn @owSt.eq_1 (jn @enC.eq_1 (jn @hz @tA_wf)))
    intro i _
    refine HC_of_R ty_ok ?_
    refine rn1 (jn @owSt.eq_1 (jn @enC.eq_1 (jn @t1 (jn @t2 (jn @t3 (jn @t4 (jn @t5 (jn @t6 (jn @z7 @tA_allD))))))))) ?_
    (repeat (refine And.intro (by omega) ?_))
    exact fv1 [] [] @hle
end Go.Proofs.YtdbicadncccpoaaGreat

set_option linter.unusedVariables false
set_option linter.unusedSimpArgs false
set_option maxRecDepth 100000
namespace Go.Proofs.YtdbicadncccpoaaGreat
open Go Go.ChangeShapes Go.WideShapes
/-! trail.enter, Base, Said, Rule. -/
theorem insI_l (n i k : Nat) (A B zs x : List D) (hA : A.length = i) (hB : B.length = n - i) (hz : zs.length = k) (hx : x.length = 1) (h0 : 0 < n) (hi : i ≤ n) (h : n ≤ 1000000) :
    AC Tryz.prog noG 55 [.csl 0 0 1 n (n + k), .d (.c (.int .i64 i)), .osl 1 0 1 1] [some (.obj ((A ++ B ++ zs).map .d)), some (.obj (x.map .d))] (fun v r' => v = .d (.sl 1 (n + 1) (A ++ x ++ B)) ∧ r' = [none, none]) :=
  insO_lay (by simp only [List.length_append]; omega) (by omega) (by simp) (insI_ac n i k A B zs x hA hB hz hx h0 hi h)
theorem ob1_hand (l : List D) (rc : Rs) (i : Nat) (hi : rc[i]? = some (some (.obj (l.map .d)))) : HandOK (nm [i] rc.length) rc [some (.obj (l.map .d))] [i] := by
  refine ⟨fun y h => ?_, trivial⟩
  injection h with h; subst h
  rw [hi, renRes, renL_map_d]
theorem ob2_hand (l m : List D) (rc : Rs) (i j : Nat) (hi : rc[i]? = some (some (.obj (l.map .d)))) (hj : rc[j]? = some (some (.obj (m.map .d)))) : HandOK (nm [i, j] rc.length) rc [some (.obj (l.map .d)), some (.obj (m.map .d))] [i, j] := by
  refine ⟨fun y h => ?_, fun y h => ?_, trivial⟩
  · injection h with h; subst h
    rw [hi, renRes, renL_map_d]
  · injection h with h; subst h
    rw [hj, renRes, renL_map_d]
theorem ob1_wf (l : List D) : wfRs 1 [some (.obj (l.map .d))] = true := by simp only [wfRs, wfL_map_d, Bool.and_true]
theorem ob2_wf (l m : List D) : wfRs 2 [some (.obj (l.map .d)), some (.obj (m.map .d))] = true := by simp only [wfRs, wfL_map_d, Bool.and_true]
def teSt (p : Nat) : List (Nat × AV) := [(0, .ptr 0 0), (3, .ptr 1 0), (5, .d (.c (.int .i64 p)))]
def teRe (L : List Ntr) (O : List Nat) (x : Ntr) : Rs := [some (.obj (tpC L O)), some (.obj (enC x.f x.why x.rule (.d (.sl 4 x.body.length (flatE fctE x.body))) x.tg))]
theorem oD_ins (L : List Ntr) (O : List Nat) (f : Fct) : oD (insT L O f) = (oD O).take (posT L O f) ++ [.c (.int .i64 (L.length : Int))] ++ (oD O).drop (posT L O f) := by
  simp only [insT, oD, List.map_append, List.map_cons, List.map_nil, List.map_take, List.map_drop]
theorem insT_len (L : List Ntr) (O : List Nat) (f : Fct) : (insT L O f).length = O.length + 1 := by
  have := posT_le L O f
  simp only [insT, List.length_append, List.length_take, List.length_drop, List.length_singleton]; omega
set_option maxHeartbeats 400000 in
theorem enter_ac (L : List Ntr) (O : List Nat) (hL : okL L) (hI : TInv L O) (x : Ntr) (hx : okE x) (hn : L.length ≤ 100000) :
    AC Tryz.prog noG 36 [.ptr 0 0, .d (.agg (entE x))] (tr L O) (fun v r' => v = .d (.c (.int .i64 (if hasT L x.f = true then 151 else 0))) ∧ r' = if hasT L x.f = true then tr L O else tr (L ++ [x]) (insT L O x.f)) := by
  refine AC.fit ?_
  refine AC_of_R (N := 53) (res := [.tmp 4]) tyL_ok Tryz.call36 Tryz.func36 rfl rfl rfl (Nat.le_of_ble_eq_true rfl) ?_
  obtain ⟨t1, t2, t3, t4, t5, t6⟩ := tg32 x.tg hx.1
  have kf := tfind_ac L O hL hI x.f (Nat.le_trans hx.2.1 (by decide))
  simp only [fctE, List.cons_append, List.nil_append] at kf
  refine rn1 (jn @tr.eq_1 (jn @tpC.eq_1 (jn @entE.eq_1 (jn @fctE.eq_1 (jn @t1 (jn @t2 (jn @t3 (jn @t4 (jn @t5 (jn @t6 @tA_allD)))))))))) ?_
  refine HO_callX tyL_ok [0] kf (tr_hand _ _ _ _ rfl) (tr_wf _ _) ?_
  rintro v r' ⟨rfl, rfl⟩ _
  cases hq : hasT L x.f with
  | true =>
    refine rn1 (jn @tr.eq_1 @tpC.eq_1) ?_
    exact fv1 [0] [] (jn @tr.eq_1 @tpC.eq_1)
  | false =>
    refine rn1 (jn @tr.eq_1 @tpC.eq_1) ?_
    have hp := posT_le L O x.f
    have hO1 := oD_ins L O x.f
    have hO2 := insT_len L O x.f
    have hOl : O.length ≤ 100000 := by rw [hI.len]; exact hn
    have hI2 := hI.enter hq
    generalize insT L O x.f = O2 at *
    generalize posT L O x.f = p at *
    refine HC_cutR (teSt p) (teRe L O2 x) ?_ ?_
    · skip
      refine HC_of_HV mix ?_
      refine HV_split 5 12 (by decide) ?_ ?_
      · simp only [addAt]
        refine HV_order [5] tyL_ok [0, 1, 2, 3, 4, 6, 7, 8, 9, 10, 11, 5, 12, 13, 14, 15, 16] (by kernel_rfl) rfl _ rfl ?_
        simp only [opl_nil', opl_cons', oplC_some, List.getElem?_toArray, List.getElem?_cons_zero, List.getElem?_cons_succ]
        refine rn1 (jn @t1 (jn @t2 (jn @t3 (jn @t4 (jn @t5 (jn @t6 @tA_allD)))))) ?_
        by_cases h0 : 0 < O.length
        · refine HO_callX tyL_ok [] (cloneI_ac O.length (oD O) (by rw [oD_len]; omega) h0 (by omega)) (trivial) rfl ?_
          rintro v r' ⟨k, zs, hz, rfl, rfl⟩ _
          have ki := insI_l O.length p k ((oD O).take p) ((oD O).drop p) zs [.c (.int .i64 (L.length : Int))] (by rw [List.length_take, oD_len]; omega) (by rw [List.length_drop, oD_len]) (by omega) rfl h0 hp (by omega)
          rw [List.take_append_drop] at ki
          refine rn1 (jn @renL_map_d (jn @t1 (jn @t2 (jn @t3 (jn @t4 (jn @t5 (jn @t6 @tA_allD))))))) ?_
          first
            | refine HO_callX tyL_ok [2, 3] ki (ob2_hand _ _ _ _ _ rfl rfl) (ob2_wf _ _) ?_
            | refine HO_callX tyL_ok [3, 2] ki (ob2_hand _ _ _ _ _ rfl rfl) (ob2_wf _ _) ?_
          rintro v r' ⟨rfl, rfl⟩ _
          refine rn1 (jn @t1 (jn @t2 (jn @t3 (jn @t4 (jn @t5 (jn @t6 @tA_allD)))))) ?_
          refine ⟨[0, 1, 2, 3], [], ?_⟩
          rw [← hO1, ← hO2]
          exact ft1 (jn @teSt.eq_1 (jn @teRe.eq_1 (jn @tpC.eq_1 (jn @enC.eq_1 @tA_wf))))
        · have hO0 : O = [] := List.eq_nil_of_length_eq_zero (by omega)
          have hp0 : p = 0 := by rw [hO0] at hp; simpa using hp
          have ki := insI_0 [.c (.int .i64 (L.length : Int))] rfl
          have hod : oD O = [] := by rw [hO0]; rfl
          have hol : O.length = 0 := by omega
          rw [hod] at hO1 ⊢
          rw [hol] at hO2 ⊢
          rw [hp0] at hO1 ⊢
          refine HO_pureA tyL_ok cloneI_0 ?_
          refine rn1 (jn @t1 (jn @t2 (jn @t3 (jn @t4 (jn @t5 (jn @t6 @tA_allD)))))) ?_
          refine HO_callX tyL_ok [2] ki (ob1_hand _ _ _ rfl) (ob1_wf _) ?_
          rintro v r' ⟨rfl, rfl⟩ _
          refine rn1 (jn @t1 (jn @t2 (jn @t3 (jn @t4 (jn @t5 (jn @t6 @tA_allD)))))) ?_
          refine ⟨[0, 1, 2], [], ?_⟩
          simp only [List.take_nil, List.drop_nil, List.append_nil, List.nil_append] at hO1
          rw [Nat.zero_add] at hO2
          exact ft1 (jn @teSt.eq_1 (jn @teRe.eq_1 (jn @tpC.eq_1 (jn @enC.eq_1 (jn @tA_wf (jn @hO1 @hO2))))))
      · simp only [addAt]
        refine HV_order [] tyL_ok [0, 1, 2, 3, 4, 6, 7, 8, 9, 10, 11, 12, 5, 13, 14, 15, 16] (by kernel_rfl) rfl _ rfl ?_
        simp only [opl_nil', opl_cons', oplC_some, List.getElem?_toArray, List.getElem?_cons_zero, List.getElem?_cons_succ]
        refine rn1 (jn @t1 (jn @t2 (jn @t3 (jn @t4 (jn @t5 (jn @t6 @tA_allD)))))) ?_
        by_cases h0 : 0 < O.length
        · refine HO_callX tyL_ok [] (cloneI_ac O.length (oD O) (by rw [oD_len]; omega) h0 (by omega)) (trivial) rfl ?_
          rintro v r' ⟨k, zs, hz, rfl, rfl⟩ _
          have ki := insI_l O.length p k ((oD O).take p) ((oD O).drop p) zs [.c (.int .i64 (L.length : Int))] (by rw [List.length_take, oD_len]; omega) (by rw [List.length_drop, oD_len]) (by omega) rfl h0 hp (by omega)
          rw [List.take_append_drop] at ki
          refine rn1 (jn @renL_map_d (jn @t1 (jn @t2 (jn @t3 (jn @t4 (jn @t5 (jn @t6 @tA_allD))))))) ?_
          first
            | refine HO_callX tyL_ok [2, 3] ki (ob2_hand _ _ _ _ _ rfl rfl) (ob2_wf _ _) ?_
            | refine HO_callX tyL_ok [3, 2] ki (ob2_hand _ _ _ _ _ rfl rfl) (ob2_wf _ _) ?_
          rintro v r' ⟨rfl, rfl⟩ _
          refine rn1 (jn @t1 (jn @t2 (jn @t3 (jn @t4 (jn @t5 (jn @t6 @tA_allD)))))) ?_
          refine ⟨[0, 1, 2, 3], [], ?_⟩
          rw [← hO1, ← hO2]
          exact ft1 (jn @teSt.eq_1 (jn @teRe.eq_1 (jn @tpC.eq_1 (jn @enC.eq_1 @tA_wf))))
        · have hO0 : O = [] := List.eq_nil_of_length_eq_zero (by omega)
          have hp0 : p = 0 := by rw [hO0] at hp; simpa using hp
          have ki := insI_0 [.c (.int .i64 (L.length : Int))] rfl
          have hod : oD O = [] := by rw [hO0]; rfl
          have hol : O.length = 0 := by omega
          rw [hod] at hO1 ⊢
          rw [hol] at hO2 ⊢
          rw [hp0] at hO1 ⊢
          refine HO_pureA tyL_ok cloneI_0 ?_
          refine rn1 (jn @t1 (jn @t2 (jn @t3 (jn @t4 (jn @t5 (jn @t6 @tA_allD)))))) ?_
          refine HO_callX tyL_ok [2] ki (ob1_hand _ _ _ rfl) (ob1_wf _) ?_
          rintro v r' ⟨rfl, rfl⟩ _
          refine rn1 (jn @t1 (jn @t2 (jn @t3 (jn @t4 (jn @t5 (jn @t6 @tA_allD)))))) ?_
          refine ⟨[0, 1, 2], [], ?_⟩
          simp only [List.take_nil, List.drop_nil, List.append_nil, List.nil_append] at hO1
          rw [Nat.zero_add] at hO2
          exact ft1 (jn @teSt.eq_1 (jn @teRe.eq_1 (jn @tpC.eq_1 (jn @enC.eq_1 (jn @tA_wf (jn @hO1 @hO2))))))
    have ko := own_ac x hx
    simp only [entE, fctE, List.cons_append, List.nil_append] at ko
    have hfl := flE_len hL
    refine rn1 (jn @teSt.eq_1 (jn @teRe.eq_1 (jn @tpC.eq_1 (jn @enC.eq_1 (jn @t1 (jn @t2 (jn @t3 (jn @t4 (jn @t5 (jn @t6 @tA_allD)))))))))) ?_
    refine HC_plan [17] tyL_ok mix (by kernel_rfl) ?_
    refine rn1 (jn @t1 (jn @t2 (jn @t3 (jn @t4 (jn @t5 (jn @t6 @tA_allD)))))) ?_
    (repeat (refine And.intro (by omega) ?_))
    refine HO_pureA tyL_ok ko ?_
    refine rn1 (jn @t1 (jn @t2 (jn @t3 (jn @t4 (jn @t5 (jn @t6 @tA_allD)))))) ?_
    refine HO_appB tyL_ok rfl (by kernel_rfl) rfl ?_
    have he : flE (L ++ [x]) = flE L ++ entE x := by simp [flE, flatE]
    simp only [entE, fctE, List.cons_append, List.nil_append] at he
    have htk : (flE L).take (L.length * 39) = flE L := List.take_of_length_le (by omega)
    refine rn1 (jn @htk (jn @t1 (jn @t2 (jn @t3 (jn @t4 (jn @t5 (jn @t6 @tA_allD))))))) ?_
    (repeat (refine And.intro (by omega) ?_))
    rw [he]
    exact fv1 [0] [] (jn @tr.eq_1 @tpC.eq_1)
end Go.Proofs.YtdbicadncccpoaaGreat
