import Derived.Test.YthdjblfiiogmgaaCJ8
import Derived.Test.YthdjblfiiogmgaaCJ6
import Derived.Test.YthdjblfiiogmgaaCJ5
set_option linter.unusedVariables false
set_option linter.unusedSimpArgs false
set_option maxRecDepth 100000
namespace Go.Proofs.Ythdjblfiiogmgaa
open Go Go.ChangeShapes Go.WideShapes
/-! TableParts. -/
theorem tkB_filter {M : List Fct} (hs : srtF M) (g : Fct) : tkB M g = M.filter (fun x => !decide (x = g)) := by
  by_cases hg : g ∈ M
  · have hsp := tkB_split hs hg
    rw [tkB, if_pos hg]
    have hnd := srtF_nodup hs
    generalize M.take (posF M g) = A at *
    generalize M.drop (posF M g + 1) = B at *
    subst hsp
    rw [List.append_assoc] at hnd
    have h1 := List.nodup_append.1 hnd
    have h2 := List.nodup_cons.1 (show (g :: B).Nodup from h1.2.1)
    have hA : A.filter (fun x => !decide (x = g)) = A := List.filter_eq_self.2 fun x hx => by
      have := h1.2.2 x hx g (by simp)
      simpa using this
    have hB : B.filter (fun x => !decide (x = g)) = B := List.filter_eq_self.2 fun x hx => by
      have : x ≠ g := fun h => h2.1 (h ▸ hx)
      simpa using this
    rw [List.filter_append, List.filter_append, hA, hB]
    simp
  · rw [tkB, if_neg hg]
    exact (List.filter_eq_self.2 fun x hx => by
      have : x ≠ g := fun h => hg (h ▸ hx)
      simpa using this).symm
def tkS (L V : List Fct) : List Fct := L.filter (fun x => !decide (x ∈ V))
theorem tkS_nil (L : List Fct) : tkS L [] = L := by simp [tkS]
theorem okB.sub {L M : List Fct} (h : okB L) (hs : M.Sublist L) : okB M := ⟨Nat.le_trans hs.length_le h.len, fun g hg => h.ok g (hs.subset hg), List.Pairwise.sublist hs h.srt⟩
theorem tkS_ok {L : List Fct} (h : okB L) (V : List Fct) : okB (tkS L V) := h.sub (List.filter_sublist)
theorem tkS_snoc {L : List Fct} (h : okB L) (V : List Fct) (g : Fct) : tkB (tkS L V) g = tkS L (V ++ [g]) := by
  rw [tkB_filter (tkS_ok h V).srt, tkS, tkS, List.filter_filter]
  refine List.filter_congr fun x _ => ?_
  by_cases h1 : x ∈ V <;> by_cases h2 : x = g <;> simp [h1, h2]
def soP (f g : Fct) : Bool := decide (g.p = f.p) && decide (g.a = f.a)
def wantP (f : Fct) (L : List Fct) : List Fct := L.filter (soP f)
def restP (f : Fct) (L : List Fct) : List Fct := L.filter (fun g => !soP f g)
theorem tkS_rest (L : List Fct) (f : Fct) : tkS L (wantP f L) = restP f L := by
  rw [tkS, restP]
  refine List.filter_congr fun x hx => ?_
  have : (x ∈ wantP f L) ↔ soP f x = true := by rw [wantP, List.mem_filter]; exact ⟨fun h => h.2, fun h => ⟨hx, h⟩⟩
  by_cases h1 : soP f x = true
  · rw [h1, decide_eq_true (this.2 h1)]
  · rw [decide_eq_false (fun h => h1 (this.1 h))]; simp [h1]
theorem want_in {L : List Fct} (h : okB L) (f : Fct) {i : Nat} (hi : i < (wantP f L).length) : (wantP f L)[i] ∈ tkS L ((wantP f L).take i) ∧ (wantP f L)[i] ∉ tkS L ((wantP f L).take i ++ [(wantP f L)[i]]) := by
  have hm := List.getElem_mem hi
  have hnd : srtF (wantP f L) := List.Pairwise.sublist List.filter_sublist h.srt
  refine ⟨List.mem_filter.2 ⟨(List.mem_filter.1 hm).1, ?_⟩, fun h2 => ?_⟩
  · simp only [Bool.not_eq_true', decide_eq_false_iff_not]
    intro h3
    obtain ⟨j, hj, he⟩ := List.mem_iff_getElem.1 h3
    rw [List.getElem_take] at he
    rw [List.length_take] at hj
    have h4 := List.pairwise_iff_getElem.1 hnd j i (by omega) hi (by omega)
    rw [he, ord_self] at h4
    omega
  · have h5 := (List.mem_filter.1 h2).2
    simp only [Bool.not_eq_true', decide_eq_false_iff_not, List.mem_append, List.mem_singleton] at h5
    exact h5 (.inr trivial)
theorem of_want (f : Fct) (L : List Fct) (ha : f.a ≠ ⟨#[]⟩) (hp : f.p ≠ ⟨#[]⟩) : L.filter (ofB f.a ⟨#[]⟩ f.p) = wantP f L := by
  rw [wantP]
  refine List.filter_congr fun x _ => ?_
  rw [ofB, isB, isB, isB, soP, decide_eq_false ha, decide_eq_false hp]
  simp only [decide_true, Bool.true_or, Bool.false_or, Bool.and_true]
  rw [Bool.and_comm]
  congr 1
  · exact decide_eq_decide.2 ⟨Eq.symm, Eq.symm⟩
  · exact decide_eq_decide.2 ⟨Eq.symm, Eq.symm⟩
def fRow (f : Fct) : Option Res := some (.obj ((fctE f).map .d))
def tpS (l : List Fct) (i : Nat) : List (Nat × AV) := [(0, .d (.sl 4 l.length (flatE fctE l))), (3, .ptr 0 0), (5, .ptr 1 0), (7, .d (.c (.int .i64 i)))]
def tpR (f : Fct) (M : List Fct) : Rs := [fRow f, some (.obj (tblC M 4096))]
def tqS (f : Fct) (L : List Fct) (i : Nat) : List (Nat × AV) := [(3, .ptr 0 0), (5, .ptr 1 0), (8, .d (.sl 4 L.length (flatE fctE L))), (9, .sl (.own 4) 4 (wantP f (L.take i)).length (flatE fctE (wantP f (L.take i)))), (10, .sl (.own 5) 4 (restP f (L.take i)).length (flatE fctE (restP f (L.take i)))), (11, .d (.c (.int .i64 i)))]
def tqR (f : Fct) (L : List Fct) (i : Nat) : Rs := [fRow f, some (.obj (tblC L 4096)), none, none, some (.tok (4 * (wantP f (L.take i)).length)), some (.tok (4 * (restP f (L.take i)).length))]
def tsS (W R : List Fct) (i : Nat) : List (Nat × AV) := [(5, .ptr 1 0), (9, .d (.sl 4 W.length (flatE fctE W))), (10, .d (.sl 4 R.length (flatE fctE R))), (13, .d (.c (.int .i64 i)))]
def tsR (M : List Fct) : Rs := [none, some (.obj (tblC M 4096)), none, none, none, none, none, none, none, none, none, none]
set_option maxHeartbeats 2000000 in
theorem tableParts_ac (l : List Fct) (f : Fct) (hl : l.length ≤ 140737488352000) (hs : ∀ f ∈ l, szF f) : AC Try.prog noG 6 [.d (.sl 4 l.length (flatE fctE l)), .d (.agg (fctE f))] [] (fun v r' => v = .d (.c (.bool true)) ∧ r' = []) := by
  refine AC.pure ?_ (by rintro v rfl; rfl)
  refine AC_of_R (N := 134) (res := [.tmp 4]) ty_ok Try.call6 Try.func6 rfl rfl rfl (Nat.le_of_ble_eq_true rfl) ?_
  have kw := wF2_ac l 300 hl hs (by decide) (by decide)
  refine rn1 @fctE.eq_1 ?_
  refine HO_callX ty_ok [] kw (trivial) rfl ?_
  rintro v r' ⟨⟨n, rfl, _, hn⟩, rfl⟩ _
  by_cases hg : n > 300
  · refine rn1 @hg ?_
    refine HO_pureA ty_ok blive_ac ?_
    exact rz0
  have hn := hn (by omega)
  have hl3 : l.length ≤ 300 := by omega
  by_cases hfl : (f.l.length : Int) > 10
  · refine rn1 (jn @hg @hfl) ?_
    refine HO_pureA ty_ok blive_ac ?_
    exact rz0
  have k0 := bnew_ac 4096 (by decide) (by decide)
  refine rn1 (jn @hg @hfl) ?_
  refine HO_callX ty_ok [] k0 (trivial) rfl ?_
  rintro v r' ⟨rfl, rfl⟩ _
  refine rn1 (jn @tbl.eq_1 (jn @tblC.eq_1 @flatE_nil)) ?_
  refine HC_loopR (fun i : Nat => tpS l i) (fun i => tpR f (putB 4096 [] (l.take i))) (fun i => i ≤ l.length) (fun i => l.length - i) 0 [0, 1] [] (Nat.zero_le _) ?_ ?_
  · have e1 : putB 4096 [] (l.take 0) = [] := rfl
    exact ft1 (jn @tpS.eq_1 (jn @tpR.eq_1 (jn @fRow.eq_1 (jn @fctE.eq_1 (jn @tblC.eq_1 (jn @e1 @flatE_nil))))))
  intro i hi1
  refine HC_of_R ty_ok ?_
  by_cases hlt : i < l.length
  · have hi : (i : Int) < l.length := by omega
    have hdi := flatE_drop fctE_len l i hlt
    have hle := flatE_len fctE_len l
    have hok1 := okB.puts 4096 (l.take i) [] okB0 (by rw [List.length_take]; simp only [List.length_nil]; omega)
    have k1 := bput_ac _ 4096 (by decide) hok1 l[i] (hs _ (List.getElem_mem hlt)).2.2.2.1
    rw [← putB_snoc, ← List.take_succ_eq_append_getElem hlt] at k1
    generalize l[i] = g at *
    simp only [fctE, List.cons_append, List.nil_append] at hdi k1
    refine rn1 (jn @tpS.eq_1 (jn @tpR.eq_1 (jn @fRow.eq_1 (jn @fctE.eq_1 (jn @tblC.eq_1 (jn @hi (jn @hdi @hle))))))) ?_
    (repeat (refine And.intro (by omega) ?_))
    refine HO_callX ty_ok [1] k1 (tbl_hand _ _ _ _ rfl) (tbl_wf _ _) ?_
    rintro v r' ⟨rfl, rfl⟩ _
    refine rn1 (jn @tbl.eq_1 @tblC.eq_1) ?_
    (repeat (refine And.intro (by omega) ?_))
    refine ⟨i + 1, (by omega), by omega, [0, 1], [], ?_⟩
    exact ft1 (jn @tpS.eq_1 (jn @tpR.eq_1 (jn @fRow.eq_1 (jn @fctE.eq_1 @tblC.eq_1))))
  · have hi : ¬ (i : Int) < l.length := by omega
    have hiL : i = l.length := by omega
    subst hiL
    have hok := okB.puts 4096 l [] okB0 (by simp only [List.length_nil]; omega)
    have hle := putB_len 4096 l []
    simp only [List.length_nil] at hle
    rw [List.take_length]
    generalize putB 4096 [] l = L at *
    have ka := allT_ac L 4096
    have kg := gathT_ac L hok 4096 (by decide)
    refine rn1 (jn @tpS.eq_1 (jn @tpR.eq_1 (jn @fRow.eq_1 (jn @fctE.eq_1 (jn @tblC.eq_1 @hi))))) ?_
    refine HO_callX ty_ok [1] ka (tbl_hand _ _ _ _ rfl) (tbl_wf _ _) ?_
    rintro v r' ⟨rfl, rfl⟩ _
    refine rn1 (jn @bA.eq_1 (jn @tbl.eq_1 @tblC.eq_1)) ?_
    refine HO_callX ty_ok [1, 2, 3] kg (bA_hand _ _ _ _ _ _ rfl rfl rfl) (bA_wf _ _) ?_
    rintro v r' ⟨rfl, rfl⟩ _
    refine rn1 (jn @bA.eq_1 (jn @tbl.eq_1 @tblC.eq_1)) ?_
    refine HC_loopR (fun i : Nat => tqS f L i) (fun i => tqR f L i) (fun i => i ≤ L.length) (fun i => L.length - i) 0 [0, 1, 0, 0, 4, 5] [0, 0] (Nat.zero_le _) ?_ ?_
    · have e1 : wantP f (L.take 0) = [] := rfl
      have e2 : restP f (L.take 0) = [] := rfl
      exact ft1 (jn @tqS.eq_1 (jn @tqR.eq_1 (jn @fRow.eq_1 (jn @fctE.eq_1 (jn @tblC.eq_1 (jn @e1 (jn @e2 @flatE_nil)))))))
    intro i hi1
    refine HC_of_R ty_ok ?_
    by_cases hlt : i < L.length
    · have hi : (i : Int) < L.length := by omega
      have hd := flatE_drop fctE_len L i hlt
      have hlf := flatE_len fctE_len L
      have htk : L.take (i + 1) = L.take i ++ [L[i]] := List.take_succ_eq_append_getElem hlt
      have w1 : wantP f (L.take (i + 1)) = wantP f (L.take i) ++ [L[i]].filter (soP f) := by rw [wantP, htk, List.filter_append]; rfl
      have w2 : restP f (L.take (i + 1)) = restP f (L.take i) ++ [L[i]].filter (fun g => !soP f g) := by rw [restP, htk, List.filter_append]; rfl
      have hb1 : (wantP f (L.take i)).length ≤ i := by have := List.length_filter_le (soP f) (L.take i); rw [List.length_take] at this; rw [wantP]; omega
      have hb2 : (restP f (L.take i)).length ≤ i := by have := List.length_filter_le (fun g => !soP f g) (L.take i); rw [List.length_take] at this; rw [restP]; omega
      clear htk
      generalize L[i] = g at *
      have el1 : (wantP f (L.take i) ++ [g]).length = (wantP f (L.take i)).length + 1 := by simp
      have el2 : (restP f (L.take i) ++ [g]).length = (restP f (L.take i)).length + 1 := by simp
      have ef : ∀ X : List Fct, flatE fctE (X ++ [g]) = flatE fctE X ++ [.c (.string g.a), .c (.string g.b), .c (.string g.p), .sl 3 g.l.length (flatE cstE g.l)] := fun X => by rw [flatE_app]; simp [flatE, fctE]
      have hx1 := flatE_len fctE_len (wantP f (L.take i))
      have hx2 := flatE_len fctE_len (restP f (L.take i))
      simp only [fctE, List.cons_append, List.nil_append] at hd
      refine rn1 (jn @tqS.eq_1 (jn @tqR.eq_1 (jn @fRow.eq_1 (jn @fctE.eq_1 (jn @tblC.eq_1 (jn @hi (jn @hd @hlf))))))) ?_
      refine HC_plan [] ty_ok mix (by kernel_rfl) ?_
      by_cases hp : g.p = f.p
      · have hp' : (g.p = f.p) = True := eq_true hp
        by_cases ha : g.a = f.a
        · have ha' : (g.a = f.a) = True := eq_true ha
          have hso : soP f g = true := by rw [soP, decide_eq_true hp, decide_eq_true ha]; rfl
          have g1 : wantP f (L.take (i + 1)) = wantP f (L.take i) ++ [g] := by rw [w1, List.filter_cons, hso]; rfl
          have g2 : restP f (L.take (i + 1)) = restP f (L.take i) := by rw [w2, List.filter_cons, hso]; exact List.append_nil _
          refine rn1 (jn @hi (jn @hd (jn @hlf (jn @hp' (jn @ha' (jn @hx1 @hx2)))))) ?_
          (repeat (refine And.intro (by omega) ?_))
          refine ⟨i + 1, (by omega), by omega, [0, 1, 0, 0, 4, 5], [], ?_⟩
          rw [g1, g2]
          exact ft1 (jn @tqS.eq_1 (jn @tqR.eq_1 (jn @fRow.eq_1 (jn @fctE.eq_1 (jn @tblC.eq_1 (jn @ef (jn @el1 @hx1)))))))
        · have hso : soP f g = false := by rw [soP, decide_eq_true hp, decide_eq_false ha]; rfl
          have g1 : wantP f (L.take (i + 1)) = wantP f (L.take i) := by rw [w1, List.filter_cons, hso]; exact List.append_nil _
          have g2 : restP f (L.take (i + 1)) = restP f (L.take i) ++ [g] := by rw [w2, List.filter_cons, hso]; rfl
          refine rn1 (jn @hi (jn @hd (jn @hlf (jn @hp' (jn @ha (jn @hx1 @hx2)))))) ?_
          (repeat (refine And.intro (by omega) ?_))
          refine ⟨i + 1, (by omega), by omega, [0, 1, 0, 0, 4, 5], [], ?_⟩
          rw [g1, g2]
          exact ft1 (jn @tqS.eq_1 (jn @tqR.eq_1 (jn @fRow.eq_1 (jn @fctE.eq_1 (jn @tblC.eq_1 (jn @ef (jn @el2 @hx2)))))))
      · have hso : soP f g = false := by rw [soP, decide_eq_false hp]; rfl
        have g1 : wantP f (L.take (i + 1)) = wantP f (L.take i) := by rw [w1, List.filter_cons, hso]; exact List.append_nil _
        have g2 : restP f (L.take (i + 1)) = restP f (L.take i) ++ [g] := by rw [w2, List.filter_cons, hso]; rfl
        refine rn1 (jn @hi (jn @hd (jn @hlf (jn @hp (jn @hx1 @hx2))))) ?_
        (repeat (refine And.intro (by omega) ?_))
        refine ⟨i + 1, (by omega), by omega, [0, 1, 0, 0, 4, 5], [], ?_⟩
        rw [g1, g2]
        exact ft1 (jn @tqS.eq_1 (jn @tqR.eq_1 (jn @fRow.eq_1 (jn @fctE.eq_1 (jn @tblC.eq_1 (jn @ef (jn @el2 @hx2)))))))
    · have hi : ¬ (i : Int) < L.length := by omega
      have hiL : i = L.length := by omega
      subst hiL
      have eS : tqS f L L.length = [(3, .ptr 0 0), (5, .ptr 1 0), (8, .d (.sl 4 L.length (flatE fctE L))), (9, .sl (.own 4) 4 (wantP f L).length (flatE fctE (wantP f L))), (10, .sl (.own 5) 4 (restP f L).length (flatE fctE (restP f L))), (11, .d (.c (.int .i64 L.length)))] := by rw [tqS, List.take_length]
      have eR : tqR f L L.length = [fRow f, some (.obj (tblC L 4096)), none, none, some (.tok (4 * (wantP f L).length)), some (.tok (4 * (restP f L).length))] := by rw [tqR, List.take_length]
      rw [eS, eR]
      have ko := of_ac L 4096 f.a ⟨#[]⟩ f.p
      have kg2 := gathO_ac L hok 4096 (by decide) f.a ⟨#[]⟩ f.p (-1)
      have hbeg : ∀ X : List Fct, begT (-1) X = X := fun X => by rw [begT, if_pos (by decide)]
      rw [hbeg] at kg2
      have hF := hok.sub (List.filter_sublist (p := ofB f.a ⟨#[]⟩ f.p))
      have hW := hok.sub (List.filter_sublist (p := soP f))
      have hFl := hF.len
      have hWl := hW.len
      have kk := rlikeF_ac (L.filter (ofB f.a ⟨#[]⟩ f.p)) (wantP f L) (by omega) (by rw [wantP]; omega) hF.ok hW.ok
      have how := of_want f L
      generalize hFe : L.filter (ofB f.a ⟨#[]⟩ f.p) = F at *
      refine rn1 (jn @fRow.eq_1 (jn @fctE.eq_1 (jn @tblC.eq_1 @hi))) ?_
      refine HO_callX ty_ok [1] ko (tbl_hand _ _ _ _ rfl) (tbl_wf _ _) ?_
      rintro v r' ⟨rfl, rfl⟩ _
      refine rn1 (jn @bO.eq_1 (jn @ofR.eq_1 (jn @tbl.eq_1 @tblC.eq_1))) ?_
      refine HO_callX ty_ok [1, 6, 7, 8, 9, 10, 11] kg2 (bO_hand _ _ _ _ _ _ _ _ _ _ _ _ _ rfl rfl rfl rfl rfl rfl rfl) (bO_wf _ _ _ _ _) ?_
      rintro v r' ⟨rfl, rfl⟩ _
      have htr := tkS_rest L f
      have hwin := fun i h => want_in hok f (i := i) h
      have hRl := (hok.sub (List.filter_sublist (p := fun g => !soP f g))).len
      have hRo := (hok.sub (List.filter_sublist (p := fun g => !soP f g))).ok
      change (restP f L).length ≤ _ at hRl
      change ∀ g ∈ restP f L, _ at hRo
      change (wantP f L).length ≤ _ at hWl
      have hWo := hW.ok
      change ∀ g ∈ wantP f L, _ at hWo
      generalize wantP f L = W at *
      generalize restP f L = R at *
      by_cases ha : f.a = ⟨#[]⟩
      · have ha' : (f.a = ⟨#[]⟩) = True := eq_true ha
        refine rn1 (jn @bO.eq_1 (jn @ofR.eq_1 (jn @tbl.eq_1 (jn @tblC.eq_1 @ha')))) ?_
        refine HC_loopR (fun i : Nat => tsS W R i) (fun i => tsR (tkS L (W.take i))) (fun i => i ≤ W.length) (fun i => W.length - i) 0 [0, 1, 0, 0, 0, 0, 0, 0, 0, 0, 0, 0] [] (Nat.zero_le _) ?_ ?_
        · have e1 : tkS L (W.take 0) = L := tkS_nil L
          exact ft1 (jn @tsS.eq_1 (jn @tsR.eq_1 (jn @tblC.eq_1 @e1)))
        intro i hi1
        refine HC_of_R ty_ok ?_
        by_cases hlt : i < W.length
        · have hi : (i : Int) < W.length := by omega
          have hd := flatE_drop fctE_len W i hlt
          have hlf := flatE_len fctE_len W
          obtain ⟨hw1, hw2⟩ := hwin i hlt
          have htk : W.take (i + 1) = W.take i ++ [W[i]] := List.take_succ_eq_append_getElem hlt
          have hgl : W[i].l.length ≤ 140737488352000 := Nat.le_trans (hWo _ (List.getElem_mem hlt)) (by decide)
          have kt1 := btake_ac (tkS L (W.take i)) 4096 (by decide) (tkS_ok hok _) W[i] hgl
          have kt2 := btake_ac (tkS L (W.take (i + 1))) 4096 (by decide) (tkS_ok hok _) W[i] hgl
          rw [tkS_snoc hok, ← htk, tkE, if_pos hw1] at kt1
          rw [← htk] at hw2
          rw [tkE, if_neg hw2, tkB, if_neg hw2] at kt2
          generalize W[i] = g at *
          simp only [fctE, List.cons_append, List.nil_append] at hd kt1 kt2
          refine rn1 (jn @tsS.eq_1 (jn @tsR.eq_1 (jn @tblC.eq_1 (jn @hi (jn @hd @hlf))))) ?_
          (repeat (refine And.intro (by omega) ?_))
          refine HO_callX ty_ok [1] kt1 (tbl_hand _ _ _ _ rfl) (tbl_wf _ _) ?_
          rintro v r' ⟨rfl, rfl⟩ _
          refine rn1 (jn @tbl.eq_1 (jn @tblC.eq_1 (jn @hi (jn @hd @hlf)))) ?_
          (repeat (refine And.intro (by omega) ?_))
          refine HO_callX ty_ok [1] kt2 (tbl_hand _ _ _ _ rfl) (tbl_wf _ _) ?_
          rintro v r' ⟨rfl, rfl⟩ _
          refine rn1 (jn @tbl.eq_1 @tblC.eq_1) ?_
          (repeat (refine And.intro (by omega) ?_))
          refine ⟨i + 1, (by omega), by omega, [0, 1, 0, 0, 0, 0, 0, 0, 0, 0, 0, 0], [], ?_⟩
          exact ft1 (jn @tsS.eq_1 (jn @tsR.eq_1 @tblC.eq_1))
        · have hi : ¬ (i : Int) < W.length := by omega
          have hiL : i = W.length := by omega
          subst hiL
          have hkR := tkS_ok hok W
          rw [List.take_length, htr]
          rw [htr] at hkR
          have ka2 := allT_ac R 4096
          have kg3 := gathT_ac R hkR 4096 (by decide)
          have kk2 := rlikeF_ac R R (by omega) (by omega) hRo hRo
          rw [decide_eq_true rfl] at kk2
          refine rn1 (jn @tsS.eq_1 (jn @tsR.eq_1 (jn @tblC.eq_1 @hi))) ?_
          refine HO_callX ty_ok [1] ka2 (tbl_hand _ _ _ _ rfl) (tbl_wf _ _) ?_
          rintro v r' ⟨rfl, rfl⟩ _
          refine rn1 (jn @bA.eq_1 (jn @tbl.eq_1 @tblC.eq_1)) ?_
          refine HO_callX ty_ok [1, 12, 13] kg3 (bA_hand _ _ _ _ _ _ rfl rfl rfl) (bA_wf _ _) ?_
          rintro v r' ⟨rfl, rfl⟩ _
          refine rn1 (jn @bA.eq_1 (jn @tbl.eq_1 @tblC.eq_1)) ?_
          refine HO_pureA ty_ok kk2 ?_
          refine rn0 ?_
          refine HO_pureA ty_ok blive_ac ?_
          exact rz0
      · by_cases hp : f.p = ⟨#[]⟩
        · have hp' : (f.p = ⟨#[]⟩) = True := eq_true hp
          refine rn1 (jn @bO.eq_1 (jn @ofR.eq_1 (jn @tbl.eq_1 (jn @tblC.eq_1 (jn @ha @hp'))))) ?_
          refine HC_loopR (fun i : Nat => tsS W R i) (fun i => tsR (tkS L (W.take i))) (fun i => i ≤ W.length) (fun i => W.length - i) 0 [0, 1, 0, 0, 0, 0, 0, 0, 0, 0, 0, 0] [] (Nat.zero_le _) ?_ ?_
          · have e1 : tkS L (W.take 0) = L := tkS_nil L
            exact ft1 (jn @tsS.eq_1 (jn @tsR.eq_1 (jn @tblC.eq_1 @e1)))
          intro i hi1
          refine HC_of_R ty_ok ?_
          by_cases hlt : i < W.length
          · have hi : (i : Int) < W.length := by omega
            have hd := flatE_drop fctE_len W i hlt
            have hlf := flatE_len fctE_len W
            obtain ⟨hw1, hw2⟩ := hwin i hlt
            have htk : W.take (i + 1) = W.take i ++ [W[i]] := List.take_succ_eq_append_getElem hlt
            have hgl : W[i].l.length ≤ 140737488352000 := Nat.le_trans (hWo _ (List.getElem_mem hlt)) (by decide)
            have kt1 := btake_ac (tkS L (W.take i)) 4096 (by decide) (tkS_ok hok _) W[i] hgl
            have kt2 := btake_ac (tkS L (W.take (i + 1))) 4096 (by decide) (tkS_ok hok _) W[i] hgl
            rw [tkS_snoc hok, ← htk, tkE, if_pos hw1] at kt1
            rw [← htk] at hw2
            rw [tkE, if_neg hw2, tkB, if_neg hw2] at kt2
            generalize W[i] = g at *
            simp only [fctE, List.cons_append, List.nil_append] at hd kt1 kt2
            refine rn1 (jn @tsS.eq_1 (jn @tsR.eq_1 (jn @tblC.eq_1 (jn @hi (jn @hd @hlf))))) ?_
            (repeat (refine And.intro (by omega) ?_))
            refine HO_callX ty_ok [1] kt1 (tbl_hand _ _ _ _ rfl) (tbl_wf _ _) ?_
            rintro v r' ⟨rfl, rfl⟩ _
            refine rn1 (jn @tbl.eq_1 (jn @tblC.eq_1 (jn @hi (jn @hd @hlf)))) ?_
            (repeat (refine And.intro (by omega) ?_))
            refine HO_callX ty_ok [1] kt2 (tbl_hand _ _ _ _ rfl) (tbl_wf _ _) ?_
            rintro v r' ⟨rfl, rfl⟩ _
            refine rn1 (jn @tbl.eq_1 @tblC.eq_1) ?_
            (repeat (refine And.intro (by omega) ?_))
            refine ⟨i + 1, (by omega), by omega, [0, 1, 0, 0, 0, 0, 0, 0, 0, 0, 0, 0], [], ?_⟩
            exact ft1 (jn @tsS.eq_1 (jn @tsR.eq_1 @tblC.eq_1))
          · have hi : ¬ (i : Int) < W.length := by omega
            have hiL : i = W.length := by omega
            subst hiL
            have hkR := tkS_ok hok W
            rw [List.take_length, htr]
            rw [htr] at hkR
            have ka2 := allT_ac R 4096
            have kg3 := gathT_ac R hkR 4096 (by decide)
            have kk2 := rlikeF_ac R R (by omega) (by omega) hRo hRo
            rw [decide_eq_true rfl] at kk2
            refine rn1 (jn @tsS.eq_1 (jn @tsR.eq_1 (jn @tblC.eq_1 @hi))) ?_
            refine HO_callX ty_ok [1] ka2 (tbl_hand _ _ _ _ rfl) (tbl_wf _ _) ?_
            rintro v r' ⟨rfl, rfl⟩ _
            refine rn1 (jn @bA.eq_1 (jn @tbl.eq_1 @tblC.eq_1)) ?_
            refine HO_callX ty_ok [1, 12, 13] kg3 (bA_hand _ _ _ _ _ _ rfl rfl rfl) (bA_wf _ _) ?_
            rintro v r' ⟨rfl, rfl⟩ _
            refine rn1 (jn @bA.eq_1 (jn @tbl.eq_1 @tblC.eq_1)) ?_
            refine HO_pureA ty_ok kk2 ?_
            refine rn0 ?_
            refine HO_pureA ty_ok blive_ac ?_
            exact rz0
        · have hFW : W = F := (how ha hp).symm
          subst hFW
          rw [decide_eq_true rfl] at kk
          refine rn1 (jn @bO.eq_1 (jn @ofR.eq_1 (jn @tbl.eq_1 (jn @tblC.eq_1 (jn @ha @hp))))) ?_
          refine HO_pureA ty_ok kk ?_
          refine rn0 ?_
          refine HC_loopR (fun i : Nat => tsS W R i) (fun i => tsR (tkS L (W.take i))) (fun i => i ≤ W.length) (fun i => W.length - i) 0 [0, 1, 0, 0, 0, 0, 0, 0, 0, 0, 0, 0] [] (Nat.zero_le _) ?_ ?_
          · have e1 : tkS L (W.take 0) = L := tkS_nil L
            exact ft1 (jn @tsS.eq_1 (jn @tsR.eq_1 (jn @tblC.eq_1 @e1)))
          intro i hi1
          refine HC_of_R ty_ok ?_
          by_cases hlt : i < W.length
          · have hi : (i : Int) < W.length := by omega
            have hd := flatE_drop fctE_len W i hlt
            have hlf := flatE_len fctE_len W
            obtain ⟨hw1, hw2⟩ := hwin i hlt
            have htk : W.take (i + 1) = W.take i ++ [W[i]] := List.take_succ_eq_append_getElem hlt
            have hgl : W[i].l.length ≤ 140737488352000 := Nat.le_trans (hWo _ (List.getElem_mem hlt)) (by decide)
            have kt1 := btake_ac (tkS L (W.take i)) 4096 (by decide) (tkS_ok hok _) W[i] hgl
            have kt2 := btake_ac (tkS L (W.take (i + 1))) 4096 (by decide) (tkS_ok hok _) W[i] hgl
            rw [tkS_snoc hok, ← htk, tkE, if_pos hw1] at kt1
            rw [← htk] at hw2
            rw [tkE, if_neg hw2, tkB, if_neg hw2] at kt2
            generalize W[i] = g at *
            simp only [fctE, List.cons_append, List.nil_append] at hd kt1 kt2
            refine rn1 (jn @tsS.eq_1 (jn @tsR.eq_1 (jn @tblC.eq_1 (jn @hi (jn @hd @hlf))))) ?_
            (repeat (refine And.intro (by omega) ?_))
            refine HO_callX ty_ok [1] kt1 (tbl_hand _ _ _ _ rfl) (tbl_wf _ _) ?_
            rintro v r' ⟨rfl, rfl⟩ _
            refine rn1 (jn @tbl.eq_1 (jn @tblC.eq_1 (jn @hi (jn @hd @hlf)))) ?_
            (repeat (refine And.intro (by omega) ?_))
            refine HO_callX ty_ok [1] kt2 (tbl_hand _ _ _ _ rfl) (tbl_wf _ _) ?_
            rintro v r' ⟨rfl, rfl⟩ _
            refine rn1 (jn @tbl.eq_1 @tblC.eq_1) ?_
            (repeat (refine And.intro (by omega) ?_))
            refine ⟨i + 1, (by omega), by omega, [0, 1, 0, 0, 0, 0, 0, 0, 0, 0, 0, 0], [], ?_⟩
            exact ft1 (jn @tsS.eq_1 (jn @tsR.eq_1 @tblC.eq_1))
          · have hi : ¬ (i : Int) < W.length := by omega
            have hiL : i = W.length := by omega
            subst hiL
            have hkR := tkS_ok hok W
            rw [List.take_length, htr]
            rw [htr] at hkR
            have ka2 := allT_ac R 4096
            have kg3 := gathT_ac R hkR 4096 (by decide)
            have kk2 := rlikeF_ac R R (by omega) (by omega) hRo hRo
            rw [decide_eq_true rfl] at kk2
            refine rn1 (jn @tsS.eq_1 (jn @tsR.eq_1 (jn @tblC.eq_1 @hi))) ?_
            refine HO_callX ty_ok [1] ka2 (tbl_hand _ _ _ _ rfl) (tbl_wf _ _) ?_
            rintro v r' ⟨rfl, rfl⟩ _
            refine rn1 (jn @bA.eq_1 (jn @tbl.eq_1 @tblC.eq_1)) ?_
            refine HO_callX ty_ok [1, 12, 13] kg3 (bA_hand _ _ _ _ _ _ rfl rfl rfl) (bA_wf _ _) ?_
            rintro v r' ⟨rfl, rfl⟩ _
            refine rn1 (jn @bA.eq_1 (jn @tbl.eq_1 @tblC.eq_1)) ?_
            refine HO_pureA ty_ok kk2 ?_
            refine rn0 ?_
            refine HO_pureA ty_ok blive_ac ?_
            exact rz0
end Go.Proofs.Ythdjblfiiogmgaa
