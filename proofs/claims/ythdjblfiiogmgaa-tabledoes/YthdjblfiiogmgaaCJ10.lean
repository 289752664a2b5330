/- Parts of the proof: RTb, RTbOf, RTbFn, TbLit, TbBeg. -/
import Derived.Test.YthdjblfiiogmgaaCJ8
import Derived.Test.YthdjblfiiogmgaaCJ9
import Derived.Test.YthdjblfiiogmgaaCJ6
set_option linter.unusedVariables false
set_option linter.unusedSimpArgs false
set_option maxRecDepth 100000
namespace Go.Proofs.Ythdjblfiiogmgaa
open Go Go.ChangeShapes Go.WideShapes
/-! The document's tables. -/
def wiSt (L : List Fct) (i : Nat) : List (Nat × AV) := [(0, .d (.sl 4 L.length (flatE fctE L))), (3, .ptr 0 0), (5, .d (.c (.int .i64 i)))]
def wiRe (f : Fct) : Rs := [some (.obj ((fctE f).map .d))]
def withB (L : List Fct) (f : Fct) : List Fct := if f ∈ L then L else insFc L f
theorem flatF_take {L : List Fct} {i : Nat} (h : i ≤ L.length) : flatE fctE (L.take i) = (flatE fctE L).take (i * 4) := by
  have h2 := flatE_len fctE_len (L.take i)
  rw [List.length_take] at h2
  have h3 := flatE_app fctE (L.take i) (L.drop i)
  rw [List.take_append_drop] at h3
  rw [h3, show i * 4 = (flatE fctE (L.take i)).length by omega, List.take_left]
theorem flatF_drop {L : List Fct} {i : Nat} (h : i ≤ L.length) : flatE fctE (L.drop i) = (flatE fctE L).drop (i * 4) := by
  have h2 := flatE_len fctE_len (L.take i)
  rw [List.length_take] at h2
  have h3 := flatE_app fctE (L.take i) (L.drop i)
  rw [List.take_append_drop] at h3
  rw [h3, show i * 4 = (flatE fctE (L.take i)).length by omega, List.drop_left]
set_option maxHeartbeats 1000000 in
theorem with_ac (L : List Fct) (hL : okB L) (f : Fct) (hf : f.l.length ≤ 140737488352000) : AC Try.prog noG 74 [.d (.sl 4 L.length (flatE fctE L)), .d (.agg (fctE f))] [] (fun v r' => v = .d (.sl 4 (withB L f).length (flatE fctE (withB L f))) ∧ r' = []) := by
  refine AC.fit ?_
  refine AC_of_R (N := 50) (res := [.tmp 4]) ty_ok Try.call74 Try.func74 rfl rfl rfl (Nat.le_of_ble_eq_true rfl) ?_
  have hl := hL.len
  have hp := posF_le L f
  have ei : flatE fctE (insFc L f) = (flatE fctE L).take (posF L f * 4) ++ fctE f ++ (flatE fctE L).drop (posF L f * 4) := by rw [ins_flatB, flatF_take hp, flatF_drop hp]
  have el : (insFc L f).length = posF L f + 1 + (L.length - posF L f) := by rw [insFc_len]; omega
  refine rn1 @fctE.eq_1 ?_
  refine HC_loopR (fun i : Nat => wiSt L i) (fun _ => wiRe f) (fun i => i ≤ posF L f) (fun i => posF L f - i) 0 [0] [] (Nat.zero_le _) ?_ ?_
  · exact ft1 (jn @wiSt.eq_1 (jn @wiRe.eq_1 @fctE.eq_1))
  intro i hi1
  refine HC_of_R ty_ok ?_
  by_cases hlt : i < L.length
  · have hi : (i : Int) < L.length := by omega
    have hd := flatE_drop fctE_len L i hlt
    have hle := flatE_len fctE_len L
    have kg := rord_ac L[i] f (Nat.le_trans (hL.ok _ (List.getElem_mem hlt)) (by decide)) hf
    by_cases hip : i < posF L f
    · have ho := posF_lt L f i hlt hip
      generalize L[i] = g at *
      simp only [fctE, List.cons_append, List.nil_append] at hd kg
      refine rn1 (jn @wiSt.eq_1 (jn @wiRe.eq_1 (jn @fctE.eq_1 @hi))) ?_
      refine HC_plan [] ty_ok mix (by kernel_rfl) ?_
      refine rn1 (jn @hi (jn @hd @hle)) ?_
      (repeat (refine And.intro (by omega) ?_))
      refine HO_pureA ty_ok kg ?_
      refine rn1 @ho ?_
      (repeat (refine And.intro (by omega) ?_))
      refine ⟨i + 1, (by omega), by omega, [0], [], ?_⟩
      exact ft1 (jn @wiSt.eq_1 (jn @wiRe.eq_1 @fctE.eq_1))
    · have hipe : i = posF L f := by omega
      have ho := posF_ge L f hL.srt i hlt (by omega)
      have hno : ¬ ordC L[i] f < 0 := by omega
      have hmem : f ∈ L ↔ ordC L[i] f = 0 := by
        have := posF_mem hL.srt f
        rw [decide_eq_decide] at this
        rw [this]
        constructor
        · rintro ⟨h, h0⟩; subst hipe; exact h0
        · intro h0; subst hipe; exact ⟨hlt, h0⟩
      generalize L[i] = g at *
      simp only [fctE, List.cons_append, List.nil_append] at hd kg
      refine rn1 (jn @wiSt.eq_1 (jn @wiRe.eq_1 (jn @fctE.eq_1 @hi))) ?_
      refine HC_plan [] ty_ok mix (by kernel_rfl) ?_
      refine rn1 (jn @hi (jn @hd @hle)) ?_
      (repeat (refine And.intro (by omega) ?_))
      refine HO_pureA ty_ok kg ?_
      refine rn1 @hno ?_
      refine HC_plan [] ty_ok mix (by kernel_rfl) ?_
      refine rn1 (jn @hi (jn @hd @hle)) ?_
      (repeat (refine And.intro (by omega) ?_))
      refine HO_pureA ty_ok kg ?_
      by_cases hm : f ∈ L
      · have h0 : (ordC g f = 0) = True := eq_true (hmem.1 hm)
        have e1 : withB L f = L := by rw [withB, if_pos hm]
        rw [e1]
        refine rn1 @h0 ?_
        exact fv0 [] []
      · have h0 : ¬ ordC g f = 0 := fun h => hm (hmem.2 h)
        have e1 : withB L f = insFc L f := by rw [withB, if_neg hm]
        rw [e1]
        refine rn1 @h0 ?_
        (repeat (refine And.intro (by omega) ?_))
        rw [ei, el]
        rw [← hipe]
        exact fv1 [] [] @fctE.eq_1
  · have hi : ¬ (i : Int) < L.length := by omega
    have hipe : i = posF L f := by omega
    have hm : f ∉ L := by
      intro h
      obtain ⟨h1, _⟩ := posF_in hL.srt h
      omega
    have e1 : withB L f = insFc L f := by rw [withB, if_neg hm]
    rw [e1]
    refine rn1 (jn @wiSt.eq_1 (jn @wiRe.eq_1 (jn @fctE.eq_1 @hi))) ?_
    refine HC_plan [] ty_ok mix (by kernel_rfl) ?_
    refine rn1 @hi ?_
    refine HC_plan [] ty_ok mix (by kernel_rfl) ?_
    refine rn1 @hi ?_
    (repeat (refine And.intro (by omega) ?_))
    rw [ei, el]
    rw [← hipe]
    exact fv1 [] [] @fctE.eq_1
theorem posF_last : ∀ {X : List Fct} {g : Fct}, (∀ x ∈ X, ordC x g < 0) → posF X g = X.length
  | [], g, _ => rfl
  | x :: X, g, h => by rw [posF, if_pos (h x (by simp)), posF_last fun y hy => h y (by simp [hy])]; rfl
theorem with_last {X : List Fct} {g : Fct} (h : ∀ x ∈ X, ordC x g < 0) : withB X g = X ++ [g] := by
  have hn : g ∉ X := fun hm => by have := h g hm; rw [ord_self] at this; omega
  rw [withB, if_neg hn, insFc, posF_last h, List.take_length, List.drop_length, List.append_nil]
def mnF (L : List Fct) (f : Fct) : List Fct := L.filter (fun x => !decide (x = f))
def mnSt (L : List Fct) (f : Fct) (i : Nat) : List (Nat × AV) := [(0, .d (.sl 4 L.length (flatE fctE L))), (1, .d (.sl 4 1 (fctE f))), (5, .d (.sl 4 (mnF (L.take i) f).length (flatE fctE (mnF (L.take i) f)))), (6, .d (.c (.int .i64 i)))]
set_option maxHeartbeats 1000000 in
theorem rminus_ac (L : List Fct) (hL : okB L) (f : Fct) (hf : f.l.length ≤ 140737488352000) : AC Try.prog noG 75 [.d (.sl 4 L.length (flatE fctE L)), .d (.sl 4 1 (fctE f))] [] (fun v r' => v = .d (.sl 4 (mnF L f).length (flatE fctE (mnF L f))) ∧ r' = []) := by
  refine AC.fit ?_
  refine AC_of_R (N := 27) (res := [.tmp 4]) ty_ok Try.call75 Try.func75 rfl rfl rfl (Nat.le_of_ble_eq_true rfl) ?_
  have hl := hL.len
  refine rn0 ?_
  refine HC_loopR (fun i : Nat => mnSt L f i) (fun _ => []) (fun i => i ≤ L.length) (fun i => L.length - i) 0 [] [] (Nat.zero_le _) ?_ ?_
  · have e1 : mnF (L.take 0) f = [] := rfl
    exact ft1 (jn @mnSt.eq_1 (jn @e1 @flatE_nil))
  intro i hi1
  refine HC_of_R ty_ok ?_
  by_cases hlt : i < L.length
  · have hi : (i : Int) < L.length := by omega
    have hd := flatE_drop fctE_len L i hlt
    have hle := flatE_len fctE_len L
    have hgl := hL.ok _ (List.getElem_mem hlt)
    have hX := hL.sub (L := L) (M := mnF (L.take i) f) (List.filter_sublist.trans (List.take_sublist _ _))
    have hst : mnF (L.take (i + 1)) f = mnF (L.take i) f ++ [L[i]].filter (fun x => !decide (x = f)) := by rw [mnF, List.take_succ_eq_append_getElem hlt, List.filter_append]; rfl
    have hlast : ∀ x ∈ mnF (L.take i) f, ordC x L[i] < 0 := fun x hx => by
      obtain ⟨j, hj, rfl⟩ := List.mem_iff_getElem.1 (List.mem_filter.1 hx).1
      rw [List.length_take] at hj
      rw [List.getElem_take]
      exact List.pairwise_iff_getElem.1 hL.srt j i (by omega) hlt (by omega)
    have kh := has_ac [f] (by simp) (by simpa using hf) L[i] (by omega)
    rw [show flatE fctE [f] = fctE f by simp [flatE], List.length_singleton] at kh
    have kw := with_ac (mnF (L.take i) f) hX L[i] (by omega)
    rw [with_last hlast] at kw
    clear hlast
    generalize L[i] = g at *
    by_cases hgf : g = f
    · have e2 : decide (g ∈ [f]) = true := by simp [hgf]
      have e3 : mnF (L.take (i + 1)) f = mnF (L.take i) f := by rw [hst, List.filter_cons, decide_eq_true hgf]; exact List.append_nil _
      rw [e2] at kh
      simp only [fctE, List.cons_append, List.nil_append] at hd kh
      refine rn1 (jn @mnSt.eq_1 (jn @hi (jn @hd (jn @hle @fctE.eq_1)))) ?_
      (repeat (refine And.intro (by omega) ?_))
      refine HO_pureA ty_ok kh ?_
      refine rn0 ?_
      (repeat (refine And.intro (by omega) ?_))
      refine ⟨i + 1, (by omega), by omega, [], [], ?_⟩
      rw [e3]
      exact ft1 (jn @mnSt.eq_1 @fctE.eq_1)
    · have e2 : decide (g ∈ [f]) = false := by simp [hgf]
      have e3 : mnF (L.take (i + 1)) f = mnF (L.take i) f ++ [g] := by rw [hst, List.filter_cons, decide_eq_false hgf]; rfl
      rw [e2] at kh
      rw [← e3] at kw
      simp only [fctE, List.cons_append, List.nil_append] at hd kh kw
      refine rn1 (jn @mnSt.eq_1 (jn @hi (jn @hd (jn @hle @fctE.eq_1)))) ?_
      (repeat (refine And.intro (by omega) ?_))
      refine HO_pureA ty_ok kh ?_
      refine rn1 (jn @hi (jn @hd @hle)) ?_
      (repeat (refine And.intro (by omega) ?_))
      refine HO_pureA ty_ok kw ?_
      refine rn0 ?_
      (repeat (refine And.intro (by omega) ?_))
      refine ⟨i + 1, (by omega), by omega, [], [], ?_⟩
      exact ft1 (jn @mnSt.eq_1 @fctE.eq_1)
  · have hi : ¬ (i : Int) < L.length := by omega
    have hiL : i = L.length := by omega
    subst hiL
    rw [mnSt, List.take_length]
    refine rn1 @hi ?_
    exact fv0 [] []
set_option maxHeartbeats 1000000 in
theorem rtake_ac (L : List Fct) (m : Int) (hL : okB L) (f : Fct) (hf : f.l.length ≤ 140737488352000) : AC Try.prog noG 44 [.ptr 0 0, .d (.agg (fctE f))] (tbl L m) (fun v r' => v = .d (.c (.int .i64 (tkE L f))) ∧ r' = tbl (tkB L f) m) := by
  refine AC.fit ?_
  refine AC_of_R (N := 22) (res := [.tmp 4]) ty_ok Try.call44 Try.func44 rfl rfl rfl (Nat.le_of_ble_eq_true rfl) ?_
  have hl := hL.len
  have kh := has_ac L (by omega) (fun g hg => Nat.le_trans (hL.ok g hg) (by decide)) f hf
  have km := rminus_ac L hL f hf
  rw [show mnF L f = tkB L f from (tkB_filter hL.srt f).symm] at km
  simp only [fctE, List.cons_append, List.nil_append] at kh km
  refine rn1 (jn @tbl.eq_1 (jn @tblC.eq_1 @fctE.eq_1)) ?_
  refine HC_plan [] ty_ok mix (by kernel_rfl) ?_
  refine rn0 ?_
  refine HO_pureA ty_ok kh ?_
  by_cases hm : f ∈ L
  · have e1 : tkE L f = 0 := by rw [tkE, if_pos hm]
    rw [e1, decide_eq_true hm]
    refine rn0 ?_
    refine HC_plan [] ty_ok mix (by kernel_rfl) ?_
    refine rn0 ?_
    refine HO_pureA ty_ok km ?_
    refine rn0 ?_
    exact fv1 [0] [] (jn @tbl.eq_1 @tblC.eq_1)
  · have e1 : tkE L f = 152 := by rw [tkE, if_neg hm]
    have e2 : tkB L f = L := by rw [tkB, if_neg hm]
    rw [e1, e2, decide_eq_false hm]
    refine rn0 ?_
    exact fv1 [0] [] (jn @tbl.eq_1 @tblC.eq_1)
set_option maxHeartbeats 1000000 in
theorem rput_ac (L : List Fct) (m : Int) (hL : okB L) (f : Fct) (hf : f.l.length ≤ 140737488352000) : AC Try.prog noG 43 [.ptr 0 0, .d (.agg (fctE f))] (tbl L m) (fun v r' => v = .d (.c (.int .i64 (errB L m f))) ∧ r' = tbl (insB L m f) m) := by
  refine AC.fit ?_
  refine AC_of_R (N := 33) (res := [.tmp 4]) ty_ok Try.call43 Try.func43 rfl rfl rfl (Nat.le_of_ble_eq_true rfl) ?_
  have hl := hL.len
  have kc := rfchk_ac f hf
  have kh := has_ac L (by omega) (fun g hg => Nat.le_trans (hL.ok g hg) (by decide)) f hf
  have kw := with_ac L hL f hf
  simp only [fctE, List.cons_append, List.nil_append] at kc kh kw
  refine rn1 (jn @tbl.eq_1 (jn @tblC.eq_1 @fctE.eq_1)) ?_
  refine HO_pureA ty_ok kc ?_
  by_cases hc : chkE f = 0
  · refine rn1 @hc ?_
    refine HC_plan [] ty_ok mix (by kernel_rfl) ?_
    refine rn0 ?_
    refine HO_pureA ty_ok kh ?_
    by_cases hi : f ∈ L
    · have e1 : errB L m f = 151 := by rw [errB, if_neg (by simp [hc]), if_pos hi]
      have e2 : insB L m f = L := by rw [insB, e1]; rfl
      rw [e1, e2, decide_eq_true hi]
      refine rn0 ?_
      exact fv1 [0] [] (jn @tbl.eq_1 @tblC.eq_1)
    · rw [decide_eq_false hi]
      refine rn0 ?_
      refine HC_plan [] ty_ok mix (by kernel_rfl) ?_
      by_cases hg : (L.length : Int) ≥ m
      · have e1 : errB L m f = 150 := by rw [errB, if_neg (by simp [hc]), if_neg hi, if_pos hg]
        have e2 : insB L m f = L := by rw [insB, e1]; rfl
        rw [e1, e2]
        refine rn1 @hg ?_
        exact fv1 [0] [] (jn @tbl.eq_1 @tblC.eq_1)
      · have e1 : errB L m f = 0 := by rw [errB, if_neg (by simp [hc]), if_neg hi, if_neg (by omega)]
        have e2 : insB L m f = withB L f := by rw [insB, if_pos e1, withB, if_neg hi]
        rw [e1, e2]
        refine rn1 @hg ?_
        refine HC_plan [] ty_ok mix (by kernel_rfl) ?_
        refine rn0 ?_
        refine HO_pureA ty_ok kw ?_
        refine rn0 ?_
        exact fv1 [0] [] (jn @tbl.eq_1 @tblC.eq_1)
  · have e0 : chkE f = 40 := chkE_no (fun h => hc (chkE_ok h))
    have e1 : errB L m f = 40 := by rw [errB, if_pos hc, e0]
    have e2 : insB L m f = L := by rw [insB, if_neg (by rw [e1]; decide)]
    rw [e1, e2, e0]
    refine rn0 ?_
    exact fv1 [0] [] (jn @tbl.eq_1 @tblC.eq_1)
theorem rnew_ac (m : Int) (h1 : 1 ≤ m) (h2 : m ≤ 4096) : AC Try.prog noG 41 [.d (.c (.int .i64 m))] [] (fun v r' => v = .tup [.ptr 0 0, .d (.c (.int .i64 0))] ∧ r' = tbl [] m) := by
  refine AC.fit ?_
  refine AC_of_R (N := 13) (res := [.tmp 2, .tmp 3]) ty_ok Try.call41 Try.func41 rfl rfl rfl (Nat.le_of_ble_eq_true rfl) ?_
  have g1 : ¬ m < 1 := by omega
  have g2 : ¬ m > 4096 := by omega
  refine rn1 (jn @g1 @g2) ?_
  exact fv1 [0] [] (jn @tbl.eq_1 (jn @tblC.eq_1 @flatE_nil))
end Go.Proofs.Ythdjblfiiogmgaa

set_option linter.unusedVariables false
set_option linter.unusedSimpArgs false
set_option maxRecDepth 100000
namespace Go.Proofs.Ythdjblfiiogmgaa
open Go Go.ChangeShapes Go.WideShapes
/-! The document's Of and Find. -/
def roSt (a b p : ByteArray) (X : List Fct) (i : Nat) : List (Nat × AV) := [(0, .ptr 0 0), (1, .d (.c (.string a))), (2, .d (.c (.string b))), (3, .d (.c (.string p))), (9, .sl (.own 1) 4 X.length (flatE fctE X)), (10, .d (.c (.int .i64 i)))]
def roRe (L : List Fct) (m : Int) (X : List Fct) : Rs := tbl L m ++ [some (.tok (4 * X.length))]
set_option maxHeartbeats 2000000 in
theorem rof_ac (L : List Fct) (m : Int) (hL : okB L) (a b p : ByteArray) : AC Try.prog noG 47 [.ptr 0 0, .d (.c (.string a)), .d (.c (.string b)), .d (.c (.string p))] (tbl L m) (fun v r' => v = .d (.sl 4 (L.filter (ofB a b p)).length (flatE fctE (L.filter (ofB a b p)))) ∧ r' = tbl L m) := by
  refine AC.fit ?_
  refine AC_of_R (N := 61) (res := [.tmp 8]) ty_ok Try.call47 Try.func47 rfl rfl rfl (Nat.le_of_ble_eq_true rfl) ?_
  have hl := hL.len
  refine rn1 (jn @tbl.eq_1 @tblC.eq_1) ?_
  refine HC_loopR (fun i : Nat => roSt a b p ((L.take i).filter (ofB a b p)) i) (fun i => roRe L m ((L.take i).filter (ofB a b p))) (fun i => i ≤ L.length) (fun i => L.length - i) 0 [0, 1] [0] (Nat.zero_le _) ?_ ?_
  · have e1 : (L.take 0).filter (ofB a b p) = [] := rfl
    exact ft1 (jn @roSt.eq_1 (jn @roRe.eq_1 (jn @tbl.eq_1 (jn @tblC.eq_1 (jn @e1 @flatE_nil)))))
  intro i hi1
  refine HC_of_R ty_ok ?_
  by_cases hlt : i < L.length
  · have hi : (i : Int) < L.length := by omega
    have hd := flatE_drop fctE_len L i hlt
    have hle := flatE_len fctE_len L
    have hst : (L.take (i + 1)).filter (ofB a b p) = (L.take i).filter (ofB a b p) ++ [L[i]].filter (ofB a b p) := by rw [List.take_succ_eq_append_getElem hlt, List.filter_append]
    have hXl : ((L.take i).filter (ofB a b p)).length ≤ i := by have := List.length_filter_le (ofB a b p) (L.take i); rw [List.length_take] at this; omega
    have hxf := flatE_len fctE_len ((L.take i).filter (ofB a b p))
    generalize L[i] = g at *
    have ef : ∀ X : List Fct, flatE fctE (X ++ [g]) = flatE fctE X ++ [.c (.string g.a), .c (.string g.b), .c (.string g.p), .sl 3 g.l.length (flatE cstE g.l)] := fun X => by rw [flatE_app]; simp [flatE, fctE]
    have el : ∀ X : List Fct, (X ++ [g]).length = X.length + 1 := fun X => by simp
    generalize (L.take i).filter (ofB a b p) = X at *
    simp only [fctE, List.cons_append, List.nil_append] at hd
    by_cases ha1 : a = ⟨#[]⟩
    · have ha1' := eq_true ha1
      by_cases hb1 : b = ⟨#[]⟩
      · have hb1' := eq_true hb1
        by_cases hp1 : p = ⟨#[]⟩
        · have hp1' := eq_true hp1
          have hso : ofB a b p g = true := by rw [ofB, isB, isB, isB]; simp [ha1, hb1, hp1]
          have e3 : (L.take (i + 1)).filter (ofB a b p) = X ++ [g] := by rw [hst, List.filter_cons, hso]; rfl
          refine rn1 (jn @roSt.eq_1 (jn @roRe.eq_1 (jn @tbl.eq_1 (jn @tblC.eq_1 (jn @hi (jn @hd (jn @hle (jn @hxf (jn @ha1' (jn @hb1' @hp1')))))))))) ?_
          (repeat (refine And.intro (by omega) ?_))
          refine ⟨i + 1, (by omega), by omega, [0, 1], [], ?_⟩
          rw [e3]
          exact ft1 (jn @roSt.eq_1 (jn @roRe.eq_1 (jn @tbl.eq_1 (jn @tblC.eq_1 (jn @ef (jn @el @hxf))))))
        · have hp1' := eq_false hp1
          by_cases hp2 : p = g.p
          · have hp2' := eq_true hp2
            have hso : ofB a b p g = true := by rw [ofB, isB, isB, isB]; simp [ha1, hb1, hp1, hp2]
            have e3 : (L.take (i + 1)).filter (ofB a b p) = X ++ [g] := by rw [hst, List.filter_cons, hso]; rfl
            refine rn1 (jn @roSt.eq_1 (jn @roRe.eq_1 (jn @tbl.eq_1 (jn @tblC.eq_1 (jn @hi (jn @hd (jn @hle (jn @hxf (jn @ha1' (jn @hb1' (jn @hp1' @hp2'))))))))))) ?_
            (repeat (refine And.intro (by omega) ?_))
            refine ⟨i + 1, (by omega), by omega, [0, 1], [], ?_⟩
            rw [e3]
            exact ft1 (jn @roSt.eq_1 (jn @roRe.eq_1 (jn @tbl.eq_1 (jn @tblC.eq_1 (jn @ef (jn @el @hxf))))))
          · have hp2' := eq_false hp2
            have hso : ofB a b p g = false := by rw [ofB, isB, isB, isB]; simp [ha1, hb1, hp1, hp2]
            have e3 : (L.take (i + 1)).filter (ofB a b p) = X := by rw [hst, List.filter_cons, hso]; exact List.append_nil _
            refine rn1 (jn @roSt.eq_1 (jn @roRe.eq_1 (jn @tbl.eq_1 (jn @tblC.eq_1 (jn @hi (jn @hd (jn @hle (jn @hxf (jn @ha1' (jn @hb1' (jn @hp1' @hp2'))))))))))) ?_
            (repeat (refine And.intro (by omega) ?_))
            refine ⟨i + 1, (by omega), by omega, [0, 1], [], ?_⟩
            rw [e3]
            exact ft1 (jn @roSt.eq_1 (jn @roRe.eq_1 (jn @tbl.eq_1 (jn @tblC.eq_1 @hxf))))
      · have hb1' := eq_false hb1
        by_cases hb2 : b = g.b
        · have hb2' := eq_true hb2
          by_cases hp1 : p = ⟨#[]⟩
          · have hp1' := eq_true hp1
            have hso : ofB a b p g = true := by rw [ofB, isB, isB, isB]; simp [ha1, hb1, hb2, hp1]
            have e3 : (L.take (i + 1)).filter (ofB a b p) = X ++ [g] := by rw [hst, List.filter_cons, hso]; rfl
            refine rn1 (jn @roSt.eq_1 (jn @roRe.eq_1 (jn @tbl.eq_1 (jn @tblC.eq_1 (jn @hi (jn @hd (jn @hle (jn @hxf (jn @ha1' (jn @hb1' (jn @hb2' @hp1'))))))))))) ?_
            (repeat (refine And.intro (by omega) ?_))
            refine ⟨i + 1, (by omega), by omega, [0, 1], [], ?_⟩
            rw [e3]
            exact ft1 (jn @roSt.eq_1 (jn @roRe.eq_1 (jn @tbl.eq_1 (jn @tblC.eq_1 (jn @ef (jn @el @hxf))))))
          · have hp1' := eq_false hp1
            by_cases hp2 : p = g.p
            · have hp2' := eq_true hp2
              have hso : ofB a b p g = true := by rw [ofB, isB, isB, isB]; simp [ha1, hb1, hb2, hp1, hp2]
              have e3 : (L.take (i + 1)).filter (ofB a b p) = X ++ [g] := by rw [hst, List.filter_cons, hso]; rfl
              refine rn1 (jn @roSt.eq_1 (jn @roRe.eq_1 (jn @tbl.eq_1 (jn @tblC.eq_1 (jn @hi (jn @hd (jn @hle (jn @hxf (jn @ha1' (jn @hb1' (jn @hb2' (jn @hp1' @hp2')))))))))))) ?_
              (repeat (refine And.intro (by omega) ?_))
              refine ⟨i + 1, (by omega), by omega, [0, 1], [], ?_⟩
              rw [e3]
              exact ft1 (jn @roSt.eq_1 (jn @roRe.eq_1 (jn @tbl.eq_1 (jn @tblC.eq_1 (jn @ef (jn @el @hxf))))))
            · have hp2' := eq_false hp2
              have hso : ofB a b p g = false := by rw [ofB, isB, isB, isB]; simp [ha1, hb1, hb2, hp1, hp2]
              have e3 : (L.take (i + 1)).filter (ofB a b p) = X := by rw [hst, List.filter_cons, hso]; exact List.append_nil _
              refine rn1 (jn @roSt.eq_1 (jn @roRe.eq_1 (jn @tbl.eq_1 (jn @tblC.eq_1 (jn @hi (jn @hd (jn @hle (jn @hxf (jn @ha1' (jn @hb1' (jn @hb2' (jn @hp1' @hp2')))))))))))) ?_
              (repeat (refine And.intro (by omega) ?_))
              refine ⟨i + 1, (by omega), by omega, [0, 1], [], ?_⟩
              rw [e3]
              exact ft1 (jn @roSt.eq_1 (jn @roRe.eq_1 (jn @tbl.eq_1 (jn @tblC.eq_1 @hxf))))
        · have hb2' := eq_false hb2
          have hso : ofB a b p g = false := by rw [ofB, isB, isB, isB]; simp [ha1, hb1, hb2]
          have e3 : (L.take (i + 1)).filter (ofB a b p) = X := by rw [hst, List.filter_cons, hso]; exact List.append_nil _
          refine rn1 (jn @roSt.eq_1 (jn @roRe.eq_1 (jn @tbl.eq_1 (jn @tblC.eq_1 (jn @hi (jn @hd (jn @hle (jn @hxf (jn @ha1' (jn @hb1' @hb2')))))))))) ?_
          (repeat (refine And.intro (by omega) ?_))
          refine ⟨i + 1, (by omega), by omega, [0, 1], [], ?_⟩
          rw [e3]
          exact ft1 (jn @roSt.eq_1 (jn @roRe.eq_1 (jn @tbl.eq_1 (jn @tblC.eq_1 @hxf))))
    · have ha1' := eq_false ha1
      by_cases ha2 : a = g.a
      · have ha2' := eq_true ha2
        by_cases hb1 : b = ⟨#[]⟩
        · have hb1' := eq_true hb1
          by_cases hp1 : p = ⟨#[]⟩
          · have hp1' := eq_true hp1
            have hso : ofB a b p g = true := by rw [ofB, isB, isB, isB]; simp [ha1, ha2, hb1, hp1]
            have e3 : (L.take (i + 1)).filter (ofB a b p) = X ++ [g] := by rw [hst, List.filter_cons, hso]; rfl
            refine rn1 (jn @roSt.eq_1 (jn @roRe.eq_1 (jn @tbl.eq_1 (jn @tblC.eq_1 (jn @hi (jn @hd (jn @hle (jn @hxf (jn @ha1' (jn @ha2' (jn @hb1' @hp1'))))))))))) ?_
            (repeat (refine And.intro (by omega) ?_))
            refine ⟨i + 1, (by omega), by omega, [0, 1], [], ?_⟩
            rw [e3]
            exact ft1 (jn @roSt.eq_1 (jn @roRe.eq_1 (jn @tbl.eq_1 (jn @tblC.eq_1 (jn @ef (jn @el @hxf))))))
          · have hp1' := eq_false hp1
            by_cases hp2 : p = g.p
            · have hp2' := eq_true hp2
              have hso : ofB a b p g = true := by rw [ofB, isB, isB, isB]; simp [ha1, ha2, hb1, hp1, hp2]
              have e3 : (L.take (i + 1)).filter (ofB a b p) = X ++ [g] := by rw [hst, List.filter_cons, hso]; rfl
              refine rn1 (jn @roSt.eq_1 (jn @roRe.eq_1 (jn @tbl.eq_1 (jn @tblC.eq_1 (jn @hi (jn @hd (jn @hle (jn @hxf (jn @ha1' (jn @ha2' (jn @hb1' (jn @hp1' @hp2')))))))))))) ?_
              (repeat (refine And.intro (by omega) ?_))
              refine ⟨i + 1, (by omega), by omega, [0, 1], [], ?_⟩
              rw [e3]
              exact ft1 (jn @roSt.eq_1 (jn @roRe.eq_1 (jn @tbl.eq_1 (jn @tblC.eq_1 (jn @ef (jn @el @hxf))))))
            · have hp2' := eq_false hp2
              have hso : ofB a b p g = false := by rw [ofB, isB, isB, isB]; simp [ha1, ha2, hb1, hp1, hp2]
              have e3 : (L.take (i + 1)).filter (ofB a b p) = X := by rw [hst, List.filter_cons, hso]; exact List.append_nil _
              refine rn1 (jn @roSt.eq_1 (jn @roRe.eq_1 (jn @tbl.eq_1 (jn @tblC.eq_1 (jn @hi (jn @hd (jn @hle (jn @hxf (jn @ha1' (jn @ha2' (jn @hb1' (jn @hp1' @hp2')))))))))))) ?_
              (repeat (refine And.intro (by omega) ?_))
              refine ⟨i + 1, (by omega), by omega, [0, 1], [], ?_⟩
              rw [e3]
              exact ft1 (jn @roSt.eq_1 (jn @roRe.eq_1 (jn @tbl.eq_1 (jn @tblC.eq_1 @hxf))))
        · have hb1' := eq_false hb1
          by_cases hb2 : b = g.b
          · have hb2' := eq_true hb2
            by_cases hp1 : p = ⟨#[]⟩
            · have hp1' := eq_true hp1
              have hso : ofB a b p g = true := by rw [ofB, isB, isB, isB]; simp [ha1, ha2, hb1, hb2, hp1]
              have e3 : (L.take (i + 1)).filter (ofB a b p) = X ++ [g] := by rw [hst, List.filter_cons, hso]; rfl
              refine rn1 (jn @roSt.eq_1 (jn @roRe.eq_1 (jn @tbl.eq_1 (jn @tblC.eq_1 (jn @hi (jn @hd (jn @hle (jn @hxf (jn @ha1' (jn @ha2' (jn @hb1' (jn @hb2' @hp1')))))))))))) ?_
              (repeat (refine And.intro (by omega) ?_))
              refine ⟨i + 1, (by omega), by omega, [0, 1], [], ?_⟩
              rw [e3]
              exact ft1 (jn @roSt.eq_1 (jn @roRe.eq_1 (jn @tbl.eq_1 (jn @tblC.eq_1 (jn @ef (jn @el @hxf))))))
            · have hp1' := eq_false hp1
              by_cases hp2 : p = g.p
              · have hp2' := eq_true hp2
                have hso : ofB a b p g = true := by rw [ofB, isB, isB, isB]; simp [ha1, ha2, hb1, hb2, hp1, hp2]
                have e3 : (L.take (i + 1)).filter (ofB a b p) = X ++ [g] := by rw [hst, List.filter_cons, hso]; rfl
                refine rn1 (jn @roSt.eq_1 (jn @roRe.eq_1 (jn @tbl.eq_1 (jn @tblC.eq_1 (jn @hi (jn @hd (jn @hle (jn @hxf (jn @ha1' (jn @ha2' (jn @hb1' (jn @hb2' (jn @hp1' @hp2'))))))))))))) ?_
                (repeat (refine And.intro (by omega) ?_))
                refine ⟨i + 1, (by omega), by omega, [0, 1], [], ?_⟩
                rw [e3]
                exact ft1 (jn @roSt.eq_1 (jn @roRe.eq_1 (jn @tbl.eq_1 (jn @tblC.eq_1 (jn @ef (jn @el @hxf))))))
              · have hp2' := eq_false hp2
                have hso : ofB a b p g = false := by rw [ofB, isB, isB, isB]; simp [ha1, ha2, hb1, hb2, hp1, hp2]
                have e3 : (L.take (i + 1)).filter (ofB a b p) = X := by rw [hst, List.filter_cons, hso]; exact List.append_nil _
                refine rn1 (jn @roSt.eq_1 (jn @roRe.eq_1 (jn @tbl.eq_1 (jn @tblC.eq_1 (jn @hi (jn @hd (jn @hle (jn @hxf (jn @ha1' (jn @ha2' (jn @hb1' (jn @hb2' (jn @hp1' @hp2'))))))))))))) ?_
                (repeat (refine And.intro (by omega) ?_))
                refine ⟨i + 1, (by omega), by omega, [0, 1], [], ?_⟩
                rw [e3]
                exact ft1 (jn @roSt.eq_1 (jn @roRe.eq_1 (jn @tbl.eq_1 (jn @tblC.eq_1 @hxf))))
          · have hb2' := eq_false hb2
            have hso : ofB a b p g = false := by rw [ofB, isB, isB, isB]; simp [ha1, ha2, hb1, hb2]
            have e3 : (L.take (i + 1)).filter (ofB a b p) = X := by rw [hst, List.filter_cons, hso]; exact List.append_nil _
            refine rn1 (jn @roSt.eq_1 (jn @roRe.eq_1 (jn @tbl.eq_1 (jn @tblC.eq_1 (jn @hi (jn @hd (jn @hle (jn @hxf (jn @ha1' (jn @ha2' (jn @hb1' @hb2'))))))))))) ?_
            (repeat (refine And.intro (by omega) ?_))
            refine ⟨i + 1, (by omega), by omega, [0, 1], [], ?_⟩
            rw [e3]
            exact ft1 (jn @roSt.eq_1 (jn @roRe.eq_1 (jn @tbl.eq_1 (jn @tblC.eq_1 @hxf))))
      · have ha2' := eq_false ha2
        have hso : ofB a b p g = false := by rw [ofB, isB, isB, isB]; simp [ha1, ha2]
        have e3 : (L.take (i + 1)).filter (ofB a b p) = X := by rw [hst, List.filter_cons, hso]; exact List.append_nil _
        refine rn1 (jn @roSt.eq_1 (jn @roRe.eq_1 (jn @tbl.eq_1 (jn @tblC.eq_1 (jn @hi (jn @hd (jn @hle (jn @hxf (jn @ha1' @ha2'))))))))) ?_
        (repeat (refine And.intro (by omega) ?_))
        refine ⟨i + 1, (by omega), by omega, [0, 1], [], ?_⟩
        rw [e3]
        exact ft1 (jn @roSt.eq_1 (jn @roRe.eq_1 (jn @tbl.eq_1 (jn @tblC.eq_1 @hxf))))
  · have hi : ¬ (i : Int) < L.length := by omega
    have hiL : i = L.length := by omega
    subst hiL
    rw [List.take_length]
    refine rn1 (jn @roSt.eq_1 (jn @roRe.eq_1 (jn @tbl.eq_1 (jn @tblC.eq_1 @hi)))) ?_
    exact fv1 [0] [] (jn @tbl.eq_1 @tblC.eq_1)
end Go.Proofs.Ythdjblfiiogmgaa

set_option linter.unusedVariables false
set_option linter.unusedSimpArgs false
set_option maxRecDepth 100000
namespace Go.Proofs.Ythdjblfiiogmgaa
open Go Go.ChangeShapes Go.WideShapes
def rfSt (p : ByteArray) (k : Int) (X : List Fct) (i : Nat) : List (Nat × AV) := [(0, .ptr 0 0), (1, .d (.c (.string p))), (2, .d (.c (.int .i64 k))), (7, .ptr 1 0), (9, .sl (.own 2) 4 X.length (flatE fctE X)), (10, .d (.c (.int .i64 i)))]
def rfRe (L : List Fct) (m : Int) (c : Cst) (X : List Fct) : Rs := tbl L m ++ [some (.obj ((cstE c).map .d)), some (.tok (4 * X.length))]
set_option maxHeartbeats 2000000 in
theorem rfind_ac (L : List Fct) (m : Int) (hL : okB L) (p : ByteArray) (k : Int) (c : Cst) : AC Try.prog noG 49 [.ptr 0 0, .d (.c (.string p)), .d (.c (.int .i64 k)), .d (.agg (cstE c))] (tbl L m) (fun v r' => v = .d (.sl 4 (L.filter (fndB p k c)).length (flatE fctE (L.filter (fndB p k c)))) ∧ r' = tbl L m) := by
  refine AC.fit ?_
  refine AC_of_R (N := 58) (res := [.tmp 8]) ty_ok Try.call49 Try.func49 rfl rfl rfl (Nat.le_of_ble_eq_true rfl) ?_
  have hl := hL.len
  refine rn1 (jn @tbl.eq_1 (jn @tblC.eq_1 @cstE.eq_1)) ?_
  refine HC_loopR (fun i : Nat => rfSt p k ((L.take i).filter (fndB p k c)) i) (fun i => rfRe L m c ((L.take i).filter (fndB p k c))) (fun i => i ≤ L.length) (fun i => L.length - i) 0 [0, 1, 2] [0] (Nat.zero_le _) ?_ ?_
  · have e1 : (L.take 0).filter (fndB p k c) = [] := rfl
    exact ft1 (jn @rfSt.eq_1 (jn @rfRe.eq_1 (jn @tbl.eq_1 (jn @tblC.eq_1 (jn @cstE.eq_1 (jn @e1 @flatE_nil))))))
  intro i hi1
  refine HC_of_R ty_ok ?_
  by_cases hlt : i < L.length
  · have hi : (i : Int) < L.length := by omega
    have hd := flatE_drop fctE_len L i hlt
    have hle := flatE_len fctE_len L
    have hst : (L.take (i + 1)).filter (fndB p k c) = (L.take i).filter (fndB p k c) ++ [L[i]].filter (fndB p k c) := by rw [List.take_succ_eq_append_getElem hlt, List.filter_append]
    have hXl : ((L.take i).filter (fndB p k c)).length ≤ i := by have := List.length_filter_le (fndB p k c) (L.take i); rw [List.length_take] at this; omega
    have hxf := flatE_len fctE_len ((L.take i).filter (fndB p k c))
    generalize L[i] = g at *
    have ef : ∀ X : List Fct, flatE fctE (X ++ [g]) = flatE fctE X ++ [.c (.string g.a), .c (.string g.b), .c (.string g.p), .sl 3 g.l.length (flatE cstE g.l)] := fun X => by rw [flatE_app]; simp [flatE, fctE]
    have el : ∀ X : List Fct, (X ++ [g]).length = X.length + 1 := fun X => by simp
    generalize (L.take i).filter (fndB p k c) = X at *
    simp only [fctE, List.cons_append, List.nil_append] at hd
    by_cases hp : g.p = p
    · have hp' : (g.p = p) = True := eq_true hp
      by_cases hk0 : k ≥ 0
      · by_cases hk1 : k < g.l.length
        · obtain ⟨kn, rfl⟩ : ∃ kn : Nat, k = kn := ⟨k.toNat, by omega⟩
          have hkn : kn < g.l.length := by omega
          have hkI : (kn : Int) < g.l.length := by omega
          have hkz : (kn : Int) ≥ 0 := by omega
          have hdk := flatE_drop cstE_len g.l kn hkn
          have hlk := flatE_len cstE_len g.l
          have hgk : g.l[((kn : Int)).toNat]? = some g.l[kn] := List.getElem?_eq_getElem hkn
          have kz := cstC_zero (a := g.l[kn]) (b := c)
          generalize g.l[kn] = a at *
          have kc := rfcmp_ac a c
          simp only [cstE, List.cons_append, List.nil_append] at hdk kc
          refine rn1 (jn @rfSt.eq_1 (jn @rfRe.eq_1 (jn @tbl.eq_1 (jn @tblC.eq_1 (jn @cstE.eq_1 (jn @hi (jn @hd @hle))))))) ?_
          (repeat (refine And.intro (by omega) ?_))
          refine HC_plan [] ty_ok mix (by kernel_rfl) ?_
          refine rn1 (jn @hp' (jn @hkI (jn @hkz (jn @hdk @hlk)))) ?_
          (repeat (refine And.intro (by omega) ?_))
          refine HO_pureA ty_ok kc ?_
          by_cases hac : a = c
          · have hz : (cstC a c = 0) = True := eq_true (kz.2 hac)
            have hso : fndB p kn c g = true := by rw [fndB, decide_eq_true hp, decide_eq_true (show (0 : Int) ≤ kn by omega), decide_eq_true hkI, decide_eq_true (by rw [hgk, hac])]; rfl
            have e3 : (L.take (i + 1)).filter (fndB p kn c) = X ++ [g] := by rw [hst, List.filter_cons, hso]; rfl
            refine rn1 (jn @hz @hxf) ?_
            (repeat (refine And.intro (by omega) ?_))
            refine ⟨i + 1, (by omega), by omega, [0, 1, 2], [], ?_⟩
            rw [e3]
            exact ft1 (jn @rfSt.eq_1 (jn @rfRe.eq_1 (jn @tbl.eq_1 (jn @tblC.eq_1 (jn @cstE.eq_1 (jn @ef (jn @el @hxf)))))))
          · have hz : ¬ cstC a c = 0 := fun h => hac (kz.1 h)
            have hso : fndB p kn c g = false := by rw [fndB, decide_eq_true hp, decide_eq_true (show (0 : Int) ≤ kn by omega), decide_eq_true hkI, decide_eq_false (by rw [hgk]; intro h; injection h with h; exact hac h)]; rfl
            have e3 : (L.take (i + 1)).filter (fndB p kn c) = X := by rw [hst, List.filter_cons, hso]; exact List.append_nil _
            refine rn1 (jn @hz @hxf) ?_
            (repeat (refine And.intro (by omega) ?_))
            refine ⟨i + 1, (by omega), by omega, [0, 1, 2], [], ?_⟩
            rw [e3]
            exact ft1 (jn @rfSt.eq_1 (jn @rfRe.eq_1 (jn @tbl.eq_1 (jn @tblC.eq_1 (jn @cstE.eq_1 @hxf)))))
        · have hso : fndB p k c g = false := by rw [fndB, decide_eq_true hp, decide_eq_true (show 0 ≤ k by omega), decide_eq_false hk1]; rfl
          have e3 : (L.take (i + 1)).filter (fndB p k c) = X := by rw [hst, List.filter_cons, hso]; exact List.append_nil _
          refine rn1 (jn @rfSt.eq_1 (jn @rfRe.eq_1 (jn @tbl.eq_1 (jn @tblC.eq_1 (jn @cstE.eq_1 (jn @hi (jn @hd @hle))))))) ?_
          (repeat (refine And.intro (by omega) ?_))
          refine HC_plan [] ty_ok mix (by kernel_rfl) ?_
          refine rn1 (jn @hp' (jn @hk0 (jn @hk1 @hxf))) ?_
          (repeat (refine And.intro (by omega) ?_))
          refine ⟨i + 1, (by omega), by omega, [0, 1, 2], [], ?_⟩
          rw [e3]
          exact ft1 (jn @rfSt.eq_1 (jn @rfRe.eq_1 (jn @tbl.eq_1 (jn @tblC.eq_1 (jn @cstE.eq_1 @hxf)))))
      · have hso : fndB p k c g = false := by rw [fndB, decide_eq_true hp, decide_eq_false (show ¬ 0 ≤ k by omega)]; rfl
        have e3 : (L.take (i + 1)).filter (fndB p k c) = X := by rw [hst, List.filter_cons, hso]; exact List.append_nil _
        refine rn1 (jn @rfSt.eq_1 (jn @rfRe.eq_1 (jn @tbl.eq_1 (jn @tblC.eq_1 (jn @cstE.eq_1 (jn @hi (jn @hd @hle))))))) ?_
        (repeat (refine And.intro (by omega) ?_))
        refine HC_plan [] ty_ok mix (by kernel_rfl) ?_
        refine rn1 (jn @hp' (jn @hk0 @hxf)) ?_
        (repeat (refine And.intro (by omega) ?_))
        refine ⟨i + 1, (by omega), by omega, [0, 1, 2], [], ?_⟩
        rw [e3]
        exact ft1 (jn @rfSt.eq_1 (jn @rfRe.eq_1 (jn @tbl.eq_1 (jn @tblC.eq_1 (jn @cstE.eq_1 @hxf)))))
    · have hso : fndB p k c g = false := by rw [fndB, decide_eq_false hp]; rfl
      have e3 : (L.take (i + 1)).filter (fndB p k c) = X := by rw [hst, List.filter_cons, hso]; exact List.append_nil _
      refine rn1 (jn @rfSt.eq_1 (jn @rfRe.eq_1 (jn @tbl.eq_1 (jn @tblC.eq_1 (jn @cstE.eq_1 (jn @hi (jn @hd @hle))))))) ?_
      (repeat (refine And.intro (by omega) ?_))
      refine HC_plan [] ty_ok mix (by kernel_rfl) ?_
      refine rn1 (jn @hp @hxf) ?_
      (repeat (refine And.intro (by omega) ?_))
      refine ⟨i + 1, (by omega), by omega, [0, 1, 2], [], ?_⟩
      rw [e3]
      exact ft1 (jn @rfSt.eq_1 (jn @rfRe.eq_1 (jn @tbl.eq_1 (jn @tblC.eq_1 (jn @cstE.eq_1 @hxf)))))
  · have hi : ¬ (i : Int) < L.length := by omega
    have hiL : i = L.length := by omega
    subst hiL
    rw [List.take_length]
    refine rn1 (jn @rfSt.eq_1 (jn @rfRe.eq_1 (jn @tbl.eq_1 (jn @tblC.eq_1 (jn @cstE.eq_1 @hi))))) ?_
    exact fv1 [0] [] (jn @tbl.eq_1 @tblC.eq_1)
end Go.Proofs.Ythdjblfiiogmgaa

set_option linter.unusedVariables false
set_option linter.unusedSimpArgs false
set_option maxRecDepth 100000
namespace Go.Proofs.Ythdjblfiiogmgaa
open Go Go.ChangeShapes Go.WideShapes
/-! What is done to tables; light. -/
structure Actt where
  k : Int
  f : Fct
  n : Int
def aktE (x : Actt) : List D := .c (.int .i64 x.k) :: (fctE x.f ++ [.c (.int .i64 x.n)])
theorem aktE_len (x : Actt) : (aktE x).length = 6 := rfl
def ltSt (l : List Actt) (X : List Fct) (i : Nat) : List (Nat × AV) := [(0, .d (.sl 6 l.length (flatE aktE l))), (3, .sl (.own 0) 4 X.length (flatE fctE X)), (4, .d (.c (.int .i64 i)))]
def ltRe (X : List Fct) : Rs := [some (.tok (4 * X.length))]
set_option maxHeartbeats 1000000 in
theorem light_ac (l : List Actt) (hl : l.length ≤ 140737488352000) (hs : ∀ x ∈ l, szF x.f) : AC Try.prog noG 42 [.d (.sl 6 l.length (flatE aktE l))] [] (fun v r' => (∃ b : Bool, v = .d (.c (.bool b)) ∧ (b = true → l.length ≤ 201 ∧ ∀ x ∈ l, x.f.l.length ≤ 400)) ∧ r' = []) := by
  refine AC.pure ?_ (by rintro v ⟨n, rfl, _⟩; rfl)
  refine AC_of_R (N := 24) (res := [.tmp 2]) ty_ok Try.call42 Try.func42 rfl rfl rfl (Nat.le_of_ble_eq_true rfl) ?_
  refine rn0 ?_
  refine HC_loopR (fun i : Nat => ltSt l ((l.take i).map Actt.f) i) (fun i => ltRe ((l.take i).map Actt.f)) (fun i => i ≤ l.length ∧ i ≤ 201) (fun i => l.length - i) 0 [0] [0] ⟨Nat.zero_le _, Nat.zero_le _⟩ ?_ ?_
  · have e1 : (l.take 0).map Actt.f = [] := rfl
    exact ft1 (jn @ltSt.eq_1 (jn @ltRe.eq_1 (jn @e1 @flatE_nil)))
  intro i ⟨hi1, hi2⟩
  refine HC_of_R ty_ok ?_
  by_cases hlt : i < l.length
  · have hi : (i : Int) < l.length := by omega
    have hd := flatE_drop aktE_len l i hlt
    have hle := flatE_len aktE_len l
    have htk : (l.take (i + 1)).map Actt.f = (l.take i).map Actt.f ++ [l[i].f] := by rw [List.take_succ_eq_append_getElem hlt, List.map_append]; rfl
    have hX : ((l.take i).map Actt.f).length = i := by rw [List.length_map, List.length_take]; omega
    have hxf := flatE_len fctE_len ((l.take i).map Actt.f)
    generalize l[i] = x at *
    have ef : ∀ X : List Fct, flatE fctE (X ++ [x.f]) = flatE fctE X ++ [.c (.string x.f.a), .c (.string x.f.b), .c (.string x.f.p), .sl 3 x.f.l.length (flatE cstE x.f.l)] := fun X => by rw [flatE_app]; simp [flatE, fctE]
    have el : ∀ X : List Fct, (X ++ [x.f]).length = X.length + 1 := fun X => by simp
    generalize (l.take i).map Actt.f = X at *
    simp only [aktE, fctE, List.cons_append, List.nil_append] at hd
    by_cases h2 : (i : Int) > 200
    · refine rn1 (jn @ltSt.eq_1 (jn @ltRe.eq_1 (jn @hi (jn @hd (jn @hle (jn @hxf @h2)))))) ?_
      (repeat (refine And.intro (by omega) ?_))
      exact ⟨false, rfl, fun h => by cases h⟩
    · refine rn1 (jn @ltSt.eq_1 (jn @ltRe.eq_1 (jn @hi (jn @hd (jn @hle (jn @hxf @h2)))))) ?_
      (repeat (refine And.intro (by omega) ?_))
      refine ⟨i + 1, ⟨by omega, by omega⟩, by omega, [0], [], ?_⟩
      rw [htk]
      exact ft1 (jn @ltSt.eq_1 (jn @ltRe.eq_1 (jn @ef (jn @el @hxf))))
  · have hi : ¬ (i : Int) < l.length := by omega
    have hiL : i = l.length := by omega
    subst hiL
    have kw := wF2_ac (l.map Actt.f) 400 (by rw [List.length_map]; exact hl) (fun f hf => by
      obtain ⟨x, hx, rfl⟩ := List.mem_map.1 hf; exact hs x hx) (by decide) (by decide)
    rw [List.take_length]
    refine rn1 (jn @ltSt.eq_1 (jn @ltRe.eq_1 @hi)) ?_
    refine HO_callX ty_ok [] kw (trivial) rfl ?_
    rintro v r' ⟨⟨n, rfl, _, hn⟩, rfl⟩ _
    refine rn0 ?_
    refine ⟨_, rfl, fun h => ⟨hi2, fun x hx => ?_⟩⟩
    have := (hn (by simpa using h)).2 x.f (List.mem_map.2 ⟨x, hx, rfl⟩)
    omega
end Go.Proofs.Ythdjblfiiogmgaa

set_option linter.unusedVariables false
set_option linter.unusedSimpArgs false
set_option maxRecDepth 100000
namespace Go.Proofs.Ythdjblfiiogmgaa
open Go Go.ChangeShapes Go.WideShapes
/-! TableDoes' begin. -/
theorem begin_ac (L : List Fct) (q : Int) : AC Try.prog noG 20 [.d (.sl 4 L.length (flatE fctE L)), .d (.c (.int .i64 q))] [] (fun v r' => v = .d (.sl 4 (begT q L).length (flatE fctE (begT q L))) ∧ r' = []) := by
  refine AC.fit ?_
  refine AC_of_R (N := 17) (res := [.tmp 4]) ty_ok Try.call20 Try.func20 rfl rfl rfl (Nat.le_of_ble_eq_true rfl) ?_
  by_cases h0 : q < 0
  · have e : begT q L = L := by rw [begT, if_pos h0]
    rw [e]
    refine rn1 @h0 ?_
    exact fv0 [] []
  · by_cases h1 : q > L.length
    · have e : begT q L = L := begT_all (fun _ => by omega)
      rw [e]
      refine rn1 (jn @h0 @h1) ?_
      exact fv0 [] []
    · have e : begT q L = L.take q.toNat := by rw [begT, if_neg h0]
      have hlen : (L.take q.toNat).length = q.toNat := by rw [List.length_take]; omega
      have hfl : flatE fctE (L.take q.toNat) = (flatE fctE L).take (q.toNat * 4) := by
        have h2 := flatE_len fctE_len (L.take q.toNat)
        have h3 := flatE_app fctE (L.take q.toNat) (L.drop q.toNat)
        rw [List.take_append_drop] at h3
        rw [h3, show q.toNat * 4 = (flatE fctE (L.take q.toNat)).length by omega, List.take_left]
      rw [e, hlen, hfl]
      refine rn1 (jn @h0 @h1) ?_
      (repeat (refine And.intro (by omega) ?_))
      exact fv0 [] []
end Go.Proofs.Ythdjblfiiogmgaa
