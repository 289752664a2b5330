/- Parts of the proof: TbNoneA, TbPut, TbLive, CSame. -/
import Derived.Test.YthdjblfiiogmgaaCJ4
import Derived.Test.YthdjblfiiogmgaaCJ3
set_option linter.unusedVariables false
set_option linter.unusedSimpArgs false
set_option maxRecDepth 100000
namespace Go.Proofs.Ythdjblfiiogmgaa
open Go Go.ChangeShapes Go.WideShapes
/-! .. tells nothing. -/
end Go.Proofs.Ythdjblfiiogmgaa

set_option linter.unusedVariables false
set_option linter.unusedSimpArgs false
set_option maxRecDepth 100000
namespace Go.Proofs.Ythdjblfiiogmgaa
open Go Go.ChangeShapes Go.WideShapes
/-! table: find, Has, Put, Len, New. -/
def tblC (L : List Fct) (m : Int) : List AV := [.d (.sl 4 L.length (flatE fctE L)), .d (.c (.int .i64 m))]
def tbl (L : List Fct) (m : Int) : Rs := [some (.obj (tblC L m))]
theorem tbl_hand (L : List Fct) (m : Int) (rc : Rs) (i : Nat) (hi : rc[i]? = some (some (.obj (tblC L m)))) : HandOK (nm [i] rc.length) rc (tbl L m) [i] := by
  refine ⟨fun y h => ?_, trivial⟩
  injection h with h; subst h
  rw [hi]; rfl
theorem tbl_wf (L : List Fct) (m : Int) : wfRs (tbl L m).length (tbl L m) = true := rfl
structure okB (L : List Fct) : Prop where
  len : L.length ≤ 100000
  ok : ∀ g ∈ L, g.l.length ≤ 1000000
  srt : srtF L
theorem okB.ins {L : List Fct} (h : okB L) {f : Fct} (hf : f.l.length ≤ 1000000) (hm : f ∉ L) (hl : L.length < 100000) : okB (insFc L f) := by
  refine ⟨by rw [insFc_len]; omega, fun g hg => ?_, insFc_srt h.srt hm⟩
  rcases insFc_mem.1 hg with hg | rfl
  · exact h.ok g hg
  · exact hf
def errB (L : List Fct) (m : Int) (f : Fct) : Int := if chkE f ≠ 0 then chkE f else if f ∈ L then 151 else if m ≤ L.length then 150 else 0
def insB (L : List Fct) (m : Int) (f : Fct) : List Fct := if errB L m f = 0 then insFc L f else L
theorem bnone_ac (L : List Fct) (m : Int) (hm : m ≠ 0) : AC Try.prog noG 52 [.ptr 0 0] (tbl L m) (fun v r' => v = .d (.c (.bool false)) ∧ r' = tbl L m) := by
  refine AC_of_R (N := 12) (res := [.tmp 2]) ty_ok Try.call52 Try.func52 rfl rfl rfl (Nat.le_of_ble_eq_true rfl) ?_
  exact rz1 (jn @tbl.eq_1 (jn @tblC.eq_1 @hm))
theorem bfind_ac (L : List Fct) (m : Int) (hL : okB L) (f : Fct) (hf : f.l.length ≤ 140737488352000) : AC Try.prog noG 54 [.ptr 0 0, .d (.agg (fctE f))] (tbl L m) (fun v r' => v = .tup [.d (.c (.int .i64 (posF L f))), .d (.c (.bool (decide (f ∈ L))))] ∧ r' = tbl L m) := by
  refine AC.fit ?_
  refine AC_of_R (N := 14) (res := [.tmp 4, .tmp 5]) ty_ok Try.call54 Try.func54 rfl rfl rfl (Nat.le_of_ble_eq_true rfl) ?_
  have hl := hL.len
  have kb := bsF_ac L f (posF L f) (by omega) (fun g hg => Nat.le_trans (hL.ok g hg) (by decide)) hf (posF_le L f) (posF_lt L f) (posF_ge L f hL.srt) (decide (f ∈ L)) (posF_mem hL.srt f)
  simp only [fctE, List.cons_append, List.nil_append] at kb
  refine rn1 (jn @tbl.eq_1 (jn @tblC.eq_1 @fctE.eq_1)) ?_
  refine HC_plan [] ty_ok mix (by kernel_rfl) ?_
  refine rn0 ?_
  refine HO_pureA ty_ok kb ?_
  refine rn0 ?_
  exact fv1 [0] [] (jn @tbl.eq_1 @tblC.eq_1)
theorem bhas_ac (L : List Fct) (m : Int) (hm : m ≠ 0) (hL : okB L) (f : Fct) (hf : f.l.length ≤ 140737488352000) : AC Try.prog noG 50 [.ptr 0 0, .d (.agg (fctE f))] (tbl L m) (fun v r' => v = .d (.c (.bool (decide (f ∈ L)))) ∧ r' = tbl L m) := by
  refine AC.fit ?_
  refine AC_of_R (N := 16) (res := [.tmp 4]) ty_ok Try.call50 Try.func50 rfl rfl rfl (Nat.le_of_ble_eq_true rfl) ?_
  have k := bnone_ac L m hm
  have kf := bfind_ac L m hL f hf
  simp only [fctE, List.cons_append, List.nil_append] at kf
  refine rn1 (jn @tbl.eq_1 (jn @tblC.eq_1 @fctE.eq_1)) ?_
  refine HO_callX ty_ok [0] k (tbl_hand _ _ _ _ rfl) (tbl_wf _ _) ?_
  rintro v r' ⟨rfl, rfl⟩ _
  refine rn1 (jn @tbl.eq_1 @tblC.eq_1) ?_
  refine HO_callX ty_ok [0] kf (tbl_hand _ _ _ _ rfl) (tbl_wf _ _) ?_
  rintro v r' ⟨rfl, rfl⟩ _
  refine rn1 (jn @tbl.eq_1 @tblC.eq_1) ?_
  exact fv1 [0] [] (jn @tbl.eq_1 @tblC.eq_1)
theorem blen_ac (L : List Fct) (m : Int) (hm : m ≠ 0) : AC Try.prog noG 19 [.ptr 0 0] (tbl L m) (fun v r' => v = .d (.c (.int .i64 L.length)) ∧ r' = tbl L m) := by
  refine AC.fit ?_
  refine AC_of_R (N := 10) (res := [.tmp 2]) ty_ok Try.call19 Try.func19 rfl rfl rfl (Nat.le_of_ble_eq_true rfl) ?_
  have k := bnone_ac L m hm
  refine rn1 (jn @tbl.eq_1 @tblC.eq_1) ?_
  refine HO_callX ty_ok [0] k (tbl_hand _ _ _ _ rfl) (tbl_wf _ _) ?_
  rintro v r' ⟨rfl, rfl⟩ _
  refine rn1 (jn @tbl.eq_1 @tblC.eq_1) ?_
  exact fv1 [0] [] (jn @tbl.eq_1 @tblC.eq_1)
theorem bnew_ac (m : Int) (h1 : 1 ≤ m) (h2 : m ≤ 4096) : AC Try.prog noG 14 [.d (.c (.int .i64 m))] [] (fun v r' => v = .tup [.ptr 0 0, .d (.c (.int .i64 0))] ∧ r' = tbl [] m) := by
  refine AC.fit ?_
  refine AC_of_R (N := 13) (res := [.tmp 2, .tmp 3]) ty_ok Try.call14 Try.func14 rfl rfl rfl (Nat.le_of_ble_eq_true rfl) ?_
  have g1 : ¬ m < 1 := by omega
  have g2 : ¬ m > 4096 := by omega
  refine rn1 (jn @g1 @g2) ?_
  exact fv1 [0] [] (jn @tbl.eq_1 (jn @tblC.eq_1 @flatE_nil))
theorem insF_l (n i k : Nat) (A B zs x : List D) (hA : A.length = i * 4) (hB : B.length = (n - i) * 4) (hz : zs.length = k * 4) (hx : x.length = 4) (h0 : 0 < n) (hi : i ≤ n) (h : n ≤ 1000000) :
    AC Try.prog noG 56 [.csl 0 0 4 n (n + k), .d (.c (.int .i64 i)), .osl 1 0 4 1] [some (.obj ((A ++ B ++ zs).map .d)), some (.obj (x.map .d))] (fun v r' => v = .d (.sl 4 (n + 1) (A ++ x ++ B)) ∧ r' = [none, none]) :=
  insO_lay (by simp only [List.length_append]; omega) (by omega) (by simp) (insF_ac n i k A B zs x hA hB hz hx h0 hi h)
theorem chkF_w {f : Fct} (h : chkF f = true) : f.l.length ≤ 48 := by
  simp only [chkF, Bool.and_eq_true, decide_eq_true_eq, List.all_eq_true] at h
  exact h.2.2.2.1
def bpSt : List (Nat × AV) := [(0, .ptr 0 0)]
theorem ins_flatB (d : List Fct) (f : Fct) : flatE fctE (insFc d f) = flatE fctE (d.take (posF d f)) ++ fctE f ++ flatE fctE (d.drop (posF d f)) := by
  rw [insFc, flatE_app, flatE_app]; simp [flatE]
set_option maxHeartbeats 800000 in
theorem bput_ac (L : List Fct) (m : Int) (hm : m ≠ 0) (hL : okB L) (f : Fct) (hf : f.l.length ≤ 140737488352000) : AC Try.prog noG 15 [.ptr 0 0, .d (.agg (fctE f))] (tbl L m) (fun v r' => v = .d (.c (.int .i64 (errB L m f))) ∧ r' = tbl (insB L m f) m) := by
  refine AC.fit ?_
  refine AC_of_R (N := 48) (res := [.tmp 4]) tyL_ok Try.call15 Try.func15 rfl rfl rfl (Nat.le_of_ble_eq_true rfl) ?_
  have k := bnone_ac L m hm
  have kc := fchk_ac f hf
  have kf := bfind_ac L m hL f hf
  have hl := hL.len
  simp only [fctE, List.cons_append, List.nil_append] at kf kc
  refine rn1 (jn @tbl.eq_1 (jn @tblC.eq_1 @fctE.eq_1)) ?_
  refine HO_callX tyL_ok [0] k (tbl_hand _ _ _ _ rfl) (tbl_wf _ _) ?_
  rintro v r' ⟨rfl, rfl⟩ _
  refine rn1 (jn @tbl.eq_1 @tblC.eq_1) ?_
  refine HO_pureA tyL_ok kc ?_
  by_cases hc : chkE f = 0
  · refine rn1 @hc ?_
    refine HO_callX tyL_ok [0] kf (tbl_hand _ _ _ _ rfl) (tbl_wf _ _) ?_
    rintro v r' ⟨rfl, rfl⟩ _
    by_cases hi : f ∈ L
    · have e1 : errB L m f = 151 := by rw [errB, if_neg (by simp [hc]), if_pos hi]
      have e2 : insB L m f = L := by rw [insB, e1]; rfl
      rw [e1, e2, decide_eq_true hi]
      refine rn1 (jn @tbl.eq_1 @tblC.eq_1) ?_
      exact fv1 [0] [] (jn @tbl.eq_1 @tblC.eq_1)
    · rw [decide_eq_false hi]
      refine rn1 (jn @tbl.eq_1 @tblC.eq_1) ?_
      refine HC_plan [] tyL_ok mix (by kernel_rfl) ?_
      by_cases hg : (L.length : Int) ≥ m
      · have e1 : errB L m f = 150 := by rw [errB, if_neg (by simp [hc]), if_neg hi, if_pos hg]
        have e2 : insB L m f = L := by rw [insB, e1]; rfl
        rw [e1, e2]
        refine rn1 @hg ?_
        exact fv1 [0] [] (jn @tbl.eq_1 @tblC.eq_1)
      · have e1 : errB L m f = 0 := by rw [errB, if_neg (by simp [hc]), if_neg hi, if_neg (by omega)]
        have e2 : insB L m f = insFc L f := by rw [insB, if_pos e1]
        have hkc : f.l.length ≤ 1000000 := by
          have h := chkF_w (by rcases Decidable.em (chkF f = true) with h | h; exact h; exact absurd hc (by rw [chkE_no h]; decide))
          omega
        have kk := cloneC_d f.l.length (flatE cstE f.l) (by rw [flatE_len cstE_len]; omega) hkc
        have hp := posF_le L f
        have hif := ins_flatB L f
        have hlen := insFc_len L f
        rw [e1, e2]
        refine rn1 @hg ?_
        refine HO_pureA tyL_ok kk ?_
        refine rn0 ?_
        refine HC_cutR bpSt (tbl (insFc L f) m ++ [none]) ?_ ?_
        · skip
          refine HC_of_HV mix ?_
          refine HV_split 5 8 (by decide) ?_ ?_
          · simp only [addAt]
            refine HV_order [5] tyL_ok [0, 1, 2, 3, 4, 6, 7, 5, 8, 9, 10, 11, 12] (by kernel_rfl) rfl _ rfl ?_
            simp only [opl_nil', opl_cons', oplC_some, List.getElem?_toArray, List.getElem?_cons_zero, List.getElem?_cons_succ]
            refine rn0 ?_
            by_cases h0 : 0 < L.length
            · refine HO_callX tyL_ok [] (cloneF_ac L.length (flatE fctE L) (by rw [flatE_len fctE_len]; omega) h0 (by omega)) (trivial) rfl ?_
              rintro v r' ⟨k, zs, hz, rfl, rfl⟩ _
              have ki := insF_l L.length (posF L f) k (flatE fctE (L.take (posF L f))) (flatE fctE (L.drop (posF L f))) zs (fctE f) (by rw [flatE_len fctE_len, List.length_take]; omega) (by rw [flatE_len fctE_len, List.length_drop]; omega) hz rfl h0 hp (by omega)
              rw [← hif, ← flatE_app, List.take_append_drop, ← hlen] at ki
              simp only [fctE] at ki
              refine rn1 @renL_map_d ?_
              first
                | refine HO_callX tyL_ok [2, 3] ki (ob2_hand _ _ _ _ _ rfl rfl) (ob2_wf _ _) ?_
                | refine HO_callX tyL_ok [3, 2] ki (ob2_hand _ _ _ _ _ rfl rfl) (ob2_wf _ _) ?_
              rintro v r' ⟨rfl, rfl⟩ _
              refine rn0 ?_
              refine ⟨[0, 0], [], ?_⟩
              exact ft1 (jn @bpSt.eq_1 (jn @tbl.eq_1 @tblC.eq_1))
            · have hL0 : L = [] := List.eq_nil_of_length_eq_zero (by omega)
              subst hL0
              have ki := insF_0 (fctE f) rfl
              have e1 : insFc [] f = [f] := by simp [insFc, posF]
              have e2 : flatE fctE [f] = fctE f := by simp [flatE]
              have e3 : posF [] f = 0 := rfl
              have e4 : flatE fctE [] = [] := rfl
              simp only [fctE] at ki
              refine HO_pureA tyL_ok cloneF_0 ?_
              refine rn1 (jn @e3 @e4) ?_
              refine HO_callX tyL_ok [2] ki (ob1_hand _ _ _ rfl) (ob1_wf _) ?_
              rintro v r' ⟨rfl, rfl⟩ _
              refine rn0 ?_
              refine ⟨[0, 0], [], ?_⟩
              rw [e1] at hlen ⊢
              exact ft1 (jn @bpSt.eq_1 (jn @tbl.eq_1 (jn @tblC.eq_1 (jn @e2 (jn @fctE.eq_1 @List.length_singleton.{0})))))
          · simp only [addAt]
            refine HV_order [] tyL_ok [0, 1, 2, 3, 4, 6, 7, 8, 5, 9, 10, 11, 12] (by kernel_rfl) rfl _ rfl ?_
            simp only [opl_nil', opl_cons', oplC_some, List.getElem?_toArray, List.getElem?_cons_zero, List.getElem?_cons_succ]
            refine rn0 ?_
            by_cases h0 : 0 < L.length
            · refine HO_callX tyL_ok [] (cloneF_ac L.length (flatE fctE L) (by rw [flatE_len fctE_len]; omega) h0 (by omega)) (trivial) rfl ?_
              rintro v r' ⟨k, zs, hz, rfl, rfl⟩ _
              have ki := insF_l L.length (posF L f) k (flatE fctE (L.take (posF L f))) (flatE fctE (L.drop (posF L f))) zs (fctE f) (by rw [flatE_len fctE_len, List.length_take]; omega) (by rw [flatE_len fctE_len, List.length_drop]; omega) hz rfl h0 hp (by omega)
              rw [← hif, ← flatE_app, List.take_append_drop, ← hlen] at ki
              simp only [fctE] at ki
              refine rn1 @renL_map_d ?_
              first
                | refine HO_callX tyL_ok [2, 3] ki (ob2_hand _ _ _ _ _ rfl rfl) (ob2_wf _ _) ?_
                | refine HO_callX tyL_ok [3, 2] ki (ob2_hand _ _ _ _ _ rfl rfl) (ob2_wf _ _) ?_
              rintro v r' ⟨rfl, rfl⟩ _
              refine rn0 ?_
              refine ⟨[0, 0], [], ?_⟩
              exact ft1 (jn @bpSt.eq_1 (jn @tbl.eq_1 @tblC.eq_1))
            · have hL0 : L = [] := List.eq_nil_of_length_eq_zero (by omega)
              subst hL0
              have ki := insF_0 (fctE f) rfl
              have e1 : insFc [] f = [f] := by simp [insFc, posF]
              have e2 : flatE fctE [f] = fctE f := by simp [flatE]
              have e3 : posF [] f = 0 := rfl
              have e4 : flatE fctE [] = [] := rfl
              simp only [fctE] at ki
              refine HO_pureA tyL_ok cloneF_0 ?_
              refine rn1 (jn @e3 @e4) ?_
              refine HO_callX tyL_ok [2] ki (ob1_hand _ _ _ rfl) (ob1_wf _) ?_
              rintro v r' ⟨rfl, rfl⟩ _
              refine rn0 ?_
              refine ⟨[0, 0], [], ?_⟩
              rw [e1] at hlen ⊢
              exact ft1 (jn @bpSt.eq_1 (jn @tbl.eq_1 (jn @tblC.eq_1 (jn @e2 (jn @fctE.eq_1 @List.length_singleton.{0})))))
        refine rn1 (jn @bpSt.eq_1 (jn @tbl.eq_1 @tblC.eq_1)) ?_
        exact fv1 [0] [] (jn @tbl.eq_1 @tblC.eq_1)
  · have e1 : errB L m f = chkE f := by rw [errB, if_pos hc]
    have e2 : insB L m f = L := by rw [insB, if_neg (by rw [e1]; exact hc)]
    rw [e1, e2]
    refine rn1 @hc ?_
    exact fv1 [0] [] (jn @tbl.eq_1 @tblC.eq_1)
end Go.Proofs.Ythdjblfiiogmgaa

set_option linter.unusedVariables false
set_option linter.unusedSimpArgs false
set_option maxRecDepth 100000
namespace Go.Proofs.Ythdjblfiiogmgaa
open Go Go.ChangeShapes Go.WideShapes
/-! The statement's examples of tables. -/
theorem at15_ac (n : Int) : AC Try.prog noG 46 [.d (.c (.int .i64 n))] [] (fun v r' => v = .d (.agg (fctE (fT n))) ∧ r' = []) := by
  refine AC.fit ?_
  refine AC_of_R (N := 7) (res := [.cell 2 32]) ty_ok Try.call46 Try.func46 rfl rfl rfl (Nat.le_of_ble_eq_true rfl) ?_
  refine rn0 ?_
  exact fv1 [] [] (jn @fT.eq_1 (jn @fctE.eq_1 (jn @flatE_cons (jn @flatE_nil @cstE.eq_1))))
theorem okB0 : okB [] := ⟨by decide, by simp, List.Pairwise.nil⟩
theorem okB1 : okB [fT 1] := ⟨by decide, by simp [fT], by simp [srtF]⟩
theorem bl1 : errB [] 1 (fT 1) = 0 := by decide +kernel
theorem bl2 : insB [] 1 (fT 1) = [fT 1] := by decide +kernel
theorem bl3 : errB [fT 1] 1 (fT 2) = 150 := by decide +kernel
theorem bl4 : insB [fT 1] 1 (fT 2) = [fT 1] := by decide +kernel
theorem bl5 : errB [fT 1] 1 (fT 1) = 151 := by decide +kernel
theorem bl6 : insB [fT 1] 1 (fT 1) = [fT 1] := by decide +kernel
set_option maxHeartbeats 400000 in
theorem blive_ac : AC Try.prog noG 13 [] [] (fun v r' => v = .d (.c (.bool true)) ∧ r' = []) := by
  refine AC.pure ?_ (by rintro v rfl; rfl)
  refine AC_of_R (N := 37) (res := [.tmp 0]) ty_ok Try.call13 Try.func13 rfl rfl rfl (Nat.le_of_ble_eq_true rfl) ?_
  have k0 := bnew_ac 1 (by decide) (by decide)
  have ka := at15_ac 1
  have kb := at15_ac 2
  have k1 := bput_ac [] 1 (by decide) okB0 (fT 1) (by decide)
  have k2 := bput_ac [fT 1] 1 (by decide) okB1 (fT 2) (by decide)
  have k3 := bput_ac [fT 1] 1 (by decide) okB1 (fT 1) (by decide)
  have k4 := bhas_ac [fT 1] 1 (by decide) okB1 (fT 1) (by decide)
  have k5 := blen_ac [fT 1] 1 (by decide)
  rw [bl1, bl2] at k1
  rw [bl3, bl4] at k2
  rw [bl5, bl6] at k3
  rw [decide_eq_true (by simp)] at k4
  have h1 : tblC [fT 1] 1 = [.d (.sl 4 1 (fctE (fT 1))), .d (.c (.int .i64 1))] := rfl
  have h0 : tblC [] 1 = [.d (.sl 4 0 []), .d (.c (.int .i64 1))] := rfl
  rw [show ([fT 1]).length = 1 from rfl] at k5
  simp only [fT, fctE, flatE_cons, flatE_nil, cstE, List.cons_append, List.nil_append, List.length_cons, List.length_nil] at ka kb
  simp only [show ∀ n, fctE (fT n) = [.c (.string ⟨#[97]⟩), .c (.string ⟨#[97]⟩), .c (.string ⟨#[112]⟩), .sl 3 1 [.c (.bool true), .c (.int .i64 n), .c (.string ⟨#[]⟩)]] from fun n => rfl] at k1 k2 k3 k4
  refine rn0 ?_
  refine HO_callX ty_ok [] k0 (trivial) rfl ?_
  rintro v r' ⟨rfl, rfl⟩ _
  refine rn1 @tbl.eq_1 ?_
  refine HO_pureA ty_ok ka ?_
  refine rn0 ?_
  refine HO_callX ty_ok [0] k1 (tbl_hand _ _ _ _ rfl) (tbl_wf _ _) ?_
  rintro v r' ⟨rfl, rfl⟩ _
  refine rn1 @tbl.eq_1 ?_
  refine HO_pureA ty_ok kb ?_
  refine rn0 ?_
  refine HO_callX ty_ok [0] k2 (tbl_hand _ _ _ _ rfl) (tbl_wf _ _) ?_
  rintro v r' ⟨rfl, rfl⟩ _
  refine rn1 @tbl.eq_1 ?_
  refine HO_pureA ty_ok ka ?_
  refine rn0 ?_
  refine HO_callX ty_ok [0] k3 (tbl_hand _ _ _ _ rfl) (tbl_wf _ _) ?_
  rintro v r' ⟨rfl, rfl⟩ _
  refine rn1 @tbl.eq_1 ?_
  refine HO_pureA ty_ok ka ?_
  refine rn0 ?_
  refine HO_callX ty_ok [0] k4 (tbl_hand _ _ _ _ rfl) (tbl_wf _ _) ?_
  rintro v r' ⟨rfl, rfl⟩ _
  refine rn1 @tbl.eq_1 ?_
  refine HO_callX ty_ok [0] k5 (tbl_hand _ _ _ _ rfl) (tbl_wf _ _) ?_
  rintro v r' ⟨rfl, rfl⟩ _
  exact rz0
end Go.Proofs.Ythdjblfiiogmgaa

set_option linter.unusedVariables false
set_option linter.unusedSimpArgs false
set_option maxRecDepth 100000
namespace Go.Proofs.Ythdjblfiiogmgaa
open Go Go.ChangeShapes Go.WideShapes
/-! The document's Same and Like of entries. -/
def rlSt (l m : List Fct) (i : Nat) : List (Nat × AV) := [(0, .d (.sl 4 l.length (flatE fctE l))), (1, .d (.sl 4 m.length (flatE fctE m))), (5, .d (.c (.int .i64 i)))]
theorem take_eq_step {α : Type} {l m : List α} {i : Nat} (hl : i < l.length) (hm : i < m.length) (h : l.take i = m.take i) (he : l[i] = m[i]) : l.take (i + 1) = m.take (i + 1) := by
  rw [List.take_succ_eq_append_getElem hl, List.take_succ_eq_append_getElem hm, h, he]
theorem ne_at {α : Type} {l m : List α} {i : Nat} (hl : i < l.length) (hm : i < m.length) (he : l[i] ≠ m[i]) : l ≠ m := by
  intro h; subst h; exact he rfl
set_option maxHeartbeats 400000 in
theorem rlikeF_ac (l m : List Fct) (hl : l.length ≤ 1000000) (hm : m.length ≤ 1000000) (hsl : ∀ f ∈ l, f.l.length ≤ 1000000) (hsm : ∀ f ∈ m, f.l.length ≤ 1000000) :
    AC Try.prog noG 18 [.d (.sl 4 l.length (flatE fctE l)), .d (.sl 4 m.length (flatE fctE m))] [] (fun v r' => v = .d (.c (.bool (decide (l = m)))) ∧ r' = []) := by
  refine AC.pure ?_ (by rintro v rfl; rfl)
  refine AC_of_R (N := 27) (res := [.tmp 4]) ty_ok Try.call18 Try.func18 rfl rfl rfl (Nat.le_of_ble_eq_true rfl) ?_
  by_cases hn : (l.length : Int) = m.length
  · have hn' : l.length = m.length := by omega
    refine rn1 @hn ?_
    refine HC_loopR (fun i : Nat => rlSt l m i) (fun _ => []) (fun i => i ≤ l.length ∧ l.take i = m.take i) (fun i => l.length - i) 0 [] [] ⟨by omega, rfl⟩ ?_ ?_
    · exact ft1 (jn @hn @rlSt.eq_1)
    intro i ⟨hi1, hi2⟩
    refine HC_of_R ty_ok ?_
    by_cases hlt : i < l.length
    · have hi : (i : Int) < l.length := by omega
      have him : (i : Int) < m.length := by omega
      have hltm : i < m.length := by omega
      have hd := flatE_drop fctE_len l i hlt
      have hle := flatE_len fctE_len l
      have hd2 := flatE_drop fctE_len m i hltm
      have hle2 := flatE_len fctE_len m
      have hst := take_eq_step hlt hltm hi2
      have hne := ne_at hlt hltm
      have hg := rord_ac l[i] m[i] (Nat.le_trans (hsl _ (List.getElem_mem hlt)) (by decide)) (Nat.le_trans (hsm _ (List.getElem_mem hltm)) (by decide))
      generalize l[i] = f at *
      generalize m[i] = g at *
      simp only [fctE, List.cons_append, List.nil_append] at hd hd2 hg
      refine rn1 (jn @rlSt.eq_1 (jn @hi @him)) ?_
      refine HC_plan [] ty_ok mix (by kernel_rfl) ?_
      refine rn1 (jn @hi (jn @him (jn @hd (jn @hle (jn @hd2 @hle2))))) ?_
      (repeat (refine And.intro (by omega) ?_))
      refine HO_pureA ty_ok hg ?_
      by_cases he : f = g
      · rw [ordC_zero.2 he]
        refine rn0 ?_
        (repeat (refine And.intro (by omega) ?_))
        refine ⟨i + 1, ⟨by omega, hst he⟩, by omega, [], [], ?_⟩
        exact ft1 @rlSt.eq_1
      · have h0 : ¬ ordC f g = 0 := fun h => he (ordC_zero.1 h)
        have e : decide (l = m) = false := decide_eq_false (hne he)
        rw [e]
        exact rz1 @h0
    · have hi : ¬ (i : Int) < l.length := by omega
      rw [List.take_of_length_le (by omega), List.take_of_length_le (by omega)] at hi2
      have e : decide (l = m) = true := decide_eq_true hi2
      rw [e]
      exact rz1 (jn @rlSt.eq_1 @hi)
  · have e : decide (l = m) = false := decide_eq_false (fun h => hn (by rw [h]))
    rw [e]
    exact rz1 @hn
end Go.Proofs.Ythdjblfiiogmgaa
