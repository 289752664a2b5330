import Derived.Test.YthdjblfiiogmgaaCJ6
import Derived.Test.YthdjblfiiogmgaaCJ5
set_option linter.unusedVariables false
set_option linter.unusedSimpArgs false
set_option maxRecDepth 100000
namespace Go.Proofs.Ythdjblfiiogmgaa
open Go Go.ChangeShapes Go.WideShapes
/-! TableOrder. -/
def toSt (l : List Fct) (t : Int) (i : Nat) : List (Nat × AV) := [(0, .d (.sl 4 l.length (flatE fctE l))), (1, .d (.c (.int .i64 t))), (5, .ptr 0 0), (7, .ptr 1 0), (9, .d (.c (.int .i64 i)))]
def toRe (l : List Fct) (t : Int) (i : Nat) : Rs := tbl (putB 4096 [] (l.take i)) 4096 ++ tbl (putB 4096 [] (turnL l t i)) 4096
theorem bA_hand (L : List Fct) (m : Int) (rc : Rs) (i j k : Nat) (hi : rc[i]? = some (some (.obj (tblC L m)))) (hj : rc[j]? = some (some (.obj [.ptr i 0]))) (hk : rc[k]? = some (some (.obj [.fn (.func 59) [] []]))) : HandOK (nm [i, j, k] rc.length) rc (bA L m) [i, j, k] := by
  refine ⟨fun y h => ?_, fun y h => ?_, fun y h => ?_, trivial⟩
  · injection h with h; subst h
    rw [hi]; rfl
  · injection h with h; subst h
    rw [hj]; rfl
  · injection h with h; subst h
    rw [hk]; rfl
theorem bA_wf (L : List Fct) (m : Int) : wfRs (bA L m).length (bA L m) = true := rfl
set_option maxHeartbeats 1000000 in
theorem tableOrder_ac (l : List Fct) (t : Int) (hl : l.length ≤ 140737488352000) (hs : ∀ f ∈ l, szF f) : AC Try.prog noG 3 [.d (.sl 4 l.length (flatE fctE l)), .d (.c (.int .i64 t))] [] (fun v r' => v = .d (.c (.bool true)) ∧ r' = []) := by
  refine AC.pure ?_ (by rintro v rfl; rfl)
  refine AC_of_R (N := 87) (res := [.tmp 4]) ty_ok Try.call3 Try.func3 rfl rfl rfl (Nat.le_of_ble_eq_true rfl) ?_
  have kw := wF2_ac l 300 hl hs (by decide) (by decide)
  refine rn0 ?_
  refine HO_callX ty_ok [] kw (trivial) rfl ?_
  rintro v r' ⟨⟨n, rfl, _, hn⟩, rfl⟩ _
  by_cases hg : n > 300
  · refine rn1 @hg ?_
    refine HO_pureA ty_ok blive_ac ?_
    exact rz0
  have hn := hn (by omega)
  have hl3 : l.length ≤ 300 := by omega
  have k0 := bnew_ac 4096 (by decide) (by decide)
  refine rn1 @hg ?_
  refine HO_callX ty_ok [] k0 (trivial) rfl ?_
  rintro v r' ⟨rfl, rfl⟩ _
  refine rn1 (jn @tbl.eq_1 @tblC.eq_1) ?_
  refine HO_callX ty_ok [] k0 (trivial) rfl ?_
  rintro v r' ⟨rfl, rfl⟩ _
  refine rn1 (jn @tbl.eq_1 (jn @tblC.eq_1 @flatE_nil)) ?_
  refine HC_loopR (fun i : Nat => toSt l t i) (fun i => toRe l t i) (fun i => i ≤ l.length) (fun i => l.length - i) 0 [0, 1] [] (Nat.zero_le _) ?_ ?_
  · have e1 : putB 4096 [] (l.take 0) = [] := rfl
    have e2 : putB 4096 [] (turnL l t 0) = [] := rfl
    exact ft1 (jn @toSt.eq_1 (jn @toRe.eq_1 (jn @tbl.eq_1 (jn @tblC.eq_1 (jn @e1 (jn @e2 @flatE_nil))))))
  intro i hi1
  refine HC_of_R ty_ok ?_
  by_cases hlt : i < l.length
  · have hi : (i : Int) < l.length := by omega
    have hp : 0 < l.length := by omega
    have hk := kT_rem hp t i
    have hkl := kT_lt hp t i
    obtain ⟨j, hj⟩ : ∃ j, j = l.length - 1 - kT l.length t i := ⟨_, rfl⟩
    have hjl : j < l.length := by omega
    have hjI : (l.length : Int) - 1 - (kT l.length t i : Int) = (j : Int) := by omega
    have htn := turnL_snoc l t i (by omega)
    simp only [← hj] at htn
    have hn0 : (l.length : Int) ≠ 0 := by omega
    have hdi := flatE_drop fctE_len l i hlt
    have hdj := flatE_drop fctE_len l j hjl
    have hle := flatE_len fctE_len l
    have hlk : (l.take i).length ≤ 300 := by rw [List.length_take]; omega
    have hok1 := okB.puts 4096 (l.take i) [] okB0 (by simp only [List.length_nil]; omega)
    have hok2 := okB.puts 4096 (turnL l t i) [] okB0 (by rw [turnL_len]; simp only [List.length_nil]; omega)
    have k1 := bput_ac _ 4096 (by decide) hok1 l[i] (hs _ (List.getElem_mem hlt)).2.2.2.1
    have k2 := bput_ac _ 4096 (by decide) hok2 l[j] (hs _ (List.getElem_mem hjl)).2.2.2.1
    rw [← putB_snoc, ← List.take_succ_eq_append_getElem hlt] at k1
    rw [← putB_snoc, ← htn] at k2
    generalize l[i] = f at *
    generalize l[j] = g at *
    simp only [fctE, List.cons_append, List.nil_append] at hdi hdj k1 k2
    refine rn1 (jn @toSt.eq_1 (jn @toRe.eq_1 (jn @tbl.eq_1 (jn @tblC.eq_1 (jn @hi (jn @hdi @hle)))))) ?_
    (repeat (refine And.intro (by omega) ?_))
    refine HO_callX ty_ok [0] k1 (tbl_hand _ _ _ _ rfl) (tbl_wf _ _) ?_
    rintro v r' ⟨rfl, rfl⟩ _
    have hb1 := tmod_b hp t
    have hb2 := tmod_b hp ((i : Int) + t.tmod l.length)
    have hb3 : IntKind.i64.wrap ((i : Int) + t.tmod l.length) = (i : Int) + t.tmod l.length := w_i64 (by omega) (by omega)
    have hb4 : IntKind.i64.wrap (((i : Int) + t.tmod l.length).tmod l.length + l.length) = ((i : Int) + t.tmod l.length).tmod l.length + l.length := w_i64 (by omega) (by omega)
    have hb5 : IntKind.i64.wrap (j : Int) = j := w_i64 (by omega) (by omega)
    rw [Int.tmod_eq_emod_of_nonneg (a := ((i : Int) + t.tmod l.length).tmod l.length + l.length) (by omega)] at hk
    have hjt : ((j : Int)).toNat = j := rfl
    have hj0 : (j : Int) < l.length := by omega
    refine rn1 (jn @tbl.eq_1 (jn @tblC.eq_1 (jn @hn0 (jn @hb3 (jn @hb4 (jn @hk (jn @hjI (jn @hb5 (jn @hjt (jn @hdj (jn @hle @hj0))))))))))) ?_
    (repeat (refine And.intro (by omega) ?_))
    refine HO_callX ty_ok [1] k2 (tbl_hand _ _ _ _ rfl) (tbl_wf _ _) ?_
    rintro v r' ⟨rfl, rfl⟩ _
    refine rn1 (jn @tbl.eq_1 @tblC.eq_1) ?_
    (repeat (refine And.intro (by omega) ?_))
    refine ⟨i + 1, (by omega), by omega, [0, 1], [], ?_⟩
    exact ft1 (jn @toSt.eq_1 (jn @toRe.eq_1 (jn @tbl.eq_1 @tblC.eq_1)))
  · have hi : ¬ (i : Int) < l.length := by omega
    have hiL : i = l.length := by omega
    subst hiL
    have hsame := order_same l t (by omega)
    have hok := okB.puts 4096 l [] okB0 (by simp only [List.length_nil]; omega)
    have hle := putB_len 4096 l []
    have hl0 := hok.len
    simp only [List.length_nil] at hle
    have e1 : toRe l t l.length = tbl (putB 4096 [] l) 4096 ++ tbl (putB 4096 [] l) 4096 := by rw [toRe, List.take_length, hsame]
    rw [e1]
    generalize putB 4096 [] l = L at *
    have ka := allT_ac L 4096
    have kg := gathT_ac L hok 4096 (by decide)
    have kl := blen_ac L 4096 (by decide)
    have kk := rlikeF_ac L L (by omega) (by omega) hok.ok hok.ok
    refine rn1 (jn @toSt.eq_1 (jn @tbl.eq_1 (jn @tblC.eq_1 @hi))) ?_
    refine HO_callX ty_ok [0] ka (tbl_hand _ _ _ _ rfl) (tbl_wf _ _) ?_
    rintro v r' ⟨rfl, rfl⟩ _
    refine rn1 (jn @bA.eq_1 (jn @tbl.eq_1 @tblC.eq_1)) ?_
    refine HO_callX ty_ok [0, 2, 3] kg (bA_hand _ _ _ _ _ _ rfl rfl rfl) (bA_wf _ _) ?_
    rintro v r' ⟨rfl, rfl⟩ _
    refine rn1 (jn @bA.eq_1 (jn @tbl.eq_1 @tblC.eq_1)) ?_
    refine HO_callX ty_ok [1] ka (tbl_hand _ _ _ _ rfl) (tbl_wf _ _) ?_
    rintro v r' ⟨rfl, rfl⟩ _
    refine rn1 (jn @bA.eq_1 (jn @tbl.eq_1 @tblC.eq_1)) ?_
    refine HO_callX ty_ok [1, 4, 5] kg (bA_hand _ _ _ _ _ _ rfl rfl rfl) (bA_wf _ _) ?_
    rintro v r' ⟨rfl, rfl⟩ _
    refine rn1 (jn @bA.eq_1 (jn @tbl.eq_1 @tblC.eq_1)) ?_
    refine HO_pureA ty_ok kk ?_
    rw [decide_eq_true rfl]
    refine rn0 ?_
    refine HO_callX ty_ok [0] kl (tbl_hand _ _ _ _ rfl) (tbl_wf _ _) ?_
    rintro v r' ⟨rfl, rfl⟩ _
    refine rn1 (jn @tbl.eq_1 @tblC.eq_1) ?_
    refine HO_pureA ty_ok blive_ac ?_
    exact rz0
end Go.Proofs.Ythdjblfiiogmgaa
