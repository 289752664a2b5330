/- Parts of the proof: Td28b, Td30a, Td30b, Td31a, Td31b, Td31c, Td31d, Td31e, Td31f. -/
import Derived.Test.YthdjblfiiogmgaaCJ11
import Derived.Test.YthdjblfiiogmgaaCJ10
set_option linter.unusedVariables false
set_option linter.unusedSimpArgs false
set_option maxRecDepth 100000
namespace Go.Proofs.Ythdjblfiiogmgaa
open Go Go.ChangeShapes Go.WideShapes
set_option maxHeartbeats 8000000 in
theorem td28_b (l : List Actt) (i : Nat) (M : List Fct) (m : Int) (x : Actt) (hm : m ≠ 0) (hM : okB M) (hx : x.f.l.length ≤ 1000000) (k : Nat) (hkt : k < x.f.l.length) (K : KD) (c : Code) (hc : c = (cR (Try.f10.body.getD .skip) 28).getD .skip)
    (hk : A Try.prog ty noG 227 K .normal ⟨fun _ => .top, (13, .d (.c (.int .i64 (k : Int)))) :: tdbS l 2 3 i, tdb2 M m x⟩) : HC Try.prog ty noG 227 c K ⟨fun _ => .top, (13, .d (.c (.int .i64 (k : Int)))) :: tdbS l 2 3 i, tdb2 M m x⟩ := by
  have hMl := hM.len
  have hkI : (k : Int) < x.f.l.length := by omega
  have hdk := flatE_drop cstE_len x.f.l k hkt
  have hlk := flatE_len cstE_len x.f.l
  generalize x.f.l[k] = a at *
  have kf := findQ_ac x.f.p k a
  have kg := gathF_ac M hM m hm x.f.p k a
  have kr := rfind_ac M m hM x.f.p k a
  have h1 := hM.sub (List.filter_sublist (p := fndB x.f.p k a))
  have h3 := h1.len
  generalize M.filter (fndB x.f.p k a) = F1 at *
  have kk := rlikeF_ac F1 F1 (by omega) (by omega) h1.ok h1.ok
  rw [decide_eq_true rfl] at kk
  rw [fnF] at kg
  simp only [cstE, List.cons_append, List.nil_append] at hdk kf kr
  subst hc
  show HC _ _ _ _ (Code.region 28 _ true) _ _
  refine HC_cutR _ _ ?_ hk
  refine HC_of_HV mix (HV_split 18 14 (by decide)
    (HV_split 22 14 (by decide)
     (HV_split 25 14 (by decide)
      (HV_order [13] ty_ok [0, 1, 2, 3, 4, 5, 6, 7, 8, 9, 10, 11, 12, 15, 16, 17, 18, 19, 20, 21, 22, 23, 24, 25, 13, 14, 26, 27, 28, 29] (by kernel_rfl) rfl _ rfl ?_)
      (HV_order [13] ty_ok [0, 1, 2, 3, 4, 5, 6, 7, 8, 9, 10, 11, 12, 15, 16, 17, 18, 19, 20, 21, 22, 23, 24, 13, 14, 25, 26, 27, 28, 29] (by kernel_rfl) rfl _ rfl ?_))
     (HV_order [13] ty_ok [0, 1, 2, 3, 4, 5, 6, 7, 8, 9, 10, 11, 12, 15, 16, 17, 18, 19, 20, 21, 23, 13, 14, 22, 24, 25, 26, 27, 28, 29] (by kernel_rfl) rfl _ rfl ?_))
    (HV_split 22 14 (by decide)
     (HV_split 25 14 (by decide)
      (HV_order [13] ty_ok [0, 1, 2, 3, 4, 5, 6, 7, 8, 9, 10, 11, 12, 15, 16, 17, 19, 20, 21, 22, 23, 24, 25, 13, 14, 18, 26, 27, 28, 29] (by kernel_rfl) rfl _ rfl ?_)
      (HV_order [13] ty_ok [0, 1, 2, 3, 4, 5, 6, 7, 8, 9, 10, 11, 12, 15, 16, 17, 19, 20, 21, 22, 23, 24, 13, 14, 18, 25, 26, 27, 28, 29] (by kernel_rfl) rfl _ rfl ?_))
     (HV_order [] ty_ok [0, 1, 2, 3, 4, 5, 6, 7, 8, 9, 10, 11, 12, 15, 16, 17, 19, 20, 21, 23, 13, 14, 18, 22, 24, 25, 26, 27, 28, 29] (by kernel_rfl) rfl _ rfl ?_)))
  all_goals
    simp only [addAt, opl_nil', opl_cons', oplC_some, List.getElem?_toArray, List.getElem?_cons_zero, List.getElem?_cons_succ]
    refine rn1 (jn @tdbS.eq_1 (jn @tdb0.eq_1 (jn @tdb2.eq_1 (jn @tdA.eq_1 (jn @tdcR.eq_1 (jn @tblC.eq_1 (jn @aktE.eq_1 (jn @fctE.eq_1 (jn @cstE.eq_1 (jn @hkI (jn @hdk @hlk))))))))))) ?_
    (repeat (refine And.intro (by omega) ?_))
    refine HO_callQ ty_ok (i := 2) (pre := []) kf rfl rfl rfl (by kernel_rfl) rfl (fun _ => rfl) rfl (by repeat' (first | exact trivial | exact WeakA.refl _ | exact WeakA.toD rfl | refine ⟨?_, ?_⟩)) rfl rfl rfl ?_
    refine rn1 (jn @bF.eq_1 (jn @fnF.eq_1 (jn @cstE.eq_1 (jn @tbl.eq_1 (jn @tblC.eq_1 (jn @hkI (jn @hdk @hlk))))))) ?_
    (repeat (refine And.intro (by omega) ?_))
    refine HO_callX ty_ok [2,4,5,6,7] kg (bF_hand _ _ _ _ _ _ _ _ _ _ _ rfl rfl rfl rfl rfl) (bF_wf _ _ _ _ _) ?_
    rintro v r' ⟨rfl, rfl⟩ _
    refine rn1 (jn @bF.eq_1 (jn @fnF.eq_1 (jn @cstE.eq_1 (jn @tbl.eq_1 (jn @tblC.eq_1 (jn @hkI (jn @hdk @hlk))))))) ?_
    (repeat (refine And.intro (by omega) ?_))
    refine HO_callX ty_ok [1] kr (tbl_hand _ _ _ _ rfl) (tbl_wf _ _) ?_
    rintro v r' ⟨rfl, rfl⟩ _
    refine rn1 (jn @tbl.eq_1 @tblC.eq_1) ?_
    (repeat (refine And.intro (by omega) ?_))
    refine HO_pureA ty_ok kk ?_
    refine rn0 ?_
    refine ⟨[0, 1, 2, 3], [], ?_⟩
    exact ft1 (jn @tdbS.eq_1 (jn @tdb0.eq_1 (jn @tdb2.eq_1 (jn @tdA.eq_1 (jn @tdcR.eq_1 (jn @tblC.eq_1 (jn @aktE.eq_1 (jn @fctE.eq_1 @cstE.eq_1))))))))
end Go.Proofs.Ythdjblfiiogmgaa

set_option linter.unusedVariables false
set_option linter.unusedSimpArgs false
set_option maxRecDepth 100000
namespace Go.Proofs.Ythdjblfiiogmgaa
open Go Go.ChangeShapes Go.WideShapes
set_option maxHeartbeats 8000000 in
theorem td30_a (l : List Actt) (i : Nat) (M : List Fct) (m : Int) (x : Actt) (hm : m ≠ 0) (hM : okB M) (hx : x.f.l.length ≤ 1000000) (K : KD) (c : Code) (hc : c = (cR (Try.f10.body.getD .skip) 30).getD .skip)
    (hk : A Try.prog ty noG 227 K .normal ⟨fun _ => .top, (14, .ptr 3 0) :: tdbS l 0 2 i, tdb0 M m x ++ [tdcR]⟩) : HC Try.prog ty noG 227 c K ⟨fun _ => .top, (14, .ptr 3 0) :: tdbS l 0 2 i, tdb0 M m x ++ [tdcR]⟩ := by
  have hMl := hM.len
  have kf := findQ_ac x.f.p x.n cs1
  have kg := gathF_ac M hM m hm x.f.p x.n cs1
  have kr := rfind_ac M m hM x.f.p x.n cs1
  have h1 := hM.sub (List.filter_sublist (p := fndB x.f.p x.n cs1))
  have h3 := h1.len
  generalize M.filter (fndB x.f.p x.n cs1) = F1 at *
  have kk := rlikeF_ac F1 F1 (by omega) (by omega) h1.ok h1.ok
  rw [decide_eq_true rfl] at kk
  rw [fnF] at kg
  simp only [cstE, cs1, List.cons_append, List.nil_append] at kf kr
  subst hc
  show HC _ _ _ _ (Code.region 30 _ true) _ _
  refine HC_cutR _ _ ?_ hk
  refine HC_of_HV mix (HV_split 14 10 (by decide)
    (HV_split 16 10 (by decide)
     (HV_split 17 10 (by decide)
      (HV_order [9] ty_ok [0, 1, 2, 3, 4, 5, 6, 7, 8, 11, 12, 13, 14, 15, 16, 17, 9, 10, 18, 19, 20, 21] (by kernel_rfl) rfl _ rfl ?_)
      (HV_order [9] ty_ok [0, 1, 2, 3, 4, 5, 6, 7, 8, 11, 12, 13, 14, 15, 16, 9, 10, 17, 18, 19, 20, 21] (by kernel_rfl) rfl _ rfl ?_))
     (HV_split 17 10 (by decide)
      (HV_order [9] ty_ok [0, 1, 2, 3, 4, 5, 6, 7, 8, 11, 12, 13, 14, 15, 17, 9, 10, 16, 18, 19, 20, 21] (by kernel_rfl) rfl _ rfl ?_)
      (HV_order [9] ty_ok [0, 1, 2, 3, 4, 5, 6, 7, 8, 11, 12, 13, 14, 15, 9, 10, 16, 17, 18, 19, 20, 21] (by kernel_rfl) rfl _ rfl ?_)))
    (HV_split 16 10 (by decide)
     (HV_split 17 10 (by decide)
      (HV_order [9] ty_ok [0, 1, 2, 3, 4, 5, 6, 7, 8, 11, 12, 13, 15, 16, 17, 9, 10, 14, 18, 19, 20, 21] (by kernel_rfl) rfl _ rfl ?_)
      (HV_order [9] ty_ok [0, 1, 2, 3, 4, 5, 6, 7, 8, 11, 12, 13, 15, 16, 9, 10, 14, 17, 18, 19, 20, 21] (by kernel_rfl) rfl _ rfl ?_))
     (HV_split 17 10 (by decide)
      (HV_order [9] ty_ok [0, 1, 2, 3, 4, 5, 6, 7, 8, 11, 12, 13, 15, 17, 9, 10, 14, 16, 18, 19, 20, 21] (by kernel_rfl) rfl _ rfl ?_)
      (HV_order [] ty_ok [0, 1, 2, 3, 4, 5, 6, 7, 8, 11, 12, 13, 15, 9, 10, 14, 16, 17, 18, 19, 20, 21] (by kernel_rfl) rfl _ rfl ?_))))
  all_goals
    simp only [addAt, opl_nil', opl_cons', oplC_some, List.getElem?_toArray, List.getElem?_cons_zero, List.getElem?_cons_succ]
    refine rn1 (jn @tdbS.eq_1 (jn @tdb0.eq_1 (jn @tdb2.eq_1 (jn @tdA.eq_1 (jn @tdcR.eq_1 (jn @tblC.eq_1 (jn @aktE.eq_1 (jn @fctE.eq_1 @cstE.eq_1)))))))) ?_
    refine HO_callQ ty_ok (i := 0) (pre := []) kf rfl rfl rfl (by kernel_rfl) rfl (fun _ => rfl) rfl (by repeat' (first | exact trivial | exact WeakA.refl _ | exact WeakA.toD rfl | refine ⟨?_, ?_⟩)) rfl rfl rfl ?_
    refine rn1 (jn @bF.eq_1 (jn @fnF.eq_1 (jn @cstE.eq_1 (jn @tbl.eq_1 @tblC.eq_1)))) ?_
    refine HO_callX ty_ok [0,4,5,6,7] kg (bF_hand _ _ _ _ _ _ _ _ _ _ _ rfl rfl rfl rfl rfl) (bF_wf _ _ _ _ _) ?_
    rintro v r' ⟨rfl, rfl⟩ _
    refine rn1 (jn @bF.eq_1 (jn @fnF.eq_1 (jn @cstE.eq_1 (jn @tbl.eq_1 @tblC.eq_1)))) ?_
    refine HO_callX ty_ok [1] kr (tbl_hand _ _ _ _ rfl) (tbl_wf _ _) ?_
    rintro v r' ⟨rfl, rfl⟩ _
    refine rn1 (jn @tbl.eq_1 @tblC.eq_1) ?_
    refine HO_pureA ty_ok kk ?_
    refine rn0 ?_
    refine ⟨[0, 1, 2, 3], [], ?_⟩
    exact ft1 (jn @tdbS.eq_1 (jn @tdb0.eq_1 (jn @tdb2.eq_1 (jn @tdA.eq_1 (jn @tdcR.eq_1 (jn @tblC.eq_1 (jn @aktE.eq_1 (jn @fctE.eq_1 @cstE.eq_1))))))))
end Go.Proofs.Ythdjblfiiogmgaa

set_option linter.unusedVariables false
set_option linter.unusedSimpArgs false
set_option maxRecDepth 100000
namespace Go.Proofs.Ythdjblfiiogmgaa
open Go Go.ChangeShapes Go.WideShapes
set_option maxHeartbeats 8000000 in
theorem td30_b (l : List Actt) (i : Nat) (M : List Fct) (m : Int) (x : Actt) (hm : m ≠ 0) (hM : okB M) (hx : x.f.l.length ≤ 1000000) (K : KD) (c : Code) (hc : c = (cR (Try.f10.body.getD .skip) 30).getD .skip)
    (hk : A Try.prog ty noG 227 K .normal ⟨fun _ => .top, (14, .ptr 4 0) :: tdbS l 2 3 i, tdb2 M m x ++ [tdcR]⟩) : HC Try.prog ty noG 227 c K ⟨fun _ => .top, (14, .ptr 4 0) :: tdbS l 2 3 i, tdb2 M m x ++ [tdcR]⟩ := by
  have hMl := hM.len
  have kf := findQ_ac x.f.p x.n cs1
  have kg := gathF_ac M hM m hm x.f.p x.n cs1
  have kr := rfind_ac M m hM x.f.p x.n cs1
  have h1 := hM.sub (List.filter_sublist (p := fndB x.f.p x.n cs1))
  have h3 := h1.len
  generalize M.filter (fndB x.f.p x.n cs1) = F1 at *
  have kk := rlikeF_ac F1 F1 (by omega) (by omega) h1.ok h1.ok
  rw [decide_eq_true rfl] at kk
  rw [fnF] at kg
  simp only [cstE, cs1, List.cons_append, List.nil_append] at kf kr
  subst hc
  show HC _ _ _ _ (Code.region 30 _ true) _ _
  refine HC_cutR _ _ ?_ hk
  refine HC_of_HV mix (HV_split 14 10 (by decide)
    (HV_split 16 10 (by decide)
     (HV_split 17 10 (by decide)
      (HV_order [9] ty_ok [0, 1, 2, 3, 4, 5, 6, 7, 8, 11, 12, 13, 14, 15, 16, 17, 9, 10, 18, 19, 20, 21] (by kernel_rfl) rfl _ rfl ?_)
      (HV_order [9] ty_ok [0, 1, 2, 3, 4, 5, 6, 7, 8, 11, 12, 13, 14, 15, 16, 9, 10, 17, 18, 19, 20, 21] (by kernel_rfl) rfl _ rfl ?_))
     (HV_split 17 10 (by decide)
      (HV_order [9] ty_ok [0, 1, 2, 3, 4, 5, 6, 7, 8, 11, 12, 13, 14, 15, 17, 9, 10, 16, 18, 19, 20, 21] (by kernel_rfl) rfl _ rfl ?_)
      (HV_order [9] ty_ok [0, 1, 2, 3, 4, 5, 6, 7, 8, 11, 12, 13, 14, 15, 9, 10, 16, 17, 18, 19, 20, 21] (by kernel_rfl) rfl _ rfl ?_)))
    (HV_split 16 10 (by decide)
     (HV_split 17 10 (by decide)
      (HV_order [9] ty_ok [0, 1, 2, 3, 4, 5, 6, 7, 8, 11, 12, 13, 15, 16, 17, 9, 10, 14, 18, 19, 20, 21] (by kernel_rfl) rfl _ rfl ?_)
      (HV_order [9] ty_ok [0, 1, 2, 3, 4, 5, 6, 7, 8, 11, 12, 13, 15, 16, 9, 10, 14, 17, 18, 19, 20, 21] (by kernel_rfl) rfl _ rfl ?_))
     (HV_split 17 10 (by decide)
      (HV_order [9] ty_ok [0, 1, 2, 3, 4, 5, 6, 7, 8, 11, 12, 13, 15, 17, 9, 10, 14, 16, 18, 19, 20, 21] (by kernel_rfl) rfl _ rfl ?_)
      (HV_order [] ty_ok [0, 1, 2, 3, 4, 5, 6, 7, 8, 11, 12, 13, 15, 9, 10, 14, 16, 17, 18, 19, 20, 21] (by kernel_rfl) rfl _ rfl ?_))))
  all_goals
    simp only [addAt, opl_nil', opl_cons', oplC_some, List.getElem?_toArray, List.getElem?_cons_zero, List.getElem?_cons_succ]
    refine rn1 (jn @tdbS.eq_1 (jn @tdb0.eq_1 (jn @tdb2.eq_1 (jn @tdA.eq_1 (jn @tdcR.eq_1 (jn @tblC.eq_1 (jn @aktE.eq_1 (jn @fctE.eq_1 @cstE.eq_1)))))))) ?_
    refine HO_callQ ty_ok (i := 2) (pre := []) kf rfl rfl rfl (by kernel_rfl) rfl (fun _ => rfl) rfl (by repeat' (first | exact trivial | exact WeakA.refl _ | exact WeakA.toD rfl | refine ⟨?_, ?_⟩)) rfl rfl rfl ?_
    refine rn1 (jn @bF.eq_1 (jn @fnF.eq_1 (jn @cstE.eq_1 (jn @tbl.eq_1 @tblC.eq_1)))) ?_
    refine HO_callX ty_ok [2,5,6,7,8] kg (bF_hand _ _ _ _ _ _ _ _ _ _ _ rfl rfl rfl rfl rfl) (bF_wf _ _ _ _ _) ?_
    rintro v r' ⟨rfl, rfl⟩ _
    refine rn1 (jn @bF.eq_1 (jn @fnF.eq_1 (jn @cstE.eq_1 (jn @tbl.eq_1 @tblC.eq_1)))) ?_
    refine HO_callX ty_ok [1] kr (tbl_hand _ _ _ _ rfl) (tbl_wf _ _) ?_
    rintro v r' ⟨rfl, rfl⟩ _
    refine rn1 (jn @tbl.eq_1 @tblC.eq_1) ?_
    refine HO_pureA ty_ok kk ?_
    refine rn0 ?_
    refine ⟨[0, 1, 2, 3, 4], [], ?_⟩
    exact ft1 (jn @tdbS.eq_1 (jn @tdb0.eq_1 (jn @tdb2.eq_1 (jn @tdA.eq_1 (jn @tdcR.eq_1 (jn @tblC.eq_1 (jn @aktE.eq_1 (jn @fctE.eq_1 @cstE.eq_1))))))))
end Go.Proofs.Ythdjblfiiogmgaa

set_option linter.unusedVariables false
set_option linter.unusedSimpArgs false
set_option maxRecDepth 100000
namespace Go.Proofs.Ythdjblfiiogmgaa
open Go Go.ChangeShapes Go.WideShapes
set_option maxHeartbeats 8000000 in
theorem td31_a (l : List Actt) (i : Nat) (M : List Fct) (m : Int) (x : Actt) (hm : m ≠ 0) (hM : okB M) (hx : x.f.l.length ≤ 1000000) (K : KD) (c : Code) (hc : c = (cR (Try.f10.body.getD .skip) 31).getD .skip)
    (hk : A Try.prog ty noG 227 K .normal ⟨fun _ => .top, (225, .d (.c (.bool false))) :: tdbS l 0 2 i, tdb0 M m x⟩) : HC Try.prog ty noG 227 c K ⟨fun _ => .top, tdbS l 0 2 i, tdb0 M m x⟩ := by
  have hMl := hM.len
  have kl := blenL_ac M m hm
  have kh := bhasL_ac M m hm hM x.f (by omega)
  rw [tblD] at kl kh
  have kr := has_ac M (by omega) (fun g hg => Nat.le_trans (hM.ok g hg) (by decide)) x.f (by omega)
  have kg := gathT_ac M hM m hm
  have kk := rlikeF_ac M M (by omega) (by omega) hM.ok hM.ok
  rw [decide_eq_true rfl] at kk
  simp only [fctE, List.cons_append, List.nil_append] at kh kr
  generalize decide (x.f ∈ M) = hb at *
  subst hc
  show HC _ _ _ _ (Code.region 31 _ true) _ _
  refine HC_cutR _ _ ?_ hk
  refine HC_of_HV mix (HV_split 33 29 (by decide)
    (HV_order [4, 16, 28] ty_ok (0 :: 1 :: 2 :: 3 :: 5 :: 6 :: 7 :: 8 :: 9 :: 4 :: 10 :: 11 :: 12 :: 13 :: 14 :: 15 :: 17 :: 18 :: 19 :: 20 :: 21 :: 22 :: 16 :: 23 :: 24 :: 25 :: 26 :: 27 :: 30 :: 31 :: 32 :: 33 :: 28 :: 29 :: 34 :: 35 :: 36 :: []) (by kernel_rfl) rfl _ rfl ?_)
    (HV_order [4, 16] ty_ok (0 :: 1 :: 2 :: 3 :: 5 :: 6 :: 7 :: 8 :: 9 :: 4 :: 10 :: 11 :: 12 :: 13 :: 14 :: 15 :: 17 :: 18 :: 19 :: 20 :: 21 :: 22 :: 16 :: 23 :: 24 :: 25 :: 26 :: 27 :: 30 :: 31 :: 32 :: 28 :: 29 :: 33 :: 34 :: 35 :: 36 :: []) (by kernel_rfl) rfl _ rfl ?_))
  all_goals
    simp only [addAt, opl_nil', opl_cons', oplC_some, List.getElem?_toArray, List.getElem?_cons_zero, List.getElem?_cons_succ]
    refine rn1 (jn @tdbS.eq_1 (jn @tdb0.eq_1 (jn @tdb2.eq_1 (jn @tdA.eq_1 (jn @tdcR.eq_1 (jn @tblC.eq_1 (jn @aktE.eq_1 (jn @fctE.eq_1 @cstE.eq_1)))))))) ?_
    refine HO_lend ty_ok (kl) (rfl) rfl rfl rfl (by kernel_rfl) ⟨BwA.ptr0 rfl rfl, trivial⟩ ?_
    refine rn0 ?_
    refine HO_lend ty_ok (kh) (rfl) rfl rfl rfl (by kernel_rfl) ⟨BwA.ptr0 rfl rfl, BwA.val (.refl _) rfl, trivial⟩ ?_
    refine rn0 ?_
    refine HO_pureA ty_ok kr ?_
    refine rn0 ?_
    refine HO_callQ ty_ok (i := 0) allQ_ac rfl rfl rfl (by kernel_rfl) rfl (fun _ => rfl) rfl (by repeat' (first | exact trivial | exact WeakA.refl _ | exact WeakA.toD rfl | refine ⟨?_, ?_⟩)) rfl rfl rfl ?_
    refine rn1 (jn @bA.eq_1 (jn @tbl.eq_1 @tblC.eq_1)) ?_
    refine HO_callX ty_ok [0,3,4] kg (bA_hand _ _ _ _ _ _ rfl rfl rfl) (bA_wf _ _) ?_
    rintro v r' ⟨rfl, rfl⟩ _
    refine rn1 (jn @bA.eq_1 (jn @tbl.eq_1 @tblC.eq_1)) ?_
    refine HO_pureA ty_ok kk ?_
    refine rn0 ?_
    refine ⟨[0, 1, 2], [], ?_⟩
    exact ft1 (jn @tdbS.eq_1 (jn @tdb0.eq_1 (jn @tdb2.eq_1 (jn @tdA.eq_1 (jn @tdcR.eq_1 (jn @tblC.eq_1 (jn @aktE.eq_1 (jn @fctE.eq_1 @cstE.eq_1))))))))
end Go.Proofs.Ythdjblfiiogmgaa

set_option linter.unusedVariables false
set_option linter.unusedSimpArgs false
set_option maxRecDepth 100000
namespace Go.Proofs.Ythdjblfiiogmgaa
open Go Go.ChangeShapes Go.WideShapes
set_option maxHeartbeats 8000000 in
theorem td31_b (l : List Actt) (i : Nat) (M : List Fct) (m : Int) (x : Actt) (hm : m ≠ 0) (hM : okB M) (hx : x.f.l.length ≤ 1000000) (K : KD) (c : Code) (hc : c = (cR (Try.f10.body.getD .skip) 31).getD .skip)
    (hk : A Try.prog ty noG 227 K .normal ⟨fun _ => .top, (225, .d (.c (.bool false))) :: tdbS l 2 3 i, tdb2 M m x⟩) : HC Try.prog ty noG 227 c K ⟨fun _ => .top, tdbS l 2 3 i, tdb2 M m x⟩ := by
  have hMl := hM.len
  have kl := blenL_ac M m hm
  have kh := bhasL_ac M m hm hM x.f (by omega)
  rw [tblD] at kl kh
  have kr := has_ac M (by omega) (fun g hg => Nat.le_trans (hM.ok g hg) (by decide)) x.f (by omega)
  have kg := gathT_ac M hM m hm
  have kk := rlikeF_ac M M (by omega) (by omega) hM.ok hM.ok
  rw [decide_eq_true rfl] at kk
  simp only [fctE, List.cons_append, List.nil_append] at kh kr
  generalize decide (x.f ∈ M) = hb at *
  subst hc
  show HC _ _ _ _ (Code.region 31 _ true) _ _
  refine HC_cutR _ _ ?_ hk
  refine HC_of_HV mix (HV_split 33 29 (by decide)
    (HV_order [4, 16, 28] ty_ok (0 :: 1 :: 2 :: 3 :: 5 :: 6 :: 7 :: 8 :: 9 :: 4 :: 10 :: 11 :: 12 :: 13 :: 14 :: 15 :: 17 :: 18 :: 19 :: 20 :: 21 :: 22 :: 16 :: 23 :: 24 :: 25 :: 26 :: 27 :: 30 :: 31 :: 32 :: 33 :: 28 :: 29 :: 34 :: 35 :: 36 :: []) (by kernel_rfl) rfl _ rfl ?_)
    (HV_order [4, 16] ty_ok (0 :: 1 :: 2 :: 3 :: 5 :: 6 :: 7 :: 8 :: 9 :: 4 :: 10 :: 11 :: 12 :: 13 :: 14 :: 15 :: 17 :: 18 :: 19 :: 20 :: 21 :: 22 :: 16 :: 23 :: 24 :: 25 :: 26 :: 27 :: 30 :: 31 :: 32 :: 28 :: 29 :: 33 :: 34 :: 35 :: 36 :: []) (by kernel_rfl) rfl _ rfl ?_))
  all_goals
    simp only [addAt, opl_nil', opl_cons', oplC_some, List.getElem?_toArray, List.getElem?_cons_zero, List.getElem?_cons_succ]
    refine rn1 (jn @tdbS.eq_1 (jn @tdb0.eq_1 (jn @tdb2.eq_1 (jn @tdA.eq_1 (jn @tdcR.eq_1 (jn @tblC.eq_1 (jn @aktE.eq_1 (jn @fctE.eq_1 @cstE.eq_1)))))))) ?_
    refine HO_lend ty_ok (kl) (rfl) rfl rfl rfl (by kernel_rfl) ⟨BwA.ptr0 rfl rfl, trivial⟩ ?_
    refine rn0 ?_
    refine HO_lend ty_ok (kh) (rfl) rfl rfl rfl (by kernel_rfl) ⟨BwA.ptr0 rfl rfl, BwA.val (.refl _) rfl, trivial⟩ ?_
    refine rn0 ?_
    refine HO_pureA ty_ok kr ?_
    refine rn0 ?_
    refine HO_callQ ty_ok (i := 2) allQ_ac rfl rfl rfl (by kernel_rfl) rfl (fun _ => rfl) rfl (by repeat' (first | exact trivial | exact WeakA.refl _ | exact WeakA.toD rfl | refine ⟨?_, ?_⟩)) rfl rfl rfl ?_
    refine rn1 (jn @bA.eq_1 (jn @tbl.eq_1 @tblC.eq_1)) ?_
    refine HO_callX ty_ok [2,4,5] kg (bA_hand _ _ _ _ _ _ rfl rfl rfl) (bA_wf _ _) ?_
    rintro v r' ⟨rfl, rfl⟩ _
    refine rn1 (jn @bA.eq_1 (jn @tbl.eq_1 @tblC.eq_1)) ?_
    refine HO_pureA ty_ok kk ?_
    refine rn0 ?_
    refine ⟨[0, 1, 2, 3], [], ?_⟩
    exact ft1 (jn @tdbS.eq_1 (jn @tdb0.eq_1 (jn @tdb2.eq_1 (jn @tdA.eq_1 (jn @tdcR.eq_1 (jn @tblC.eq_1 (jn @aktE.eq_1 (jn @fctE.eq_1 @cstE.eq_1))))))))
end Go.Proofs.Ythdjblfiiogmgaa

set_option linter.unusedVariables false
set_option linter.unusedSimpArgs false
set_option maxRecDepth 100000
namespace Go.Proofs.Ythdjblfiiogmgaa
open Go Go.ChangeShapes Go.WideShapes
set_option maxHeartbeats 8000000 in
theorem td31_c (l : List Actt) (i : Nat) (M : List Fct) (m : Int) (x : Actt) (hm : m ≠ 0) (hM : okB M) (hx : x.f.l.length ≤ 1000000) (K : KD) (c : Code) (hc : c = (cR (Try.f10.body.getD .skip) 31).getD .skip)
    (hk : A Try.prog ty noG 227 K .normal ⟨fun _ => .top, (225, .d (.c (.bool false))) :: tdbS l 3 2 i, tdb3 M m x⟩) : HC Try.prog ty noG 227 c K ⟨fun _ => .top, tdbS l 3 2 i, tdb3 M m x⟩ := by
  have hMl := hM.len
  have kl := blenL_ac M m hm
  have kh := bhasL_ac M m hm hM x.f (by omega)
  rw [tblD] at kl kh
  have kr := has_ac M (by omega) (fun g hg => Nat.le_trans (hM.ok g hg) (by decide)) x.f (by omega)
  have kg := gathT_ac M hM m hm
  have kk := rlikeF_ac M M (by omega) (by omega) hM.ok hM.ok
  rw [decide_eq_true rfl] at kk
  simp only [fctE, List.cons_append, List.nil_append] at kh kr
  generalize decide (x.f ∈ M) = hb at *
  subst hc
  show HC _ _ _ _ (Code.region 31 _ true) _ _
  refine HC_cutR _ _ ?_ hk
  refine HC_of_HV mix (HV_split 33 29 (by decide)
    (HV_order [4, 16, 28] ty_ok (0 :: 1 :: 2 :: 3 :: 5 :: 6 :: 7 :: 8 :: 9 :: 4 :: 10 :: 11 :: 12 :: 13 :: 14 :: 15 :: 17 :: 18 :: 19 :: 20 :: 21 :: 22 :: 16 :: 23 :: 24 :: 25 :: 26 :: 27 :: 30 :: 31 :: 32 :: 33 :: 28 :: 29 :: 34 :: 35 :: 36 :: []) (by kernel_rfl) rfl _ rfl ?_)
    (HV_order [4, 16] ty_ok (0 :: 1 :: 2 :: 3 :: 5 :: 6 :: 7 :: 8 :: 9 :: 4 :: 10 :: 11 :: 12 :: 13 :: 14 :: 15 :: 17 :: 18 :: 19 :: 20 :: 21 :: 22 :: 16 :: 23 :: 24 :: 25 :: 26 :: 27 :: 30 :: 31 :: 32 :: 28 :: 29 :: 33 :: 34 :: 35 :: 36 :: []) (by kernel_rfl) rfl _ rfl ?_))
  all_goals
    simp only [addAt, opl_nil', opl_cons', oplC_some, List.getElem?_toArray, List.getElem?_cons_zero, List.getElem?_cons_succ]
    refine rn1 (jn @tdbS.eq_1 (jn @tdb0.eq_1 (jn @tdb2.eq_1 (jn @tdA.eq_1 (jn @tdcR.eq_1 (jn @tblC.eq_1 (jn @aktE.eq_1 (jn @fctE.eq_1 (jn @cstE.eq_1 (jn @tdb3.eq_1 @tdb4.eq_1)))))))))) ?_
    refine HO_lend ty_ok (kl) (rfl) rfl rfl rfl (by kernel_rfl) ⟨BwA.ptr0 rfl rfl, trivial⟩ ?_
    refine rn0 ?_
    refine HO_lend ty_ok (kh) (rfl) rfl rfl rfl (by kernel_rfl) ⟨BwA.ptr0 rfl rfl, BwA.val (.refl _) rfl, trivial⟩ ?_
    refine rn0 ?_
    refine HO_pureA ty_ok kr ?_
    refine rn0 ?_
    refine HO_callQ ty_ok (i := 3) allQ_ac rfl rfl rfl (by kernel_rfl) rfl (fun _ => rfl) rfl (by repeat' (first | exact trivial | exact WeakA.refl _ | exact WeakA.toD rfl | refine ⟨?_, ?_⟩)) rfl rfl rfl ?_
    refine rn1 (jn @bA.eq_1 (jn @tbl.eq_1 @tblC.eq_1)) ?_
    refine HO_callX ty_ok [3,4,5] kg (bA_hand _ _ _ _ _ _ rfl rfl rfl) (bA_wf _ _) ?_
    rintro v r' ⟨rfl, rfl⟩ _
    refine rn1 (jn @bA.eq_1 (jn @tbl.eq_1 @tblC.eq_1)) ?_
    refine HO_pureA ty_ok kk ?_
    refine rn0 ?_
    refine ⟨[0, 1, 2, 3], [], ?_⟩
    exact ft1 (jn @tdbS.eq_1 (jn @tdb0.eq_1 (jn @tdb2.eq_1 (jn @tdA.eq_1 (jn @tdcR.eq_1 (jn @tblC.eq_1 (jn @aktE.eq_1 (jn @fctE.eq_1 (jn @cstE.eq_1 (jn @tdb3.eq_1 @tdb4.eq_1))))))))))
end Go.Proofs.Ythdjblfiiogmgaa

set_option linter.unusedVariables false
set_option linter.unusedSimpArgs false
set_option maxRecDepth 100000
namespace Go.Proofs.Ythdjblfiiogmgaa
open Go Go.ChangeShapes Go.WideShapes
set_option maxHeartbeats 8000000 in
theorem td31_d (l : List Actt) (i : Nat) (M : List Fct) (m : Int) (x : Actt) (hm : m ≠ 0) (hM : okB M) (hx : x.f.l.length ≤ 1000000) (K : KD) (c : Code) (hc : c = (cR (Try.f10.body.getD .skip) 31).getD .skip)
    (hk : A Try.prog ty noG 227 K .normal ⟨fun _ => .top, (225, .d (.c (.bool false))) :: tdbS l 4 3 i, tdb4 M m x⟩) : HC Try.prog ty noG 227 c K ⟨fun _ => .top, tdbS l 4 3 i, tdb4 M m x⟩ := by
  have hMl := hM.len
  have kl := blenL_ac M m hm
  have kh := bhasL_ac M m hm hM x.f (by omega)
  rw [tblD] at kl kh
  have kr := has_ac M (by omega) (fun g hg => Nat.le_trans (hM.ok g hg) (by decide)) x.f (by omega)
  have kg := gathT_ac M hM m hm
  have kk := rlikeF_ac M M (by omega) (by omega) hM.ok hM.ok
  rw [decide_eq_true rfl] at kk
  simp only [fctE, List.cons_append, List.nil_append] at kh kr
  generalize decide (x.f ∈ M) = hb at *
  subst hc
  show HC _ _ _ _ (Code.region 31 _ true) _ _
  refine HC_cutR _ _ ?_ hk
  refine HC_of_HV mix (HV_split 33 29 (by decide)
    (HV_order [4, 16, 28] ty_ok (0 :: 1 :: 2 :: 3 :: 5 :: 6 :: 7 :: 8 :: 9 :: 4 :: 10 :: 11 :: 12 :: 13 :: 14 :: 15 :: 17 :: 18 :: 19 :: 20 :: 21 :: 22 :: 16 :: 23 :: 24 :: 25 :: 26 :: 27 :: 30 :: 31 :: 32 :: 33 :: 28 :: 29 :: 34 :: 35 :: 36 :: []) (by kernel_rfl) rfl _ rfl ?_)
    (HV_order [4, 16] ty_ok (0 :: 1 :: 2 :: 3 :: 5 :: 6 :: 7 :: 8 :: 9 :: 4 :: 10 :: 11 :: 12 :: 13 :: 14 :: 15 :: 17 :: 18 :: 19 :: 20 :: 21 :: 22 :: 16 :: 23 :: 24 :: 25 :: 26 :: 27 :: 30 :: 31 :: 32 :: 28 :: 29 :: 33 :: 34 :: 35 :: 36 :: []) (by kernel_rfl) rfl _ rfl ?_))
  all_goals
    simp only [addAt, opl_nil', opl_cons', oplC_some, List.getElem?_toArray, List.getElem?_cons_zero, List.getElem?_cons_succ]
    refine rn1 (jn @tdbS.eq_1 (jn @tdb0.eq_1 (jn @tdb2.eq_1 (jn @tdA.eq_1 (jn @tdcR.eq_1 (jn @tblC.eq_1 (jn @aktE.eq_1 (jn @fctE.eq_1 (jn @cstE.eq_1 (jn @tdb3.eq_1 @tdb4.eq_1)))))))))) ?_
    refine HO_lend ty_ok (kl) (rfl) rfl rfl rfl (by kernel_rfl) ⟨BwA.ptr0 rfl rfl, trivial⟩ ?_
    refine rn0 ?_
    refine HO_lend ty_ok (kh) (rfl) rfl rfl rfl (by kernel_rfl) ⟨BwA.ptr0 rfl rfl, BwA.val (.refl _) rfl, trivial⟩ ?_
    refine rn0 ?_
    refine HO_pureA ty_ok kr ?_
    refine rn0 ?_
    refine HO_callQ ty_ok (i := 4) allQ_ac rfl rfl rfl (by kernel_rfl) rfl (fun _ => rfl) rfl (by repeat' (first | exact trivial | exact WeakA.refl _ | exact WeakA.toD rfl | refine ⟨?_, ?_⟩)) rfl rfl rfl ?_
    refine rn1 (jn @bA.eq_1 (jn @tbl.eq_1 @tblC.eq_1)) ?_
    refine HO_callX ty_ok [4,5,6] kg (bA_hand _ _ _ _ _ _ rfl rfl rfl) (bA_wf _ _) ?_
    rintro v r' ⟨rfl, rfl⟩ _
    refine rn1 (jn @bA.eq_1 (jn @tbl.eq_1 @tblC.eq_1)) ?_
    refine HO_pureA ty_ok kk ?_
    refine rn0 ?_
    refine ⟨[0, 1, 2, 3, 4], [], ?_⟩
    exact ft1 (jn @tdbS.eq_1 (jn @tdb0.eq_1 (jn @tdb2.eq_1 (jn @tdA.eq_1 (jn @tdcR.eq_1 (jn @tblC.eq_1 (jn @aktE.eq_1 (jn @fctE.eq_1 (jn @cstE.eq_1 (jn @tdb3.eq_1 @tdb4.eq_1))))))))))
end Go.Proofs.Ythdjblfiiogmgaa

set_option linter.unusedVariables false
set_option linter.unusedSimpArgs false
set_option maxRecDepth 100000
namespace Go.Proofs.Ythdjblfiiogmgaa
open Go Go.ChangeShapes Go.WideShapes
set_option maxHeartbeats 8000000 in
theorem td31_e (l : List Actt) (i : Nat) (M : List Fct) (m : Int) (x : Actt) (hm : m ≠ 0) (hM : okB M) (hx : x.f.l.length ≤ 1000000) (K : KD) (c : Code) (hc : c = (cR (Try.f10.body.getD .skip) 31).getD .skip)
    (hk : A Try.prog ty noG 227 K .normal ⟨fun _ => .top, (225, .d (.c (.bool false))) :: tdbS l 0 2 i, tdb5 M m x⟩) : HC Try.prog ty noG 227 c K ⟨fun _ => .top, tdbS l 0 2 i, tdb5 M m x⟩ := by
  have hMl := hM.len
  have kl := blenL_ac M m hm
  have kh := bhasL_ac M m hm hM x.f (by omega)
  rw [tblD] at kl kh
  have kr := has_ac M (by omega) (fun g hg => Nat.le_trans (hM.ok g hg) (by decide)) x.f (by omega)
  have kg := gathT_ac M hM m hm
  have kk := rlikeF_ac M M (by omega) (by omega) hM.ok hM.ok
  rw [decide_eq_true rfl] at kk
  simp only [fctE, List.cons_append, List.nil_append] at kh kr
  generalize decide (x.f ∈ M) = hb at *
  subst hc
  show HC _ _ _ _ (Code.region 31 _ true) _ _
  refine HC_cutR _ _ ?_ hk
  refine HC_of_HV mix (HV_split 33 29 (by decide)
    (HV_order [4, 16, 28] ty_ok (0 :: 1 :: 2 :: 3 :: 5 :: 6 :: 7 :: 8 :: 9 :: 4 :: 10 :: 11 :: 12 :: 13 :: 14 :: 15 :: 17 :: 18 :: 19 :: 20 :: 21 :: 22 :: 16 :: 23 :: 24 :: 25 :: 26 :: 27 :: 30 :: 31 :: 32 :: 33 :: 28 :: 29 :: 34 :: 35 :: 36 :: []) (by kernel_rfl) rfl _ rfl ?_)
    (HV_order [4, 16] ty_ok (0 :: 1 :: 2 :: 3 :: 5 :: 6 :: 7 :: 8 :: 9 :: 4 :: 10 :: 11 :: 12 :: 13 :: 14 :: 15 :: 17 :: 18 :: 19 :: 20 :: 21 :: 22 :: 16 :: 23 :: 24 :: 25 :: 26 :: 27 :: 30 :: 31 :: 32 :: 28 :: 29 :: 33 :: 34 :: 35 :: 36 :: []) (by kernel_rfl) rfl _ rfl ?_))
  all_goals
    simp only [addAt, opl_nil', opl_cons', oplC_some, List.getElem?_toArray, List.getElem?_cons_zero, List.getElem?_cons_succ]
    refine rn1 (jn @tdbS.eq_1 (jn @tdb0.eq_1 (jn @tdb2.eq_1 (jn @tdA.eq_1 (jn @tdcR.eq_1 (jn @tblC.eq_1 (jn @aktE.eq_1 (jn @fctE.eq_1 (jn @cstE.eq_1 (jn @tdb5.eq_1 @tdb6.eq_1)))))))))) ?_
    refine HO_lend ty_ok (kl) (rfl) rfl rfl rfl (by kernel_rfl) ⟨BwA.ptr0 rfl rfl, trivial⟩ ?_
    refine rn0 ?_
    refine HO_lend ty_ok (kh) (rfl) rfl rfl rfl (by kernel_rfl) ⟨BwA.ptr0 rfl rfl, BwA.val (.refl _) rfl, trivial⟩ ?_
    refine rn0 ?_
    refine HO_pureA ty_ok kr ?_
    refine rn0 ?_
    refine HO_callQ ty_ok (i := 0) allQ_ac rfl rfl rfl (by kernel_rfl) rfl (fun _ => rfl) rfl (by repeat' (first | exact trivial | exact WeakA.refl _ | exact WeakA.toD rfl | refine ⟨?_, ?_⟩)) rfl rfl rfl ?_
    refine rn1 (jn @bA.eq_1 (jn @tbl.eq_1 @tblC.eq_1)) ?_
    refine HO_callX ty_ok [0,4,5] kg (bA_hand _ _ _ _ _ _ rfl rfl rfl) (bA_wf _ _) ?_
    rintro v r' ⟨rfl, rfl⟩ _
    refine rn1 (jn @bA.eq_1 (jn @tbl.eq_1 @tblC.eq_1)) ?_
    refine HO_pureA ty_ok kk ?_
    refine rn0 ?_
    refine ⟨[0, 1, 2, 3], [], ?_⟩
    exact ft1 (jn @tdbS.eq_1 (jn @tdb0.eq_1 (jn @tdb2.eq_1 (jn @tdA.eq_1 (jn @tdcR.eq_1 (jn @tblC.eq_1 (jn @aktE.eq_1 (jn @fctE.eq_1 (jn @cstE.eq_1 (jn @tdb5.eq_1 @tdb6.eq_1))))))))))
end Go.Proofs.Ythdjblfiiogmgaa

set_option linter.unusedVariables false
set_option linter.unusedSimpArgs false
set_option maxRecDepth 100000
namespace Go.Proofs.Ythdjblfiiogmgaa
open Go Go.ChangeShapes Go.WideShapes
set_option maxHeartbeats 8000000 in
theorem td31_f (l : List Actt) (i : Nat) (M : List Fct) (m : Int) (x : Actt) (hm : m ≠ 0) (hM : okB M) (hx : x.f.l.length ≤ 1000000) (K : KD) (c : Code) (hc : c = (cR (Try.f10.body.getD .skip) 31).getD .skip)
    (hk : A Try.prog ty noG 227 K .normal ⟨fun _ => .top, (225, .d (.c (.bool false))) :: tdbS l 2 3 i, tdb6 M m x⟩) : HC Try.prog ty noG 227 c K ⟨fun _ => .top, tdbS l 2 3 i, tdb6 M m x⟩ := by
  have hMl := hM.len
  have kl := blenL_ac M m hm
  have kh := bhasL_ac M m hm hM x.f (by omega)
  rw [tblD] at kl kh
  have kr := has_ac M (by omega) (fun g hg => Nat.le_trans (hM.ok g hg) (by decide)) x.f (by omega)
  have kg := gathT_ac M hM m hm
  have kk := rlikeF_ac M M (by omega) (by omega) hM.ok hM.ok
  rw [decide_eq_true rfl] at kk
  simp only [fctE, List.cons_append, List.nil_append] at kh kr
  generalize decide (x.f ∈ M) = hb at *
  subst hc
  show HC _ _ _ _ (Code.region 31 _ true) _ _
  refine HC_cutR _ _ ?_ hk
  refine HC_of_HV mix (HV_split 33 29 (by decide)
    (HV_order [4, 16, 28] ty_ok (0 :: 1 :: 2 :: 3 :: 5 :: 6 :: 7 :: 8 :: 9 :: 4 :: 10 :: 11 :: 12 :: 13 :: 14 :: 15 :: 17 :: 18 :: 19 :: 20 :: 21 :: 22 :: 16 :: 23 :: 24 :: 25 :: 26 :: 27 :: 30 :: 31 :: 32 :: 33 :: 28 :: 29 :: 34 :: 35 :: 36 :: []) (by kernel_rfl) rfl _ rfl ?_)
    (HV_order [4, 16] ty_ok (0 :: 1 :: 2 :: 3 :: 5 :: 6 :: 7 :: 8 :: 9 :: 4 :: 10 :: 11 :: 12 :: 13 :: 14 :: 15 :: 17 :: 18 :: 19 :: 20 :: 21 :: 22 :: 16 :: 23 :: 24 :: 25 :: 26 :: 27 :: 30 :: 31 :: 32 :: 28 :: 29 :: 33 :: 34 :: 35 :: 36 :: []) (by kernel_rfl) rfl _ rfl ?_))
  all_goals
    simp only [addAt, opl_nil', opl_cons', oplC_some, List.getElem?_toArray, List.getElem?_cons_zero, List.getElem?_cons_succ]
    refine rn1 (jn @tdbS.eq_1 (jn @tdb0.eq_1 (jn @tdb2.eq_1 (jn @tdA.eq_1 (jn @tdcR.eq_1 (jn @tblC.eq_1 (jn @aktE.eq_1 (jn @fctE.eq_1 (jn @cstE.eq_1 (jn @tdb5.eq_1 @tdb6.eq_1)))))))))) ?_
    refine HO_lend ty_ok (kl) (rfl) rfl rfl rfl (by kernel_rfl) ⟨BwA.ptr0 rfl rfl, trivial⟩ ?_
    refine rn0 ?_
    refine HO_lend ty_ok (kh) (rfl) rfl rfl rfl (by kernel_rfl) ⟨BwA.ptr0 rfl rfl, BwA.val (.refl _) rfl, trivial⟩ ?_
    refine rn0 ?_
    refine HO_pureA ty_ok kr ?_
    refine rn0 ?_
    refine HO_callQ ty_ok (i := 2) allQ_ac rfl rfl rfl (by kernel_rfl) rfl (fun _ => rfl) rfl (by repeat' (first | exact trivial | exact WeakA.refl _ | exact WeakA.toD rfl | refine ⟨?_, ?_⟩)) rfl rfl rfl ?_
    refine rn1 (jn @bA.eq_1 (jn @tbl.eq_1 @tblC.eq_1)) ?_
    refine HO_callX ty_ok [2,5,6] kg (bA_hand _ _ _ _ _ _ rfl rfl rfl) (bA_wf _ _) ?_
    rintro v r' ⟨rfl, rfl⟩ _
    refine rn1 (jn @bA.eq_1 (jn @tbl.eq_1 @tblC.eq_1)) ?_
    refine HO_pureA ty_ok kk ?_
    refine rn0 ?_
    refine ⟨[0, 1, 2, 3, 4], [], ?_⟩
    exact ft1 (jn @tdbS.eq_1 (jn @tdb0.eq_1 (jn @tdb2.eq_1 (jn @tdA.eq_1 (jn @tdcR.eq_1 (jn @tblC.eq_1 (jn @aktE.eq_1 (jn @fctE.eq_1 (jn @cstE.eq_1 (jn @tdb5.eq_1 @tdb6.eq_1))))))))))
end Go.Proofs.Ythdjblfiiogmgaa
