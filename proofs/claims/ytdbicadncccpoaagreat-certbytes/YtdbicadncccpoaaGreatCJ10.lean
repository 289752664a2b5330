/- Parts of the proof: RdF, RCount, RRdTs, RRdF, RgtR, Dec, Sim, EncM. -/
import Derived.Test.YtdbicadncccpoaaGreatCJ9
import Derived.Test.YtdbicadncccpoaaGreatCJ1
import Derived.Test.YtdbicadncccpoaaGreatCJ2
set_option linter.unusedVariables false
set_option linter.unusedSimpArgs false
set_option maxRecDepth 100000
namespace Go.Proofs.YtdbicadncccpoaaGreat
open Go Go.ChangeShapes Go.WideShapes
def cv4 (b : List UInt8) (k e : Int) (o : Bool) : Cst × Int × Int × Bool := ((rdV b k e).1, (rdV b k e).2.1, (rdV b k e).2.2, o)
def zF : Fct := ⟨⟨#[]⟩, ⟨#[]⟩, ⟨#[]⟩, []⟩
/-- What a fact's bytes say, ahead of the look at it. -/
def rdF0 (b : List UInt8) (k : Int) : Fct × Int × Int × Bool :=
  thn (tx4 b k 0 false) fun a k e o => thn (tx4 b k e o) fun c k e o => thn (tx4 b k e o) fun p k e o => thn (ct4 b 48 k e o) fun n k e o => thn (rdG (cv4 b) n.toNat k e o) fun l k e o => (⟨a, c, p, l⟩, k, e, o)
def rdF (b : List UInt8) (k : Int) : Fct × Int × Int := if (rdF0 b k).2.2.1 = 0 then (if chkF (rdF0 b k).1 then ((rdF0 b k).1, (rdF0 b k).2.1, 0) else (zF, 0, 40)) else (zF, 0, (rdF0 b k).2.2.1)
def fcV (t : Fct × Int × Int) : AV := .tup [.d (.agg (fctE t.1)), .d (.c (.int .i64 t.2.1)), .d (.c (.int .i64 t.2.2))]
structure FsI where
  i : Nat
  acc : List Cst
  k : Int
  e : Int
def fsSt (n : Int) (x : FsI) : List (Nat × AV) := [(4, .ptr 0 0), (5, .d (.c (.int .i64 0))), (6, .d (.c (.int .i64 0))), (7, .ptr 1 0), (8, .d (.c (.int .i64 n))), (9, .d (.c (.int .i64 x.i)))]
def fsRe (b : List UInt8) (s1 s2 s3 : ByteArray) (x : FsI) : Rs := [some (.obj [.d (.c (.string s1)), .d (.c (.string s2)), .d (.c (.string s3)), .sl (.own 2) 3 x.acc.length (flatE cstE x.acc)]), some (.obj (rdO b x.k x.e)), some (.tok (flatE cstE x.acc).length)]
theorem fcV_err {x : Fct × Int × Int × Bool} (h : ¬ x.2.2.1 = 0) : (if x.2.2.1 = 0 then (if chkF x.1 then (x.1, x.2.1, (0 : Int)) else (zF, 0, 40)) else (zF, 0, x.2.2.1)) = (zF, 0, x.2.2.1) := by rw [if_neg h]
set_option maxHeartbeats 1000000 in
theorem fact_ac (b : List UInt8) (k : Int) (hb : b.length ≤ 140737488355000) (h0 : -9223372036854775808 ≤ k) (h1 : k ≤ 9223372036854775807) : AC Tryz.prog noG 47 [.d (.sl 1 b.length (bD b)), .d (.c (.int .i64 k))] []
    (fun v r' => v = fcV (rdF b k) ∧ r' = []) := by
  refine AC.fit ?_
  refine AC_of_R (N := 67) (res := [.cell 4 38, .tmp 5, .tmp 6]) ty_ok Tryz.call47 Tryz.func47 rfl rfl rfl (Nat.le_of_ble_eq_true rfl) ?_
  obtain ⟨R, hm⟩ : ∃ R, R = rdF0 b k := ⟨_, rfl⟩
  have hF : rdF b k = if R.2.2.1 = 0 then (if chkF R.1 then (R.1, R.2.1, 0) else (zF, 0, 40)) else (zF, 0, R.2.2.1) := by rw [hm]; rfl
  rw [hF]
  clear hF
  simp only [rdF0, thn, tx4, ct4] at hm
  have ok0 : okR b k 0 := ⟨⟨h0, h1⟩, by omega⟩
  have hx := rtxt_ac b k 0 hb ok0
  have ho := rdT_ok hb ok0
  generalize rdT b k 0 = x_ at *
  obtain ⟨s1, k1, e1⟩ := x_
  dsimp only at hx ho hm
  have a1 := ho
  refine rn0 ?_
  refine HO_callX ty_ok [1] (hx) (rdr_hand _ _ _ _ _ rfl) (rdr_wf _ _ _) ?_
  rintro v r' ⟨rfl, rfl⟩ _
  clear hx
  have hx := rtxt_ac b k1 e1 hb a1.1
  have ho := rdT_ok hb a1.1
  generalize rdT b k1 e1 = x_ at *
  obtain ⟨s2, k2, e2⟩ := x_
  dsimp only at hx ho hm
  have a2 := ho
  refine rn1 (jn @rdr.eq_1 @rdO.eq_1) ?_
  refine HO_callX ty_ok [1] (hx) (rdr_hand _ _ _ _ _ rfl) (rdr_wf _ _ _) ?_
  rintro v r' ⟨rfl, rfl⟩ _
  clear hx
  have hx := rtxt_ac b k2 e2 hb a2.1
  have ho := rdT_ok hb a2.1
  generalize rdT b k2 e2 = x_ at *
  obtain ⟨s3, k3, e3⟩ := x_
  dsimp only at hx ho hm
  have a3 := ho
  refine rn1 (jn @rdr.eq_1 @rdO.eq_1) ?_
  refine HO_callX ty_ok [1] (hx) (rdr_hand _ _ _ _ _ rfl) (rdr_wf _ _ _) ?_
  rintro v r' ⟨rfl, rfl⟩ _
  clear hx
  have hx := rcnt_ac b 48 k3 e3 hb a3.1
  have ho := rdC_ok (most := 48) (by omega) hb a3.1
  generalize rdC b 48 k3 e3 = x_ at *
  obtain ⟨n, k5, e5⟩ := x_
  dsimp only at hx ho hm
  have a5 := ho
  refine rn1 (jn @rdr.eq_1 @rdO.eq_1) ?_
  refine HO_callX ty_ok [1] (hx) (rdr_hand _ _ _ _ _ rfl) (rdr_wf _ _ _) ?_
  rintro v r' ⟨rfl, rfl⟩ _
  refine rn1 (jn @rdr.eq_1 @rdO.eq_1) ?_
  clear ho hx
  obtain ⟨Q, hQ⟩ : ∃ Q, Q = rdG (cv4 b) n.toNat k5 e5 false := ⟨_, rfl⟩
  rw [← hQ] at hm
  refine HC_loopR (fsSt n) (fsRe b s1 s2 s3) (fun x => x.i ≤ n.toNat ∧ x.acc.length ≤ x.i ∧ okR b x.k x.e ∧ (x.e = 0 → 0 ≤ x.k ∧ x.k ≤ b.length) ∧ Q = (x.acc ++ (rdG (cv4 b) (n.toNat - x.i) x.k x.e false).1, (rdG (cv4 b) (n.toNat - x.i) x.k x.e false).2)) (fun x => n.toNat - x.i) ⟨0, [], k5, e5⟩ [0, 1, 2] [0] ⟨by simp only; omega, Nat.le_refl _, a5.1, fun he => by have := a5.2.1 he; simp only; omega, by simpa using hQ⟩ ?_ ?_
  · exact ft1 (jn @fsSt.eq_1 (jn @fsRe.eq_1 (jn @flatE_nil @rdO.eq_1)))
  intro ⟨i, acc, kk, ee⟩ ⟨q1, q2, q3, q4, q6⟩
  simp only at q1 q2 q3 q4 q6
  refine HC_of_R ty_ok ?_
  by_cases hlt : i < n.toNat ∧ ee = 0
  · obtain ⟨hlt, he⟩ := hlt
    have hi : (i : Int) < n := by omega
    subst he
    have hn1 : n.toNat - i = (n.toNat - (i + 1)) + 1 := by omega
    rw [hn1, rdG, if_pos rfl] at q6
    have hx := val_ac b kk 0 hb q3 (fun _ => (q4 rfl).1)
    have ho := rdV_ok hb q3 (fun _ => (q4 rfl).1)
    have hcv : cv4 b kk 0 false = ((rdV b kk 0).1, (rdV b kk 0).2.1, (rdV b kk 0).2.2, false) := rfl
    rw [hcv] at q6
    generalize rdV b kk 0 = x_ at *
    obtain ⟨u, m4, f4⟩ := x_
    dsimp only at hx ho q6
    have hsn := flatE_snoc cstE acc u
    have hle := flatE_len cstE_len acc
    refine rn1 (jn @fsSt.eq_1 (jn @fsRe.eq_1 (jn @rdO.eq_1 @hi))) ?_
    refine HC_of_HV mix ?_
    refine HV_split 1 3 (by decide) ?_ ?_
    · simp only [addAt]
      refine HV_order [] ty_ok [0, 1, 2, 3, 4, 5, 6, 7] (by kernel_rfl) rfl _ rfl ?_
      simp only [opl_nil', opl_cons', oplC_some, List.getElem?_toArray, List.getElem?_cons_zero, List.getElem?_cons_succ]
      refine rn0 ?_
      refine HO_callX ty_ok [1] (hx) (rdr_hand _ _ _ _ _ rfl) (rdr_wf _ _ _) ?_
      rintro v r' ⟨rfl, rfl⟩ _
      refine rn1 (jn @rdr.eq_1 (jn @rdO.eq_1 @cstE.eq_1)) ?_
      (repeat (refine And.intro (by omega) ?_))
      refine ⟨⟨i + 1, acc ++ [u], m4, f4⟩, ⟨by simp only; omega, by simp only [List.length_append, List.length_cons, List.length_nil]; omega, ho.1, fun hh => by have := ho.2 hh; simp only; omega, by simp only [List.append_assoc, List.cons_append, List.nil_append]; exact q6⟩, by simp only; omega, [0, 1, 2], [], ?_⟩
      exact ft1 (jn @fsSt.eq_1 (jn @fsRe.eq_1 (jn @rdO.eq_1 (jn @hsn @cstE.eq_1))))
    · simp only [addAt]
      refine HV_order [] ty_ok [0, 2, 3, 1, 4, 5, 6, 7] (by kernel_rfl) rfl _ rfl ?_
      simp only [opl_nil', opl_cons', oplC_some, List.getElem?_toArray, List.getElem?_cons_zero, List.getElem?_cons_succ]
      refine rn0 ?_
      refine HO_callX ty_ok [1] (hx) (rdr_hand _ _ _ _ _ rfl) (rdr_wf _ _ _) ?_
      rintro v r' ⟨rfl, rfl⟩ _
      refine rn1 (jn @rdr.eq_1 (jn @rdO.eq_1 @cstE.eq_1)) ?_
      (repeat (refine And.intro (by omega) ?_))
      refine ⟨⟨i + 1, acc ++ [u], m4, f4⟩, ⟨by simp only; omega, by simp only [List.length_append, List.length_cons, List.length_nil]; omega, ho.1, fun hh => by have := ho.2 hh; simp only; omega, by simp only [List.append_assoc, List.cons_append, List.nil_append]; exact q6⟩, by simp only; omega, [0, 1, 2], [], ?_⟩
      exact ft1 (jn @fsSt.eq_1 (jn @fsRe.eq_1 (jn @rdO.eq_1 (jn @hsn @cstE.eq_1))))
  · have q7 : Q = (acc, kk, ee, false) := by
      by_cases h0 : i < n.toNat
      · rw [rdG_err (fun he => hlt ⟨h0, he⟩)] at q6
        simpa using q6
      · have hn1 : n.toNat - i = 0 := by omega
        rw [hn1, rdG] at q6
        simpa using q6
    rw [q7] at hm
    dsimp only at hm
    subst hm
    have hcf := fchk_ac ⟨s1, s2, s3, acc⟩ (by show acc.length ≤ _; omega)
    simp only [fctE] at hcf
    have fin : ¬ ee = 0 ∨ (ee = 0 ∧ ¬ (i : Int) < n) := by
      by_cases he : ee = 0
      · exact .inr ⟨he, fun hi => hlt ⟨by omega, he⟩⟩
      · exact .inl he
    rcases fin with he | ⟨he, hi⟩
    · rw [fcV_err he]
      by_cases hi : (i : Int) < n
      · refine rn1 (jn @fsSt.eq_1 (jn @fsRe.eq_1 (jn @rdO.eq_1 (jn @hi @he)))) ?_
        refine HC_of_HV mix ?_
        refine HV_split 4 5 (by decide) ?_ ?_
        · simp only [addAt]
          refine HV_order [] ty_ok [0, 1, 2, 3, 4, 5, 6, 7] (by kernel_rfl) rfl _ rfl ?_
          simp only [opl_nil', opl_cons', oplC_some, List.getElem?_toArray, List.getElem?_cons_zero, List.getElem?_cons_succ]
          refine rn0 ?_
          exact fv1 [] [] @fctE.eq_1
        · simp only [addAt]
          refine HV_order [] ty_ok [0, 1, 2, 3, 5, 4, 6, 7] (by kernel_rfl) rfl _ rfl ?_
          simp only [opl_nil', opl_cons', oplC_some, List.getElem?_toArray, List.getElem?_cons_zero, List.getElem?_cons_succ]
          refine rn0 ?_
          exact fv1 [] [] @fctE.eq_1
      · refine rn1 (jn @fsSt.eq_1 (jn @fsRe.eq_1 (jn @rdO.eq_1 (jn @hi @he)))) ?_
        refine HC_of_HV mix ?_
        refine HV_split 4 5 (by decide) ?_ ?_
        · simp only [addAt]
          refine HV_order [] ty_ok [0, 1, 2, 3, 4, 5, 6, 7] (by kernel_rfl) rfl _ rfl ?_
          simp only [opl_nil', opl_cons', oplC_some, List.getElem?_toArray, List.getElem?_cons_zero, List.getElem?_cons_succ]
          refine rn0 ?_
          exact fv1 [] [] @fctE.eq_1
        · simp only [addAt]
          refine HV_order [] ty_ok [0, 1, 2, 3, 5, 4, 6, 7] (by kernel_rfl) rfl _ rfl ?_
          simp only [opl_nil', opl_cons', oplC_some, List.getElem?_toArray, List.getElem?_cons_zero, List.getElem?_cons_succ]
          refine rn0 ?_
          exact fv1 [] [] @fctE.eq_1
    · subst he
      refine rn1 (jn @fsSt.eq_1 (jn @fsRe.eq_1 (jn @rdO.eq_1 @hi))) ?_
      refine HO_pureA ty_ok hcf ?_
      by_cases hc : chkF ⟨s1, s2, s3, acc⟩ = true
      · rw [if_pos hc, chkE_ok hc]
        refine rn0 ?_
        refine HC_of_HV mix ?_
        refine HV_split 4 5 (by decide) ?_ ?_
        · simp only [addAt]
          refine HV_order [] ty_ok [0, 1, 2, 3, 4, 5, 6, 7] (by kernel_rfl) rfl _ rfl ?_
          simp only [opl_nil', opl_cons', oplC_some, List.getElem?_toArray, List.getElem?_cons_zero, List.getElem?_cons_succ]
          refine rn0 ?_
          exact fv1 [] [] @fctE.eq_1
        · simp only [addAt]
          refine HV_order [] ty_ok [0, 1, 2, 3, 5, 4, 6, 7] (by kernel_rfl) rfl _ rfl ?_
          simp only [opl_nil', opl_cons', oplC_some, List.getElem?_toArray, List.getElem?_cons_zero, List.getElem?_cons_succ]
          refine rn0 ?_
          exact fv1 [] [] @fctE.eq_1
      · rw [if_neg hc, chkE_no hc]
        refine rn0 ?_
        refine HC_of_HV mix ?_
        refine HV_split 4 5 (by decide) ?_ ?_
        · simp only [addAt]
          refine HV_order [] ty_ok [0, 1, 2, 3, 4, 5, 6, 7] (by kernel_rfl) rfl _ rfl ?_
          simp only [opl_nil', opl_cons', oplC_some, List.getElem?_toArray, List.getElem?_cons_zero, List.getElem?_cons_succ]
          refine rn0 ?_
          exact fv1 [] [] @fctE.eq_1
        · simp only [addAt]
          refine HV_order [] ty_ok [0, 1, 2, 3, 5, 4, 6, 7] (by kernel_rfl) rfl _ rfl ?_
          simp only [opl_nil', opl_cons', oplC_some, List.getElem?_toArray, List.getElem?_cons_zero, List.getElem?_cons_succ]
          refine rn0 ?_
          exact fv1 [] [] @fctE.eq_1
end Go.Proofs.YtdbicadncccpoaaGreat

set_option linter.unusedVariables false
set_option linter.unusedSimpArgs false
set_option maxRecDepth 100000
namespace Go.Proofs.YtdbicadncccpoaaGreat
open Go Go.ChangeShapes Go.WideShapes
set_option maxHeartbeats 1000000 in
theorem rcount_ac (b : List UInt8) (k most : Int) (h0 : -9223372036854775808 ≤ k) (h1 : k ≤ 9223372036854775807) (hb : b.length ≤ 140737488355000) :
    AC Tryz.prog noG 28 [.d (.sl 1 b.length (bD b)), .d (.c (.int .i64 k)), .d (.c (.int .i64 most))] [] (fun v r' => v = tri (cnt b k most) ∧ r' = []) := by
  refine AC_of_R (N := 31) (res := [.tmp 6, .tmp 7, .tmp 8]) ty_ok Tryz.call28 Tryz.func28 rfl rfl rfl (Nat.le_of_ble_eq_true rfl) ?_
  refine rn0 ?_
  refine HO_pureA ty_ok (rint_ac b k h0 h1 hb) ?_
  have hbd := rdInt_bd b k
  unfold cnt
  generalize rdInt b k = t at *
  obtain ⟨n, nx, e⟩ := t
  simp only at hbd
  exact rz1 @tri.eq_1
end Go.Proofs.YtdbicadncccpoaaGreat

set_option linter.unusedVariables false
set_option linter.unusedSimpArgs false
set_option maxRecDepth 100000
namespace Go.Proofs.YtdbicadncccpoaaGreat
open Go Go.ChangeShapes Go.WideShapes
end Go.Proofs.YtdbicadncccpoaaGreat

set_option linter.unusedVariables false
set_option linter.unusedSimpArgs false
set_option maxRecDepth 100000
namespace Go.Proofs.YtdbicadncccpoaaGreat
open Go Go.ChangeShapes Go.WideShapes
def zFD : List AV := [.d (.c (.string ⟨#[]⟩)), .d (.c (.string ⟨#[]⟩)), .d (.c (.string ⟨#[]⟩)), .d (.c (.slice none 0 0))]
def rfsSt (n : Int) (x : FsI) : List (Nat × AV) := [(4, .ptr 0 0), (5, .d (.c (.int .i64 0))), (6, .d (.c (.int .i64 0))), (7, .ptr 1 0), (8, .ptr 2 0), (9, .d (.c (.int .i64 n))), (10, .d (.c (.int .i64 x.i)))]
def rfsRe (b : List UInt8) (s1 s2 s3 : ByteArray) (x : FsI) : Rs := [some (.obj zFD), some (.obj (rdO4 b x.k x.e false)), some (.obj [.d (.c (.string s1)), .d (.c (.string s2)), .d (.c (.string s3)), .sl (.own 3) 3 x.acc.length (flatE cstE x.acc)]), some (.tok (flatE cstE x.acc).length)]
set_option maxHeartbeats 1000000 in
theorem rrfact_ac (b : List UInt8) (k : Int) (hb : b.length ≤ 140737488355000) (h0 : -9223372036854775808 ≤ k) (h1 : k ≤ 9223372036854775807) : AC Tryz.prog noG 49 [.d (.sl 1 b.length (bD b)), .d (.c (.int .i64 k))] []
    (fun v r' => v = fcV (rdF b k) ∧ r' = []) := by
  refine AC.fit ?_
  refine AC_of_R (N := 64) (res := [.cell 4 38, .tmp 5, .tmp 6]) ty_ok Tryz.call49 Tryz.func49 rfl rfl rfl (Nat.le_of_ble_eq_true rfl) ?_
  obtain ⟨R, hm⟩ : ∃ R, R = rdF0 b k := ⟨_, rfl⟩
  have hF : rdF b k = if R.2.2.1 = 0 then (if chkF R.1 then (R.1, R.2.1, 0) else (zF, 0, 40)) else (zF, 0, R.2.2.1) := by rw [hm]; rfl
  rw [hF]
  clear hF
  simp only [rdF0, thn, tx4, ct4] at hm
  have ok0 : okR b k 0 := ⟨⟨h0, h1⟩, by omega⟩
  have hx := rrtxt_ac b k 0 false hb ok0
  have ho := rdT_ok hb ok0
  generalize rdT b k 0 = x_ at *
  obtain ⟨s1, k1, e1⟩ := x_
  dsimp only at hx ho hm
  have a1 := ho
  refine rn0 ?_
  refine HO_callX ty_ok [1] (hx) (rdr4_hand _ _ _ _ _ _ rfl) (rdr4_wf _ _ _ _) ?_
  rintro v r' ⟨rfl, rfl⟩ _
  clear hx
  have hx := rrtxt_ac b k1 e1 false hb a1.1
  have ho := rdT_ok hb a1.1
  generalize rdT b k1 e1 = x_ at *
  obtain ⟨s2, k2, e2⟩ := x_
  dsimp only at hx ho hm
  have a2 := ho
  refine rn1 (jn @rdr4.eq_1 @rdO4.eq_1) ?_
  refine HO_callX ty_ok [1] (hx) (rdr4_hand _ _ _ _ _ _ rfl) (rdr4_wf _ _ _ _) ?_
  rintro v r' ⟨rfl, rfl⟩ _
  clear hx
  have hx := rrtxt_ac b k2 e2 false hb a2.1
  have ho := rdT_ok hb a2.1
  generalize rdT b k2 e2 = x_ at *
  obtain ⟨s3, k3, e3⟩ := x_
  dsimp only at hx ho hm
  have a3 := ho
  refine rn1 (jn @rdr4.eq_1 @rdO4.eq_1) ?_
  refine HO_callX ty_ok [1] (hx) (rdr4_hand _ _ _ _ _ _ rfl) (rdr4_wf _ _ _ _) ?_
  rintro v r' ⟨rfl, rfl⟩ _
  clear hx
  have hx := rrcnt_ac b 48 k3 e3 false hb a3.1
  have ho := rdC_ok (most := 48) (by omega) hb a3.1
  generalize rdC b 48 k3 e3 = x_ at *
  obtain ⟨n, k5, e5⟩ := x_
  dsimp only at hx ho hm
  have a5 := ho
  refine rn1 (jn @rdr4.eq_1 @rdO4.eq_1) ?_
  refine HO_callX ty_ok [1] (hx) (rdr4_hand _ _ _ _ _ _ rfl) (rdr4_wf _ _ _ _) ?_
  rintro v r' ⟨rfl, rfl⟩ _
  refine rn1 (jn @rdr4.eq_1 @rdO4.eq_1) ?_
  clear ho hx
  obtain ⟨Q, hQ⟩ : ∃ Q, Q = rdG (cv4 b) n.toNat k5 e5 false := ⟨_, rfl⟩
  rw [← hQ] at hm
  refine HC_loopR (rfsSt n) (rfsRe b s1 s2 s3) (fun x => x.i ≤ n.toNat ∧ x.acc.length ≤ x.i ∧ okR b x.k x.e ∧ (x.e = 0 → 0 ≤ x.k ∧ x.k ≤ b.length) ∧ Q = (x.acc ++ (rdG (cv4 b) (n.toNat - x.i) x.k x.e false).1, (rdG (cv4 b) (n.toNat - x.i) x.k x.e false).2)) (fun x => n.toNat - x.i) ⟨0, [], k5, e5⟩ [0, 1, 2, 3] [0] ⟨by simp only; omega, Nat.le_refl _, a5.1, fun he => by have := a5.2.1 he; simp only; omega, by simpa using hQ⟩ ?_ ?_
  · exact ft1 (jn @rfsSt.eq_1 (jn @rfsRe.eq_1 (jn @flatE_nil (jn @rdO4.eq_1 @zFD.eq_1))))
  intro ⟨i, acc, kk, ee⟩ ⟨q1, q2, q3, q4, q6⟩
  simp only at q1 q2 q3 q4 q6
  refine HC_of_R ty_ok ?_
  by_cases hlt : i < n.toNat ∧ ee = 0
  · obtain ⟨hlt, he⟩ := hlt
    have hi : (i : Int) < n := by omega
    subst he
    have hn1 : n.toNat - i = (n.toNat - (i + 1)) + 1 := by omega
    rw [hn1, rdG, if_pos rfl] at q6
    have hx := rrval_ac b kk 0 false hb q3 (fun _ => (q4 rfl).1)
    have ho := rdV_ok hb q3 (fun _ => (q4 rfl).1)
    have hcv : cv4 b kk 0 false = ((rdV b kk 0).1, (rdV b kk 0).2.1, (rdV b kk 0).2.2, false) := rfl
    rw [hcv] at q6
    generalize rdV b kk 0 = x_ at *
    obtain ⟨u, m4, f4⟩ := x_
    dsimp only at hx ho q6
    have hsn := flatE_snoc cstE acc u
    have hle := flatE_len cstE_len acc
    refine rn1 (jn @rfsSt.eq_1 (jn @rfsRe.eq_1 (jn @rdO4.eq_1 (jn @zFD.eq_1 @hi)))) ?_
    refine HC_of_HV mix ?_
    refine HV_split 1 3 (by decide) ?_ ?_
    · simp only [addAt]
      refine HV_order [] ty_ok [0, 1, 2, 3, 4, 5, 6, 7] (by kernel_rfl) rfl _ rfl ?_
      simp only [opl_nil', opl_cons', oplC_some, List.getElem?_toArray, List.getElem?_cons_zero, List.getElem?_cons_succ]
      refine rn0 ?_
      refine HO_callX ty_ok [1] (hx) (rdr4_hand _ _ _ _ _ _ rfl) (rdr4_wf _ _ _ _) ?_
      rintro v r' ⟨rfl, rfl⟩ _
      refine rn1 (jn @rdr4.eq_1 (jn @rdO4.eq_1 @cstE.eq_1)) ?_
      (repeat (refine And.intro (by omega) ?_))
      refine ⟨⟨i + 1, acc ++ [u], m4, f4⟩, ⟨by simp only; omega, by simp only [List.length_append, List.length_cons, List.length_nil]; omega, ho.1, fun hh => by have := ho.2 hh; simp only; omega, by simp only [List.append_assoc, List.cons_append, List.nil_append]; exact q6⟩, by simp only; omega, [0, 1, 2, 3], [], ?_⟩
      exact ft1 (jn @rfsSt.eq_1 (jn @rfsRe.eq_1 (jn @rdO4.eq_1 (jn @hsn (jn @cstE.eq_1 @zFD.eq_1)))))
    · simp only [addAt]
      refine HV_order [] ty_ok [0, 2, 3, 1, 4, 5, 6, 7] (by kernel_rfl) rfl _ rfl ?_
      simp only [opl_nil', opl_cons', oplC_some, List.getElem?_toArray, List.getElem?_cons_zero, List.getElem?_cons_succ]
      refine rn0 ?_
      refine HO_callX ty_ok [1] (hx) (rdr4_hand _ _ _ _ _ _ rfl) (rdr4_wf _ _ _ _) ?_
      rintro v r' ⟨rfl, rfl⟩ _
      refine rn1 (jn @rdr4.eq_1 (jn @rdO4.eq_1 @cstE.eq_1)) ?_
      (repeat (refine And.intro (by omega) ?_))
      refine ⟨⟨i + 1, acc ++ [u], m4, f4⟩, ⟨by simp only; omega, by simp only [List.length_append, List.length_cons, List.length_nil]; omega, ho.1, fun hh => by have := ho.2 hh; simp only; omega, by simp only [List.append_assoc, List.cons_append, List.nil_append]; exact q6⟩, by simp only; omega, [0, 1, 2, 3], [], ?_⟩
      exact ft1 (jn @rfsSt.eq_1 (jn @rfsRe.eq_1 (jn @rdO4.eq_1 (jn @hsn (jn @cstE.eq_1 @zFD.eq_1)))))
  · have q7 : Q = (acc, kk, ee, false) := by
      by_cases h0 : i < n.toNat
      · rw [rdG_err (fun he => hlt ⟨h0, he⟩)] at q6
        simpa using q6
      · have hn1 : n.toNat - i = 0 := by omega
        rw [hn1, rdG] at q6
        simpa using q6
    rw [q7] at hm
    dsimp only at hm
    subst hm
    have hcf := rfchk_ac ⟨s1, s2, s3, acc⟩ (by show acc.length ≤ _; omega)
    simp only [fctE] at hcf
    have fin : ¬ ee = 0 ∨ (ee = 0 ∧ ¬ (i : Int) < n) := by
      by_cases he : ee = 0
      · exact .inr ⟨he, fun hi => hlt ⟨by omega, he⟩⟩
      · exact .inl he
    rcases fin with he | ⟨he, hi⟩
    · rw [fcV_err he]
      by_cases hi : (i : Int) < n
      · refine rn1 (jn @rfsSt.eq_1 (jn @rfsRe.eq_1 (jn @rdO4.eq_1 (jn @zFD.eq_1 (jn @hi @he))))) ?_
        refine HC_of_HV mix ?_
        refine HV_split 4 5 (by decide) ?_ ?_
        · simp only [addAt]
          refine HV_order [] ty_ok [0, 1, 2, 3, 4, 5, 6, 7] (by kernel_rfl) rfl _ rfl ?_
          simp only [opl_nil', opl_cons', oplC_some, List.getElem?_toArray, List.getElem?_cons_zero, List.getElem?_cons_succ]
          refine rn0 ?_
          exact fv1 [] [] @fctE.eq_1
        · simp only [addAt]
          refine HV_order [] ty_ok [0, 1, 2, 3, 5, 4, 6, 7] (by kernel_rfl) rfl _ rfl ?_
          simp only [opl_nil', opl_cons', oplC_some, List.getElem?_toArray, List.getElem?_cons_zero, List.getElem?_cons_succ]
          refine rn0 ?_
          exact fv1 [] [] @fctE.eq_1
      · refine rn1 (jn @rfsSt.eq_1 (jn @rfsRe.eq_1 (jn @rdO4.eq_1 (jn @zFD.eq_1 (jn @hi @he))))) ?_
        refine HC_of_HV mix ?_
        refine HV_split 4 5 (by decide) ?_ ?_
        · simp only [addAt]
          refine HV_order [] ty_ok [0, 1, 2, 3, 4, 5, 6, 7] (by kernel_rfl) rfl _ rfl ?_
          simp only [opl_nil', opl_cons', oplC_some, List.getElem?_toArray, List.getElem?_cons_zero, List.getElem?_cons_succ]
          refine rn0 ?_
          exact fv1 [] [] @fctE.eq_1
        · simp only [addAt]
          refine HV_order [] ty_ok [0, 1, 2, 3, 5, 4, 6, 7] (by kernel_rfl) rfl _ rfl ?_
          simp only [opl_nil', opl_cons', oplC_some, List.getElem?_toArray, List.getElem?_cons_zero, List.getElem?_cons_succ]
          refine rn0 ?_
          exact fv1 [] [] @fctE.eq_1
    · subst he
      refine rn1 (jn @rfsSt.eq_1 (jn @rfsRe.eq_1 (jn @rdO4.eq_1 (jn @zFD.eq_1 @hi)))) ?_
      refine HO_pureA ty_ok hcf ?_
      by_cases hc : chkF ⟨s1, s2, s3, acc⟩ = true
      · rw [if_pos hc, chkE_ok hc]
        refine rn0 ?_
        refine HC_of_HV mix ?_
        refine HV_split 4 5 (by decide) ?_ ?_
        · simp only [addAt]
          refine HV_order [] ty_ok [0, 1, 2, 3, 4, 5, 6, 7] (by kernel_rfl) rfl _ rfl ?_
          simp only [opl_nil', opl_cons', oplC_some, List.getElem?_toArray, List.getElem?_cons_zero, List.getElem?_cons_succ]
          refine rn0 ?_
          exact fv1 [] [] @fctE.eq_1
        · simp only [addAt]
          refine HV_order [] ty_ok [0, 1, 2, 3, 5, 4, 6, 7] (by kernel_rfl) rfl _ rfl ?_
          simp only [opl_nil', opl_cons', oplC_some, List.getElem?_toArray, List.getElem?_cons_zero, List.getElem?_cons_succ]
          refine rn0 ?_
          exact fv1 [] [] @fctE.eq_1
      · rw [if_neg hc, chkE_no hc]
        refine rn0 ?_
        exact fv1 [] [] @fctE.eq_1
end Go.Proofs.YtdbicadncccpoaaGreat

set_option linter.unusedVariables false
set_option linter.unusedSimpArgs false
set_option maxRecDepth 100000
namespace Go.Proofs.YtdbicadncccpoaaGreat
open Go Go.ChangeShapes Go.WideShapes
end Go.Proofs.YtdbicadncccpoaaGreat

set_option linter.unusedVariables false
set_option linter.unusedSimpArgs false
set_option maxRecDepth 100000
namespace Go.Proofs.YtdbicadncccpoaaGreat
open Go Go.ChangeShapes Go.WideShapes
end Go.Proofs.YtdbicadncccpoaaGreat

set_option linter.unusedVariables false
set_option linter.unusedSimpArgs false
set_option maxRecDepth 100000
namespace Go.Proofs.YtdbicadncccpoaaGreat
open Go Go.ChangeShapes Go.WideShapes
end Go.Proofs.YtdbicadncccpoaaGreat

set_option linter.unusedVariables false
set_option linter.unusedSimpArgs false
set_option maxRecDepth 100000
namespace Go.Proofs.YtdbicadncccpoaaGreat
open Go Go.ChangeShapes Go.WideShapes
end Go.Proofs.YtdbicadncccpoaaGreat
