/- Parts of the proof: RRdr, RRdTs, RRdF, WtF, RgtR, EncM, REnc, Enc, Dec. -/
import Derived.Test.YtdbicadncccpoaaDoorCJ8
import Derived.Test.YtdbicadncccpoaaDoorCJ5
import Derived.Test.YtdbicadncccpoaaDoorCJ7
set_option linter.unusedVariables false
set_option linter.unusedSimpArgs false
set_option maxRecDepth 100000
namespace Go.Proofs.YtdbicadncccpoaaDoor
open Go Go.ChangeShapes Go.WideShapes
def rdO4 (b : List UInt8) (k e : Int) (o : Bool) : List AV := [.d (.sl 1 b.length (bD b)), .d (.c (.int .i64 k)), .d (.c (.int .i64 e)), .d (.c (.bool o))]
def rdr4 (b : List UInt8) (k e : Int) (o : Bool) : Rs := [some (.obj (rdO4 b k e o))]
theorem rdr4_hand (b : List UInt8) (k e : Int) (o : Bool) (rc : Rs) (i : Nat) (hi : rc[i]? = some (some (.obj (rdO4 b k e o)))) : HandOK (nm [i] rc.length) rc (rdr4 b k e o) [i] := by
  refine ⟨fun y h => ?_, trivial⟩
  injection h with h; subst h
  rw [hi]; rfl
theorem rdr4_wf (b : List UInt8) (k e : Int) (o : Bool) : wfRs (rdr4 b k e o).length (rdr4 b k e o) = true := rfl
set_option maxHeartbeats 400000 in
theorem rrtxt_ac (b : List UInt8) (k e : Int) (o : Bool) (hb : b.length ≤ 140737488355000) (h : okR b k e) : AC Tryd.prog noG 74 [.ptr 0 0] (rdr4 b k e o)
    (fun v r' => v = .d (.c (.string (rdT b k e).1)) ∧ r' = rdr4 b (rdT b k e).2.1 (rdT b k e).2.2 o) := by
  refine AC_of_R (N := 35) (res := [.tmp 2]) ty_ok Tryd.call74 Tryd.func74 rfl rfl rfl (Nat.le_of_ble_eq_true rfl) ?_
  obtain ⟨h1, h2⟩ := h
  by_cases he : e = 0
  · subst he
    have ht := txt_bd b k
    have hx := rtext_ac b k h1.1 h1.2 hb
    have hm : rdT b k 0 = if (txt b k).2.2 = 0 then ((txt b k).1, (txt b k).2.1, 0) else (⟨#[]⟩, k, (txt b k).2.2) := if_pos rfl
    generalize txt b k = t at *
    obtain ⟨s, nx, er⟩ := t
    simp only at ht hm
    refine rn1 (jn @rdr4.eq_1 @rdO4.eq_1) ?_
    refine HC_plan [] ty_ok mix (by kernel_rfl) ?_
    refine rn0 ?_
    refine HO_pureA ty_ok hx ?_
    by_cases h0 : er = 0
    · rw [if_pos h0] at hm
      exact rz1 (jn @triS.eq_1 (jn @h0 @hm))
    · rw [if_neg h0] at hm
      exact rz1 (jn @triS.eq_1 (jn @h0 @hm))
  · have hm : rdT b k e = (⟨#[]⟩, k, e) := if_neg he
    exact rz1 (jn @rdr4.eq_1 (jn @rdO4.eq_1 (jn @he @hm)))
set_option maxHeartbeats 400000 in
theorem rrint_ac (b : List UInt8) (k e : Int) (o : Bool) (hb : b.length ≤ 140737488355000) (h : okR b k e) : AC Tryd.prog noG 93 [.ptr 0 0] (rdr4 b k e o)
    (fun v r' => v = .d (.c (.int .i64 (rdN b k e).1)) ∧ r' = rdr4 b (rdN b k e).2.1 (rdN b k e).2.2 o) := by
  refine AC_of_R (N := 35) (res := [.tmp 2]) ty_ok Tryd.call93 Tryd.func93 rfl rfl rfl (Nat.le_of_ble_eq_true rfl) ?_
  obtain ⟨h1, h2⟩ := h
  by_cases he : e = 0
  · subst he
    have ht := rdInt_bd b k
    have hx := rint_ac b k h1.1 h1.2 hb
    have hm : rdN b k 0 = if (rdInt b k).2.2 = 0 then ((rdInt b k).1, (rdInt b k).2.1, 0) else (0, k, (rdInt b k).2.2) := if_pos rfl
    generalize rdInt b k = t at *
    obtain ⟨s, nx, er⟩ := t
    simp only at ht hm
    refine rn1 (jn @rdr4.eq_1 @rdO4.eq_1) ?_
    refine HC_plan [] ty_ok mix (by kernel_rfl) ?_
    refine rn0 ?_
    refine HO_pureA ty_ok hx ?_
    by_cases h0 : er = 0
    · rw [if_pos h0] at hm
      exact rz1 (jn @tri.eq_1 (jn @h0 @hm))
    · rw [if_neg h0] at hm
      exact rz1 (jn @tri.eq_1 (jn @h0 @hm))
  · have hm : rdN b k e = (0, k, e) := if_neg he
    exact rz1 (jn @rdr4.eq_1 (jn @rdO4.eq_1 (jn @he @hm)))
set_option maxHeartbeats 400000 in
theorem rrcnt_ac (b : List UInt8) (most k e : Int) (o : Bool) (hb : b.length ≤ 140737488355000) (h : okR b k e) : AC Tryd.prog noG 75 [.ptr 0 0, .d (.c (.int .i64 most))] (rdr4 b k e o)
    (fun v r' => v = .d (.c (.int .i64 (rdC b most k e).1)) ∧ r' = rdr4 b (rdC b most k e).2.1 (rdC b most k e).2.2 o) := by
  refine AC_of_R (N := 24) (res := [.tmp 4]) ty_ok Tryd.call75 Tryd.func75 rfl rfl rfl (Nat.le_of_ble_eq_true rfl) ?_
  have hx := rrint_ac b k e o hb h
  have hm : rdC b most k e = if (rdN b k e).2.2 = 0 then (if (rdN b k e).1 < 0 ∨ most < (rdN b k e).1 then (0, (rdN b k e).2.1, 11) else rdN b k e) else (0, (rdN b k e).2.1, (rdN b k e).2.2) := rfl
  generalize rdN b k e = t at *
  obtain ⟨s, nx, er⟩ := t
  simp only at hm hx
  refine rn1 (jn @rdr4.eq_1 @rdO4.eq_1) ?_
  refine HO_callX ty_ok [0] (hx) (rdr4_hand _ _ _ _ _ _ rfl) (rdr4_wf _ _ _ _) ?_
  rintro v r' ⟨rfl, rfl⟩ _
  by_cases h0 : er = 0
  · rw [if_pos h0] at hm
    by_cases g1 : s < 0
    · rw [if_pos (.inl g1)] at hm
      exact rz1 (jn @rdr4.eq_1 (jn @rdO4.eq_1 (jn @h0 (jn @g1 @hm))))
    · by_cases g2 : most < s
      · rw [if_pos (.inr g2)] at hm
        exact rz1 (jn @rdr4.eq_1 (jn @rdO4.eq_1 (jn @h0 (jn @g1 (jn @g2 @hm)))))
      · rw [if_neg (by omega)] at hm
        exact rz1 (jn @rdr4.eq_1 (jn @rdO4.eq_1 (jn @h0 (jn @g1 (jn @g2 @hm)))))
  · rw [if_neg h0] at hm
    exact rz1 (jn @rdr4.eq_1 (jn @rdO4.eq_1 (jn @h0 @hm)))
set_option maxHeartbeats 400000 in
theorem rrknd_ac (b : List UInt8) (most : Nat) (k e : Int) (o : Bool) (hb : b.length ≤ 140737488355000) (h : okR b k e) (hk : e = 0 → 0 ≤ k) : AC Tryd.prog noG 94 [.ptr 0 0, .d (.c (.int .i64 most))] (rdr4 b k e o)
    (fun v r' => v = .d (.c (.int .i64 ((rdK b most k e).1 : Nat))) ∧ r' = rdr4 b (rdK b most k e).2.1 (rdK b most k e).2.2 o) := by
  refine AC_of_R (N := 49) (res := [.tmp 4]) ty_ok Tryd.call94 Tryd.func94 rfl rfl rfl (Nat.le_of_ble_eq_true rfl) ?_
  by_cases he : e = 0
  · subst he
    have hk := hk rfl
    by_cases g1 : (b.length : Int) ≤ k
    · have hm : rdK b most k 0 = (0, k, 10) := by rw [rdK, if_pos rfl, if_pos g1]
      refine rn1 (jn @rdr4.eq_1 @rdO4.eq_1) ?_
      refine HC_plan [] ty_ok mix (by kernel_rfl) ?_
      refine rn1 (jn @g1 @hm) ?_
      rfl
    · have g3 : k < b.length := by omega
      have hd := bD_at b k hk g3
      have hc8 := (b.getD k.toNat 0).toNat_lt
      have hm : rdK b most k 0 = if most < (b.getD k.toNat 0).toNat then (0, k, 11) else ((b.getD k.toNat 0).toNat, k + 1, 0) := by rw [rdK, if_pos rfl, if_neg g1]
      generalize hc : (b.getD k.toNat 0).toNat = c at *
      refine rn1 (jn @rdr4.eq_1 @rdO4.eq_1) ?_
      refine HC_plan [] ty_ok mix (by kernel_rfl) ?_
      refine rn1 @g1 ?_
      refine HC_plan [] ty_ok mix (by kernel_rfl) ?_
      by_cases g2 : most < c
      · have g2' : (most : Int) < c := by omega
        rw [if_pos g2] at hm
        refine rn1 (jn @g1 (jn @g2' (jn @g3 (jn @hk (jn @hc @hm))))) ?_
        rfl
      · have g2' : ¬ (most : Int) < c := by omega
        rw [if_neg g2] at hm
        exact rz1 (jn @g1 (jn @g2' (jn @g3 (jn @hk (jn @hc @hm)))))
  · have hm : rdK b most k e = (0, k, e) := if_neg he
    refine rn1 (jn @rdr4.eq_1 (jn @rdO4.eq_1 (jn @he @hm))) ?_
    rfl
set_option maxHeartbeats 400000 in
theorem rrval_ac (b : List UInt8) (k e : Int) (o : Bool) (hb : b.length ≤ 140737488355000) (h : okR b k e) (hk : e = 0 → 0 ≤ k) : AC Tryd.prog noG 76 [.ptr 0 0] (rdr4 b k e o)
    (fun v r' => v = .d (.agg (cstE (rdV b k e).1)) ∧ r' = rdr4 b (rdV b k e).2.1 (rdV b k e).2.2 o) := by
  refine AC.fit ?_
  refine AC_of_R (N := 12) (res := [.cell 2 92]) ty_ok Tryd.call76 Tryd.func76 rfl rfl rfl (Nat.le_of_ble_eq_true rfl) ?_
  have hx := rrknd_ac b 1 k e o hb h hk
  have ho := rdK_ok (most := 1) hb h hk
  have hm : rdV b k e = if (rdK b 1 k e).1 = 1 then (⟨false, 0, (rdT b (rdK b 1 k e).2.1 (rdK b 1 k e).2.2).1⟩, (rdT b (rdK b 1 k e).2.1 (rdK b 1 k e).2.2).2)
    else (⟨true, (rdN b (rdK b 1 k e).2.1 (rdK b 1 k e).2.2).1, ⟨#[]⟩⟩, (rdN b (rdK b 1 k e).2.1 (rdK b 1 k e).2.2).2) := rfl
  generalize rdK b 1 k e = t at *
  obtain ⟨q, k1, e1⟩ := t
  simp only at hx hm ho
  have c1 : ((1 : Nat) : Int) = 1 := rfl
  rw [c1] at hx
  refine rn1 (jn @rdr4.eq_1 @rdO4.eq_1) ?_
  refine HO_callX ty_ok [0] (hx) (rdr4_hand _ _ _ _ _ _ rfl) (rdr4_wf _ _ _ _) ?_
  rintro v r' ⟨rfl, rfl⟩ _
  by_cases g : q = 1
  · subst g
    have h2 := rrtxt_ac b k1 e1 o hb ho.1
    rw [if_pos rfl] at hm
    generalize rdT b k1 e1 = u at *
    obtain ⟨s, k2, e2⟩ := u
    simp only at h2 hm
    rw [hm]
    refine rn1 (jn @rdr4.eq_1 (jn @rdO4.eq_1 @c1)) ?_
    refine HO_callX ty_ok [0] (h2) (rdr4_hand _ _ _ _ _ _ rfl) (rdr4_wf _ _ _ _) ?_
    rintro v r' ⟨rfl, rfl⟩ _
    refine rn1 (jn @rdr4.eq_1 @rdO4.eq_1) ?_
    exact fv1 [0] [] (jn @rdr4.eq_1 (jn @rdO4.eq_1 @cstE.eq_1))
  · have g' : ¬ (q : Int) = 1 := by omega
    have h2 := rrint_ac b k1 e1 o hb ho.1
    rw [if_neg g] at hm
    generalize rdN b k1 e1 = u at *
    obtain ⟨s, k2, e2⟩ := u
    simp only at h2 hm
    rw [hm]
    refine rn1 (jn @rdr4.eq_1 (jn @rdO4.eq_1 @g')) ?_
    refine HO_callX ty_ok [0] (h2) (rdr4_hand _ _ _ _ _ _ rfl) (rdr4_wf _ _ _ _) ?_
    rintro v r' ⟨rfl, rfl⟩ _
    refine rn1 (jn @rdr4.eq_1 @rdO4.eq_1) ?_
    exact fv1 [0] [] (jn @rdr4.eq_1 (jn @rdO4.eq_1 @cstE.eq_1))
end Go.Proofs.YtdbicadncccpoaaDoor

set_option linter.unusedVariables false
set_option linter.unusedSimpArgs false
set_option maxRecDepth 100000
namespace Go.Proofs.YtdbicadncccpoaaDoor
open Go Go.ChangeShapes Go.WideShapes
end Go.Proofs.YtdbicadncccpoaaDoor

set_option linter.unusedVariables false
set_option linter.unusedSimpArgs false
set_option maxRecDepth 100000
namespace Go.Proofs.YtdbicadncccpoaaDoor
open Go Go.ChangeShapes Go.WideShapes
def zFD : List AV := [.d (.c (.string ⟨#[]⟩)), .d (.c (.string ⟨#[]⟩)), .d (.c (.string ⟨#[]⟩)), .d (.c (.slice none 0 0))]
def rfsSt (n : Int) (x : FsI) : List (Nat × AV) := [(4, .ptr 0 0), (5, .d (.c (.int .i64 0))), (6, .d (.c (.int .i64 0))), (7, .ptr 1 0), (8, .ptr 2 0), (9, .d (.c (.int .i64 n))), (10, .d (.c (.int .i64 x.i)))]
def rfsRe (b : List UInt8) (s1 s2 s3 : ByteArray) (x : FsI) : Rs := [some (.obj zFD), some (.obj (rdO4 b x.k x.e false)), some (.obj [.d (.c (.string s1)), .d (.c (.string s2)), .d (.c (.string s3)), .sl (.own 3) 3 x.acc.length (flatE cstE x.acc)]), some (.tok (flatE cstE x.acc).length)]
set_option maxHeartbeats 1000000 in
theorem rrfact_ac (b : List UInt8) (k : Int) (hb : b.length ≤ 140737488355000) (h0 : -9223372036854775808 ≤ k) (h1 : k ≤ 9223372036854775807) : AC Tryd.prog noG 55 [.d (.sl 1 b.length (bD b)), .d (.c (.int .i64 k))] []
    (fun v r' => v = fcV (rdF b k) ∧ r' = []) := by
  refine AC.fit ?_
  refine AC_of_R (N := 64) (res := [.cell 4 25, .tmp 5, .tmp 6]) ty_ok Tryd.call55 Tryd.func55 rfl rfl rfl (Nat.le_of_ble_eq_true rfl) ?_
  obtain ⟨R, hm⟩ : ∃ R, R = rdF0 b k := ⟨_, rfl⟩
  have hF : rdF b k = if R.2.2.1 = 0 then (if chkF R.1 then (R.1, R.2.1, 0) else (zF, 0, 40)) else (zF, 0, R.2.2.1) := by rw [hm]; rfl
  rw [hF]
  clear hF
  simp only [rdF0, thn, tx4, ct4] at hm
  have ok0 : okR b k 0 := ⟨⟨h0, h1⟩, by omega⟩
  have hx := rrtxt_ac b k 0 false hb ok0
  have ho := rdT_ok hb ok0
  generalize rdT b k 0 = x_ at *
  obtain ⟨s1, k1, e1⟩ := x_
  dsimp only at hx ho hm
  have a1 := ho
  refine rn0 ?_
  refine HO_callX ty_ok [1] (hx) (rdr4_hand _ _ _ _ _ _ rfl) (rdr4_wf _ _ _ _) ?_
  rintro v r' ⟨rfl, rfl⟩ _
  clear hx
  have hx := rrtxt_ac b k1 e1 false hb a1.1
  have ho := rdT_ok hb a1.1
  generalize rdT b k1 e1 = x_ at *
  obtain ⟨s2, k2, e2⟩ := x_
  dsimp only at hx ho hm
  have a2 := ho
  refine rn1 (jn @rdr4.eq_1 @rdO4.eq_1) ?_
  refine HO_callX ty_ok [1] (hx) (rdr4_hand _ _ _ _ _ _ rfl) (rdr4_wf _ _ _ _) ?_
  rintro v r' ⟨rfl, rfl⟩ _
  clear hx
  have hx := rrtxt_ac b k2 e2 false hb a2.1
  have ho := rdT_ok hb a2.1
  generalize rdT b k2 e2 = x_ at *
  obtain ⟨s3, k3, e3⟩ := x_
  dsimp only at hx ho hm
  have a3 := ho
  refine rn1 (jn @rdr4.eq_1 @rdO4.eq_1) ?_
  refine HO_callX ty_ok [1] (hx) (rdr4_hand _ _ _ _ _ _ rfl) (rdr4_wf _ _ _ _) ?_
  rintro v r' ⟨rfl, rfl⟩ _
  clear hx
  have hx := rrcnt_ac b 48 k3 e3 false hb a3.1
  have ho := rdC_ok (most := 48) (by omega) hb a3.1
  generalize rdC b 48 k3 e3 = x_ at *
  obtain ⟨n, k5, e5⟩ := x_
  dsimp only at hx ho hm
  have a5 := ho
  refine rn1 (jn @rdr4.eq_1 @rdO4.eq_1) ?_
  refine HO_callX ty_ok [1] (hx) (rdr4_hand _ _ _ _ _ _ rfl) (rdr4_wf _ _ _ _) ?_
  rintro v r' ⟨rfl, rfl⟩ _
  refine rn1 (jn @rdr4.eq_1 @rdO4.eq_1) ?_
  clear ho hx
  obtain ⟨Q, hQ⟩ : ∃ Q, Q = rdG (cv4 b) n.toNat k5 e5 false := ⟨_, rfl⟩
  rw [← hQ] at hm
  refine HC_loopR (rfsSt n) (rfsRe b s1 s2 s3) (fun x => x.i ≤ n.toNat ∧ x.acc.length ≤ x.i ∧ okR b x.k x.e ∧ (x.e = 0 → 0 ≤ x.k ∧ x.k ≤ b.length) ∧ Q = (x.acc ++ (rdG (cv4 b) (n.toNat - x.i) x.k x.e false).1, (rdG (cv4 b) (n.toNat - x.i) x.k x.e false).2)) (fun x => n.toNat - x.i) ⟨0, [], k5, e5⟩ [0, 1, 2, 3] [0] ⟨by simp only; omega, Nat.le_refl _, a5.1, fun he => by have := a5.2.1 he; simp only; omega, by simpa using hQ⟩ ?_ ?_
  · exact ft1 (jn @rfsSt.eq_1 (jn @rfsRe.eq_1 (jn @flatE_nil (jn @rdO4.eq_1 @zFD.eq_1))))
  intro ⟨i, acc, kk, ee⟩ ⟨q1, q2, q3, q4, q6⟩
  simp only at q1 q2 q3 q4 q6
  refine HC_of_R ty_ok ?_
  by_cases hlt : i < n.toNat ∧ ee = 0
  · obtain ⟨hlt, he⟩ := hlt
    have hi : (i : Int) < n := by omega
    subst he
    have hn1 : n.toNat - i = (n.toNat - (i + 1)) + 1 := by omega
    rw [hn1, rdG, if_pos rfl] at q6
    have hx := rrval_ac b kk 0 false hb q3 (fun _ => (q4 rfl).1)
    have ho := rdV_ok hb q3 (fun _ => (q4 rfl).1)
    have hcv : cv4 b kk 0 false = ((rdV b kk 0).1, (rdV b kk 0).2.1, (rdV b kk 0).2.2, false) := rfl
    rw [hcv] at q6
    generalize rdV b kk 0 = x_ at *
    obtain ⟨u, m4, f4⟩ := x_
    dsimp only at hx ho q6
    have hsn := flatE_snoc cstE acc u
    have hle := flatE_len cstE_len acc
    refine rn1 (jn @rfsSt.eq_1 (jn @rfsRe.eq_1 (jn @rdO4.eq_1 (jn @zFD.eq_1 @hi)))) ?_
    refine HC_of_HV mix ?_
    refine HV_split 1 3 (by decide) ?_ ?_
    · simp only [addAt]
      refine HV_order [] ty_ok [0, 1, 2, 3, 4, 5, 6, 7] (by kernel_rfl) rfl _ rfl ?_
      simp only [opl_nil', opl_cons', oplC_some, List.getElem?_toArray, List.getElem?_cons_zero, List.getElem?_cons_succ]
      refine rn0 ?_
      refine HO_callX ty_ok [1] (hx) (rdr4_hand _ _ _ _ _ _ rfl) (rdr4_wf _ _ _ _) ?_
      rintro v r' ⟨rfl, rfl⟩ _
      refine rn1 (jn @rdr4.eq_1 (jn @rdO4.eq_1 @cstE.eq_1)) ?_
      (repeat (refine And.intro (by omega) ?_))
      refine ⟨⟨i + 1, acc ++ [u], m4, f4⟩, ⟨by simp only; omega, by simp only [List.length_append, List.length_cons, List.length_nil]; omega, ho.1, fun hh => by have := ho.2 hh; simp only; omega, by simp only [List.append_assoc, List.cons_append, List.nil_append]; exact q6⟩, by simp only; omega, [0, 1, 2, 3], [], ?_⟩
      exact ft1 (jn @rfsSt.eq_1 (jn @rfsRe.eq_1 (jn @rdO4.eq_1 (jn @hsn (jn @cstE.eq_1 @zFD.eq_1)))))
    · simp only [addAt]
      refine HV_order [] ty_ok [0, 2, 3, 1, 4, 5, 6, 7] (by kernel_rfl) rfl _ rfl ?_
      simp only [opl_nil', opl_cons', oplC_some, List.getElem?_toArray, List.getElem?_cons_zero, List.getElem?_cons_succ]
      refine rn0 ?_
      refine HO_callX ty_ok [1] (hx) (rdr4_hand _ _ _ _ _ _ rfl) (rdr4_wf _ _ _ _) ?_
      rintro v r' ⟨rfl, rfl⟩ _
      refine rn1 (jn @rdr4.eq_1 (jn @rdO4.eq_1 @cstE.eq_1)) ?_
      (repeat (refine And.intro (by omega) ?_))
      refine ⟨⟨i + 1, acc ++ [u], m4, f4⟩, ⟨by simp only; omega, by simp only [List.length_append, List.length_cons, List.length_nil]; omega, ho.1, fun hh => by have := ho.2 hh; simp only; omega, by simp only [List.append_assoc, List.cons_append, List.nil_append]; exact q6⟩, by simp only; omega, [0, 1, 2, 3], [], ?_⟩
      exact ft1 (jn @rfsSt.eq_1 (jn @rfsRe.eq_1 (jn @rdO4.eq_1 (jn @hsn (jn @cstE.eq_1 @zFD.eq_1)))))
  · have q7 : Q = (acc, kk, ee, false) := by
      by_cases h0 : i < n.toNat
      · rw [rdG_err (fun he => hlt ⟨h0, he⟩)] at q6
        simpa using q6
      · have hn1 : n.toNat - i = 0 := by omega
        rw [hn1, rdG] at q6
        simpa using q6
    rw [q7] at hm
    dsimp only at hm
    subst hm
    have hcf := rfchk_ac ⟨s1, s2, s3, acc⟩ (by show acc.length ≤ _; omega)
    simp only [fctE] at hcf
    have fin : ¬ ee = 0 ∨ (ee = 0 ∧ ¬ (i : Int) < n) := by
      by_cases he : ee = 0
      · exact .inr ⟨he, fun hi => hlt ⟨by omega, he⟩⟩
      · exact .inl he
    rcases fin with he | ⟨he, hi⟩
    · rw [fcV_err he]
      by_cases hi : (i : Int) < n
      · refine rn1 (jn @rfsSt.eq_1 (jn @rfsRe.eq_1 (jn @rdO4.eq_1 (jn @zFD.eq_1 (jn @hi @he))))) ?_
        refine HC_of_HV mix ?_
        refine HV_split 4 5 (by decide) ?_ ?_
        · simp only [addAt]
          refine HV_order [] ty_ok [0, 1, 2, 3, 4, 5, 6, 7] (by kernel_rfl) rfl _ rfl ?_
          simp only [opl_nil', opl_cons', oplC_some, List.getElem?_toArray, List.getElem?_cons_zero, List.getElem?_cons_succ]
          refine rn0 ?_
          exact fv1 [] [] @fctE.eq_1
        · simp only [addAt]
          refine HV_order [] ty_ok [0, 1, 2, 3, 5, 4, 6, 7] (by kernel_rfl) rfl _ rfl ?_
          simp only [opl_nil', opl_cons', oplC_some, List.getElem?_toArray, List.getElem?_cons_zero, List.getElem?_cons_succ]
          refine rn0 ?_
          exact fv1 [] [] @fctE.eq_1
      · refine rn1 (jn @rfsSt.eq_1 (jn @rfsRe.eq_1 (jn @rdO4.eq_1 (jn @zFD.eq_1 (jn @hi @he))))) ?_
        refine HC_of_HV mix ?_
        refine HV_split 4 5 (by decide) ?_ ?_
        · simp only [addAt]
          refine HV_order [] ty_ok [0, 1, 2, 3, 4, 5, 6, 7] (by kernel_rfl) rfl _ rfl ?_
          simp only [opl_nil', opl_cons', oplC_some, List.getElem?_toArray, List.getElem?_cons_zero, List.getElem?_cons_succ]
          refine rn0 ?_
          exact fv1 [] [] @fctE.eq_1
        · simp only [addAt]
          refine HV_order [] ty_ok [0, 1, 2, 3, 5, 4, 6, 7] (by kernel_rfl) rfl _ rfl ?_
          simp only [opl_nil', opl_cons', oplC_some, List.getElem?_toArray, List.getElem?_cons_zero, List.getElem?_cons_succ]
          refine rn0 ?_
          exact fv1 [] [] @fctE.eq_1
    · subst he
      refine rn1 (jn @rfsSt.eq_1 (jn @rfsRe.eq_1 (jn @rdO4.eq_1 (jn @zFD.eq_1 @hi)))) ?_
      refine HO_pureA ty_ok hcf ?_
      by_cases hc : chkF ⟨s1, s2, s3, acc⟩ = true
      · rw [if_pos hc, chkE_ok hc]
        refine rn0 ?_
        refine HC_of_HV mix ?_
        refine HV_split 4 5 (by decide) ?_ ?_
        · simp only [addAt]
          refine HV_order [] ty_ok [0, 1, 2, 3, 4, 5, 6, 7] (by kernel_rfl) rfl _ rfl ?_
          simp only [opl_nil', opl_cons', oplC_some, List.getElem?_toArray, List.getElem?_cons_zero, List.getElem?_cons_succ]
          refine rn0 ?_
          exact fv1 [] [] @fctE.eq_1
        · simp only [addAt]
          refine HV_order [] ty_ok [0, 1, 2, 3, 5, 4, 6, 7] (by kernel_rfl) rfl _ rfl ?_
          simp only [opl_nil', opl_cons', oplC_some, List.getElem?_toArray, List.getElem?_cons_zero, List.getElem?_cons_succ]
          refine rn0 ?_
          exact fv1 [] [] @fctE.eq_1
      · rw [if_neg hc, chkE_no hc]
        refine rn0 ?_
        exact fv1 [] [] @fctE.eq_1
end Go.Proofs.YtdbicadncccpoaaDoor

set_option linter.unusedVariables false
set_option linter.unusedSimpArgs false
set_option maxRecDepth 100000
namespace Go.Proofs.YtdbicadncccpoaaDoor
open Go Go.ChangeShapes Go.WideShapes
/-- Sizes that a call's data have. -/
def szF (f : Fct) : Prop := f.a.size ≤ 140737488352000 ∧ f.b.size ≤ 140737488352000 ∧ f.p.size ≤ 140737488352000 ∧ f.l.length ≤ 140737488352000 ∧ ∀ c ∈ f.l, c.s.size ≤ 140737488352000
def wfSt1 (l : List Fct) (m : Int) (x : Nat × Int) : List (Nat × AV) := [(0, .d (.sl 4 l.length (flatE fctE l))), (1, .d (.c (.int .i64 m))), (5, .d (.c (.int .i64 x.2))), (6, .d (.c (.int .i64 x.1)))]
def wfSt2 (l : List Fct) (m : Int) (i : Nat) (x : Nat × Int) : List (Nat × AV) := [(0, .d (.sl 4 l.length (flatE fctE l))), (1, .d (.c (.int .i64 m))), (5, .d (.c (.int .i64 x.2))), (6, .d (.c (.int .i64 i))), (7, .d (.c (.int .i64 x.1)))]
set_option maxHeartbeats 1000000 in
theorem wF_ac (l : List Fct) (m : Int) (hl : l.length ≤ 140737488352000) (hs : ∀ f ∈ l, szF f) (m0 : 0 ≤ m) (m1 : m ≤ 1000000) : AC Tryd.prog noG 22 [.d (.sl 4 l.length (flatE fctE l)), .d (.c (.int .i64 m))] []
    (fun v r' => (∃ n : Int, v = .d (.c (.int .i64 n)) ∧ (n ≤ m → l.length ≤ m)) ∧ r' = []) := by
  refine AC.pure ?_ (by rintro v ⟨n, rfl, _⟩; rfl)
  refine AC_of_R (N := 79) (res := [.tmp 4]) ty_ok Tryd.call22 Tryd.func22 rfl rfl rfl (Nat.le_of_ble_eq_true rfl) ?_
  refine rn0 ?_
  refine HC_loopR (wfSt1 l m) (fun _ => []) (fun x => x.1 ≤ l.length ∧ (x.1 : Int) ≤ x.2 ∧ x.2 ≤ 1000000000000000) (fun x => l.length - x.1) (0, 0) [] [] ⟨by simp, by simp, by simp⟩ ?_ ?_
  · exact ft1 @wfSt1.eq_1
  intro ⟨i, n⟩ ⟨h1, h2, h3⟩
  simp only at h1 h2 h3
  refine HC_of_R ty_ok ?_
  by_cases hlt : i < l.length
  · have hi : (i : Int) < l.length := by omega
    by_cases hn : n ≤ m
    · have hd := flatE_drop fctE_len l i hlt
      have hle := flatE_len fctE_len l
      have hsz := hs l[i] (List.getElem_mem hlt)
      generalize l[i] = f at *
      obtain ⟨z1, z2, z3, z4, z5⟩ := hsz
      simp only [fctE, List.cons_append, List.nil_append] at hd
      refine rn1 (jn @wfSt1.eq_1 (jn @hi @hn)) ?_
      refine HC_plan [] ty_ok mix (by kernel_rfl) ?_
      refine rn1 (jn @hd @hle) ?_
      (repeat (refine And.intro (by omega) ?_))
      obtain ⟨n0, hn0⟩ : ∃ n0 : Int, n0 = n + (1 + (f.l.length : Int) + ((f.a.size : Int) + f.b.size + f.p.size) / 16) := ⟨_, rfl⟩
      have hb0 : n + 1 ≤ n0 ∧ n0 ≤ 900000000000000 := by omega
      refine HC_loopR (wfSt2 l m i) (fun _ => []) (fun x => x.1 ≤ f.l.length ∧ n0 ≤ x.2 ∧ x.2 ≤ 1000000000000000) (fun x => f.l.length - x.1) (0, n0) [] [] ⟨by simp, by simp, by simp only; omega⟩ ?_ ?_
      · rw [hn0]
        exact ft1 @wfSt2.eq_1
      intro ⟨k, q⟩ ⟨g1, g2, g3⟩
      simp only at g1 g2 g3
      refine HC_of_R ty_ok ?_
      by_cases hkl : k < f.l.length
      · have hk : (k : Int) < f.l.length := by omega
        by_cases hq : q ≤ m
        · have hd2 := flatE_drop cstE_len f.l k hkl
          have hle2 := flatE_len cstE_len f.l
          have hsz := z5 f.l[k] (List.getElem_mem hkl)
          generalize f.l[k] = c at *
          simp only [cstE, List.cons_append, List.nil_append] at hd2
          refine rn1 (jn @wfSt2.eq_1 (jn @hi (jn @hd (jn @hle (jn @hk (jn @hq (jn @hd2 @hle2))))))) ?_
          (repeat (refine And.intro (by omega) ?_))
          refine ⟨(k + 1, q + (c.s.size : Int) / 16), ⟨by simp only; omega, by simp only; omega, by simp only; omega⟩, by simp only; omega, [], [], ?_⟩
          exact ft1 @wfSt2.eq_1
        · refine rn1 (jn @wfSt2.eq_1 (jn @hi (jn @hd (jn @hle (jn @hk @hq))))) ?_
          (repeat (refine And.intro (by omega) ?_))
          refine ⟨(i + 1, q), ⟨by simp only; omega, by simp only; omega, by simp only; omega⟩, by simp only; omega, [], [], ?_⟩
          exact ft1 @wfSt1.eq_1
      · have hk : ¬ (k : Int) < f.l.length := by omega
        refine rn1 (jn @wfSt2.eq_1 (jn @hi (jn @hd (jn @hle @hk)))) ?_
        (repeat (refine And.intro (by omega) ?_))
        refine ⟨(i + 1, q), ⟨by simp only; omega, by simp only; omega, by simp only; omega⟩, by simp only; omega, [], [], ?_⟩
        exact ft1 @wfSt1.eq_1
    · refine rn1 (jn @wfSt1.eq_1 (jn @hi @hn)) ?_
      exact ⟨n, rfl, fun h => absurd h hn⟩
  · have hi : ¬ (i : Int) < l.length := by omega
    refine rn1 (jn @wfSt1.eq_1 @hi) ?_
    exact ⟨n, rfl, fun h => by omega⟩
end Go.Proofs.YtdbicadncccpoaaDoor

set_option linter.unusedVariables false
set_option linter.unusedSimpArgs false
set_option maxRecDepth 100000
namespace Go.Proofs.YtdbicadncccpoaaDoor
open Go Go.ChangeShapes Go.WideShapes
def rightI (x : Lit) : Bool := rightT x.b && (rightT x.a && (txtOK x.p && rightL x.l))
def rightR (r : Rul) : Bool := rightT r.h && (rightT r.t && (txtOK r.p && (rightL r.l && (decide (r.b.length ≤ 5) && r.b.all rightI))))
end Go.Proofs.YtdbicadncccpoaaDoor

set_option linter.unusedVariables false
set_option linter.unusedSimpArgs false
set_option maxRecDepth 100000
namespace Go.Proofs.YtdbicadncccpoaaDoor
open Go Go.ChangeShapes Go.WideShapes
def putLt (b : List UInt8) (x : Lit) : List UInt8 := putT (putTs (putTx (putT b x.b) x.p) x.l) x.a
def putRH (b : List UInt8) (r : Rul) : List UInt8 := putT (putTs (putTx (putT b r.h) r.p) r.l) r.t ++ leb (zig (r.b.length : Int))
def putR (b : List UInt8) (r : Rul) : List UInt8 := r.b.foldl putLt (putRH b r)
def encR (l : List Rul) : List UInt8 × Int := if 768 < l.length then ([], 3) else if l.all rightR then (l.foldl putR (leb (zig (l.length : Int))), 0) else ([], 50)
end Go.Proofs.YtdbicadncccpoaaDoor

set_option linter.unusedVariables false
set_option linter.unusedSimpArgs false
set_option maxRecDepth 100000
namespace Go.Proofs.YtdbicadncccpoaaDoor
open Go Go.ChangeShapes Go.WideShapes
end Go.Proofs.YtdbicadncccpoaaDoor

set_option linter.unusedVariables false
set_option linter.unusedSimpArgs false
set_option maxRecDepth 100000
namespace Go.Proofs.YtdbicadncccpoaaDoor
open Go Go.ChangeShapes Go.WideShapes
end Go.Proofs.YtdbicadncccpoaaDoor

set_option linter.unusedVariables false
set_option linter.unusedSimpArgs false
set_option maxRecDepth 100000
namespace Go.Proofs.YtdbicadncccpoaaDoor
open Go Go.ChangeShapes Go.WideShapes
theorem rdC_most {b : List UInt8} {most k e : Int} (hm : 0 ≤ most) : (rdC b most k e).1 ≤ most := by
  unfold rdC
  split
  · split
    · exact hm
    · rename_i h; omega
  · exact hm
theorem rdG_len {α : Type} {one : Int → Int → Bool → α × Int × Int × Bool} : ∀ (n : Nat) (k e : Int) (o : Bool), (rdG one n k e o).1.length ≤ n
  | 0, k, e, o => Nat.le_refl _
  | n + 1, k, e, o => by
    rw [rdG]
    split
    · have := rdG_len (one := one) n (one k e o).2.1 (one k e o).2.2.1 (one k e o).2.2.2
      simp only [List.length_cons]; omega
    · exact Nat.zero_le _
end Go.Proofs.YtdbicadncccpoaaDoor
