import Derived.Test.YtfeoafddagdbfaaCRdr
set_option linter.unusedVariables false
set_option linter.unusedSimpArgs false
set_option maxRecDepth 100000
namespace Go.Proofs.Ytfeoafddagdbfaa
open Go Go.ChangeShapes Go.WideShapes
set_option maxHeartbeats 400000 in
theorem val_ac (b : List UInt8) (k e : Int) (hb : b.length ≤ 140737488355000) (h : okR b k e) (hk : e = 0 → 0 ≤ k) : AC Try.prog noG 51 [.ptr 0 0] (rdr b k e)
    (fun v r' => v = .d (.agg (cstE (rdV b k e).1)) ∧ r' = rdr b (rdV b k e).2.1 (rdV b k e).2.2) := by
  refine AC.fit ?_
  refine AC_of_R (N := 12) (res := [.cell 2 53]) ty_ok Try.call51 Try.func51 rfl rfl rfl (Nat.le_of_ble_eq_true rfl) ?_
  have hx := rknd_ac b 1 k e hb h hk
  have ho := rdK_ok (most := 1) hb h hk
  have hm : rdV b k e = if (rdK b 1 k e).1 = 1 then (⟨false, 0, (rdT b (rdK b 1 k e).2.1 (rdK b 1 k e).2.2).1⟩, (rdT b (rdK b 1 k e).2.1 (rdK b 1 k e).2.2).2)
    else (⟨true, (rdN b (rdK b 1 k e).2.1 (rdK b 1 k e).2.2).1, ⟨#[]⟩⟩, (rdN b (rdK b 1 k e).2.1 (rdK b 1 k e).2.2).2) := rfl
  generalize rdK b 1 k e = t at *
  obtain ⟨q, k1, e1⟩ := t
  simp only at hx hm ho
  refine rn1 (jn @rdr.eq_1 @rdO.eq_1) ?_
  refine HO_callX ty_ok [0] (hx) (rdr_hand _ _ _ _ _ rfl) (rdr_wf _ _ _) ?_
  rintro v r' ⟨rfl, rfl⟩ _
  by_cases g : q = 1
  · subst g
    have h2 := rtxt_ac b k1 e1 hb ho.1
    rw [if_pos rfl] at hm
    generalize rdT b k1 e1 = u at *
    obtain ⟨s, k2, e2⟩ := u
    simp only at h2 hm
    rw [hm]
    have c1 : ((1 : Nat) : Int) = 1 := rfl
    refine rn1 (jn @rdr.eq_1 (jn @rdO.eq_1 @c1)) ?_
    refine HO_callX ty_ok [0] (h2) (rdr_hand _ _ _ _ _ rfl) (rdr_wf _ _ _) ?_
    rintro v r' ⟨rfl, rfl⟩ _
    refine rn1 (jn @rdr.eq_1 @rdO.eq_1) ?_
    exact fv1 [0] [] (jn @rdr.eq_1 (jn @rdO.eq_1 @cstE.eq_1))
  · have g' : ¬ (q : Int) = 1 := by omega
    have h2 := rint2_ac b k1 e1 hb ho.1
    rw [if_neg g] at hm
    generalize rdN b k1 e1 = u at *
    obtain ⟨s, k2, e2⟩ := u
    simp only at h2 hm
    rw [hm]
    refine rn1 (jn @rdr.eq_1 (jn @rdO.eq_1 @g')) ?_
    refine HO_callX ty_ok [0] (h2) (rdr_hand _ _ _ _ _ rfl) (rdr_wf _ _ _) ?_
    rintro v r' ⟨rfl, rfl⟩ _
    refine rn1 (jn @rdr.eq_1 @rdO.eq_1) ?_
    exact fv1 [0] [] (jn @rdr.eq_1 (jn @rdO.eq_1 @cstE.eq_1))
set_option maxHeartbeats 400000 in
theorem rtm_ac (b : List UInt8) (k e : Int) (hb : b.length ≤ 140737488355000) (h : okR b k e) (hk : e = 0 → 0 ≤ k) : AC Try.prog noG 86 [.ptr 0 0] (rdr b k e)
    (fun v r' => v = .d (.agg (trmE (rdTm b k e).1)) ∧ r' = rdr b (rdTm b k e).2.1 (rdTm b k e).2.2) := by
  refine AC.fit ?_
  refine AC_of_R (N := 16) (res := [.cell 2 55]) ty_ok Try.call86 Try.func86 rfl rfl rfl (Nat.le_of_ble_eq_true rfl) ?_
  have hx := rknd_ac b 2 k e hb h hk
  have ho := rdK_ok (most := 2) hb h hk
  have hm : rdTm b k e = if (rdK b 2 k e).1 = 1 then (⟨(rdT b (rdK b 2 k e).2.1 (rdK b 2 k e).2.2).1, zC⟩, (rdT b (rdK b 2 k e).2.1 (rdK b 2 k e).2.2).2)
    else if (rdK b 2 k e).1 = 2 then (⟨⟨#[]⟩, (rdV b (rdK b 2 k e).2.1 (rdK b 2 k e).2.2).1⟩, (rdV b (rdK b 2 k e).2.1 (rdK b 2 k e).2.2).2)
    else (zT, (rdK b 2 k e).2) := rfl
  generalize rdK b 2 k e = t at *
  obtain ⟨q, k1, e1⟩ := t
  simp only at hx hm ho
  have c2 : ((2 : Nat) : Int) = 2 := rfl
  rw [c2] at hx
  refine rn1 (jn @rdr.eq_1 @rdO.eq_1) ?_
  refine HO_callX ty_ok [0] (hx) (rdr_hand _ _ _ _ _ rfl) (rdr_wf _ _ _) ?_
  rintro v r' ⟨rfl, rfl⟩ _
  by_cases g : q = 1
  · subst g
    have h2 := rtxt_ac b k1 e1 hb ho.1
    rw [if_pos rfl] at hm
    generalize rdT b k1 e1 = u at *
    obtain ⟨s, k2, e2⟩ := u
    simp only at h2 hm
    rw [hm]
    have c1 : ((1 : Nat) : Int) = 1 := rfl
    refine rn1 (jn @rdr.eq_1 (jn @rdO.eq_1 @c1)) ?_
    refine HO_callX ty_ok [0] (h2) (rdr_hand _ _ _ _ _ rfl) (rdr_wf _ _ _) ?_
    rintro v r' ⟨rfl, rfl⟩ _
    refine rn1 (jn @rdr.eq_1 @rdO.eq_1) ?_
    exact fv1 [0] [] (jn @rdr.eq_1 (jn @rdO.eq_1 (jn @trmE.eq_1 @zC.eq_1)))
  · have g' : ¬ (q : Int) = 1 := by omega
    rw [if_neg g] at hm
    by_cases g2 : q = 2
    · subst g2
      have h2 := val_ac b k1 e1 hb ho.1 (fun he => by have := ho.2.1 he; omega)
      rw [if_pos rfl] at hm
      generalize rdV b k1 e1 = u at *
      obtain ⟨s, k2, e2⟩ := u
      simp only at h2 hm
      rw [hm]
      refine rn1 (jn @rdr.eq_1 (jn @rdO.eq_1 (jn @g' @c2))) ?_
      refine HO_callX ty_ok [0] (h2) (rdr_hand _ _ _ _ _ rfl) (rdr_wf _ _ _) ?_
      rintro v r' ⟨rfl, rfl⟩ _
      refine rn1 (jn @rdr.eq_1 (jn @rdO.eq_1 @cstE.eq_1)) ?_
      exact fv1 [0] [] (jn @rdr.eq_1 (jn @rdO.eq_1 @trmE.eq_1))
    · have g2' : ¬ (q : Int) = 2 := by omega
      rw [if_neg g2] at hm
      rw [hm]
      refine rn1 (jn @rdr.eq_1 (jn @rdO.eq_1 (jn @g' @g2'))) ?_
      exact fv1 [0] [] (jn @rdr.eq_1 (jn @rdO.eq_1 (jn @trmE.eq_1 (jn @zT.eq_1 @zC.eq_1))))
set_option maxHeartbeats 400000 in
theorem odd_ac (b : List UInt8) (k e m : Int) (t : Trm) (hb : b.length ≤ 140737488355000) (h : e = 0 → 0 ≤ m ∧ m < b.length) : AC Try.prog noG 87 [.ptr 0 0, .d (.c (.int .i64 m)), .d (.agg (trmE t))] (rdr b k e)
    (fun v r' => v = .d (.c (.bool (decide (e = 0) && (!decide ((b.getD m.toNat 0).toNat = 0) && !rightT t)))) ∧ r' = rdr b k e) := by
  refine AC.fit ?_
  refine AC_of_R (N := 27) (res := [.tmp 6]) ty_ok Try.call87 Try.func87 rfl rfl rfl (Nat.le_of_ble_eq_true rfl) ?_
  have ht := term_ac t
  by_cases he : e = 0
  · subst he
    obtain ⟨h0, h1⟩ := h rfl
    have hd := bD_at b m h0 h1
    generalize hc : (b.getD m.toNat 0).toNat = c at *
    by_cases hz : c = 0
    · have hz' : (c : Int) = 0 := by omega
      have ee : (decide ((0 : Int) = 0) && (!decide (c = 0) && !rightT t)) = false := by simp [hz]
      rw [ee]
      refine rn1 (jn @rdr.eq_1 (jn @rdO.eq_1 (jn @trmE.eq_1 (jn @h0 (jn @h1 (jn @hc @hz')))))) ?_
      exact fv1 [0] [] (jn @rdr.eq_1 @rdO.eq_1)
    · have hz' : ¬ (c : Int) = 0 := by omega
      refine rn1 (jn @rdr.eq_1 (jn @rdO.eq_1 (jn @trmE.eq_1 (jn @h0 (jn @h1 (jn @hc @hz')))))) ?_
      refine HO_pureA ty_ok ht ?_
      refine rn0 ?_
      rw [decide_eq_false hz]
      exact fv1 [0] [] (jn @rdr.eq_1 @rdO.eq_1)
  · refine rn1 (jn @rdr.eq_1 (jn @rdO.eq_1 (jn @trmE.eq_1 @he))) ?_
    exact fv1 [0] [] (jn @rdr.eq_1 @rdO.eq_1)

def rdb (b : List UInt8) (k e : Int) (o : Bool) : Rs := [some (.obj (rdO b k e)), some (.obj [.d (.c (.bool o))])]
theorem rdb_hand (b : List UInt8) (k e : Int) (o : Bool) (rc : Rs) (i j : Nat) (hi : rc[i]? = some (some (.obj (rdO b k e)))) (hj : rc[j]? = some (some (.obj [.d (.c (.bool o))]))) : HandOK (nm [i, j] rc.length) rc (rdb b k e o) [i, j] := by
  refine ⟨fun y h => ?_, fun y h => ?_, trivial⟩
  · injection h with h; subst h
    rw [hi]; rfl
  · injection h with h; subst h
    rw [hj]; rfl
theorem rdb_wf (b : List UInt8) (k e : Int) (o : Bool) : wfRs (rdb b k e o).length (rdb b k e o) = true := rfl
/-- Was a term read that may not be? -/
def badC (b : List UInt8) (k e : Int) : Bool := decide ((rdTm b k e).2.2 = 0) && (!decide ((b.getD k.toNat 0).toNat = 0) && (!rightT (rdTm b k e).1 || decide ((rdTm b k e).1 = zT)))
theorem ztD4 (t : Trm) : (decide (t.v = ⟨#[]⟩) && (decide (t.c.num = false) && (decide (t.c.n = 0) && decide (t.c.s = ⟨#[]⟩)))) = decide (t = zT) := by
  obtain ⟨v, q, n, s⟩ := t
  simp only [zT, zC, Trm.mk.injEq, Cst.mk.injEq, Bool.decide_and]
set_option maxHeartbeats 400000 in
theorem one_ac (b : List UInt8) (k e : Int) (o : Bool) (hb : b.length ≤ 140737488355000) (h : okR b k e) (hk : e = 0 → 0 ≤ k) : AC Try.prog noG 70 [.ptr 0 0, .ptr 1 0] (rdb b k e o)
    (fun v r' => v = .d (.agg (trmE (rdTm b k e).1)) ∧ r' = rdb b (rdTm b k e).2.1 (rdTm b k e).2.2 (o || badC b k e)) := by
  refine AC.fit ?_
  refine AC_of_R (N := 42) (res := [.cell 4 55]) ty_ok Try.call70 Try.func70 rfl rfl rfl (Nat.le_of_ble_eq_true rfl) ?_
  have hx := rtm_ac b k e hb h hk
  have ho := rdTm_ok hb h hk
  have hbad : badC b k e = (decide ((rdTm b k e).2.2 = 0) && (!decide ((b.getD k.toNat 0).toNat = 0) && (!rightT (rdTm b k e).1 || decide ((rdTm b k e).1 = zT)))) := rfl
  generalize rdTm b k e = t at *
  obtain ⟨u, k1, e1⟩ := t
  simp only at hx ho hbad
  have hodd := odd_ac b k1 e1 k u hb (fun he => by have := ho.2 he; omega)
  refine rn1 (jn @rdb.eq_1 @rdO.eq_1) ?_
  refine HO_callX ty_ok [0] (hx) (rdr_hand _ _ _ _ _ rfl) (rdr_wf _ _ _) ?_
  rintro v r' ⟨rfl, rfl⟩ _
  have kz := ztD4 u
  simp only [trmE] at hodd
  refine rn1 (jn @rdr.eq_1 (jn @rdO.eq_1 @trmE.eq_1)) ?_
  refine HO_callX ty_ok [0] (hodd) (rdr_hand _ _ _ _ _ rfl) (rdr_wf _ _ _) ?_
  rintro v r' ⟨rfl, rfl⟩ _
  by_cases he : e1 = 0
  · subst he
    obtain ⟨_, h0, h1, h1'⟩ := ho.2 rfl
    have hkl : k < b.length := by omega
    have hd := bD_at b k h0 hkl
    generalize hc : (b.getD k.toNat 0).toNat = c at *
    rw [decide_eq_true rfl, Bool.true_and] at hbad
    by_cases hz : c = 0
    · have hz' : (c : Int) = 0 := by omega
      rw [decide_eq_true hz, Bool.not_true, Bool.false_and] at hbad
      rw [hbad, Bool.or_false, decide_eq_true hz]
      refine rn1 (jn @rdr.eq_1 (jn @rdO.eq_1 (jn @h0 (jn @hkl (jn @hc @hz'))))) ?_
      exact fv1 [0,1] [] (jn @rdb.eq_1 (jn @rdO.eq_1 @trmE.eq_1))
    · have hz' : ¬ (c : Int) = 0 := by omega
      rw [decide_eq_false hz, Bool.not_false, Bool.true_and] at hbad
      rw [decide_eq_false hz]
      cases hr : rightT u with
      | false =>
        rw [hr, Bool.not_false, Bool.true_or] at hbad
        rw [hbad, Bool.or_true]
        refine rn1 (jn @rdr.eq_1 @rdO.eq_1) ?_
        exact fv1 [0,1] [] (jn @rdb.eq_1 (jn @rdO.eq_1 @trmE.eq_1))
      | true =>
        rw [hr, Bool.not_true, Bool.false_or] at hbad
        cases hq : decide (u = zT) with
        | true =>
          rw [hq] at kz hbad
          rw [hbad, Bool.or_true]
          refine rn1 (jn @rdr.eq_1 (jn @rdO.eq_1 (jn @h0 (jn @hkl (jn @hc (jn @hz' @kz)))))) ?_
          exact fv1 [0,1] [] (jn @rdb.eq_1 (jn @rdO.eq_1 @trmE.eq_1))
        | false =>
          rw [hq] at kz hbad
          rw [hbad, Bool.or_false]
          refine rn1 (jn @rdr.eq_1 (jn @rdO.eq_1 (jn @h0 (jn @hkl (jn @hc (jn @hz' @kz)))))) ?_
          exact fv1 [0,1] [] (jn @rdb.eq_1 (jn @rdO.eq_1 @trmE.eq_1))
  · rw [decide_eq_false he, Bool.false_and] at hbad
    rw [hbad, Bool.or_false]
    refine rn1 (jn @rdr.eq_1 (jn @rdO.eq_1 @he)) ?_
    exact fv1 [0,1] [] (jn @rdb.eq_1 (jn @rdO.eq_1 @trmE.eq_1))
end Go.Proofs.Ytfeoafddagdbfaa
