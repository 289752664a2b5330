import Derived.Test.YtfeoafddagdbfaaCRdV
set_option linter.unusedVariables false
set_option linter.unusedSimpArgs false
set_option maxRecDepth 100000
namespace Go.Proofs.Ytfeoafddagdbfaa
open Go Go.ChangeShapes Go.WideShapes
def rdO4 (b : List UInt8) (k e : Int) (o : Bool) : List AV := [.d (.sl 1 b.length (bD b)), .d (.c (.int .i64 k)), .d (.c (.int .i64 e)), .d (.c (.bool o))]
def rdr4 (b : List UInt8) (k e : Int) (o : Bool) : Rs := [some (.obj (rdO4 b k e o))]
theorem rdr4_hand (b : List UInt8) (k e : Int) (o : Bool) (rc : Rs) (i : Nat) (hi : rc[i]? = some (some (.obj (rdO4 b k e o)))) : HandOK (nm [i] rc.length) rc (rdr4 b k e o) [i] := by
  refine ⟨fun y h => ?_, trivial⟩
  injection h with h; subst h
  rw [hi]; rfl
theorem rdr4_wf (b : List UInt8) (k e : Int) (o : Bool) : wfRs (rdr4 b k e o).length (rdr4 b k e o) = true := rfl
set_option maxHeartbeats 400000 in
theorem rrtxt_ac (b : List UInt8) (k e : Int) (o : Bool) (hb : b.length ≤ 140737488355000) (h : okR b k e) : AC Try.prog noG 52 [.ptr 0 0] (rdr4 b k e o)
    (fun v r' => v = .d (.c (.string (rdT b k e).1)) ∧ r' = rdr4 b (rdT b k e).2.1 (rdT b k e).2.2 o) := by
  refine AC_of_R (N := 35) (res := [.tmp 2]) ty_ok Try.call52 Try.func52 rfl rfl rfl (Nat.le_of_ble_eq_true rfl) ?_
  obtain ⟨h1, h2⟩ := h
  by_cases he : e = 0
  · subst he
    have ht := txt_bd b k
    have hx := rtext_ac b k h1.1 h1.2 hb
    have hm : rdT b k 0 = if (txt b k).2.2 = 0 then ((txt b k).1, (txt b k).2.1, 0) else (⟨#[]⟩, k, (txt b k).2.2) := if_pos rfl
    generalize txt b k = t at *
    obtain ⟨s, nx, er⟩ := t
    simp only at ht hm
    refine rn1 (jn @rdr4.eq_1 @rdO4.eq_1) ?_
    refine HC_plan [] ty_ok mix (by kernel_rfl) ?_
    refine rn0 ?_
    refine HO_pureA ty_ok hx ?_
    by_cases h0 : er = 0
    · rw [if_pos h0] at hm
      exact rz1 (jn @triS.eq_1 (jn @h0 @hm))
    · rw [if_neg h0] at hm
      exact rz1 (jn @triS.eq_1 (jn @h0 @hm))
  · have hm : rdT b k e = (⟨#[]⟩, k, e) := if_neg he
    exact rz1 (jn @rdr4.eq_1 (jn @rdO4.eq_1 (jn @he @hm)))
set_option maxHeartbeats 400000 in
theorem rrint_ac (b : List UInt8) (k e : Int) (o : Bool) (hb : b.length ≤ 140737488355000) (h : okR b k e) : AC Try.prog noG 72 [.ptr 0 0] (rdr4 b k e o)
    (fun v r' => v = .d (.c (.int .i64 (rdN b k e).1)) ∧ r' = rdr4 b (rdN b k e).2.1 (rdN b k e).2.2 o) := by
  refine AC_of_R (N := 35) (res := [.tmp 2]) ty_ok Try.call72 Try.func72 rfl rfl rfl (Nat.le_of_ble_eq_true rfl) ?_
  obtain ⟨h1, h2⟩ := h
  by_cases he : e = 0
  · subst he
    have ht := rdInt_bd b k
    have hx := rint_ac b k h1.1 h1.2 hb
    have hm : rdN b k 0 = if (rdInt b k).2.2 = 0 then ((rdInt b k).1, (rdInt b k).2.1, 0) else (0, k, (rdInt b k).2.2) := if_pos rfl
    generalize rdInt b k = t at *
    obtain ⟨s, nx, er⟩ := t
    simp only at ht hm
    refine rn1 (jn @rdr4.eq_1 @rdO4.eq_1) ?_
    refine HC_plan [] ty_ok mix (by kernel_rfl) ?_
    refine rn0 ?_
    refine HO_pureA ty_ok hx ?_
    by_cases h0 : er = 0
    · rw [if_pos h0] at hm
      exact rz1 (jn @tri.eq_1 (jn @h0 @hm))
    · rw [if_neg h0] at hm
      exact rz1 (jn @tri.eq_1 (jn @h0 @hm))
  · have hm : rdN b k e = (0, k, e) := if_neg he
    exact rz1 (jn @rdr4.eq_1 (jn @rdO4.eq_1 (jn @he @hm)))
set_option maxHeartbeats 400000 in
theorem rrcnt_ac (b : List UInt8) (most k e : Int) (o : Bool) (hb : b.length ≤ 140737488355000) (h : okR b k e) : AC Try.prog noG 41 [.ptr 0 0, .d (.c (.int .i64 most))] (rdr4 b k e o)
    (fun v r' => v = .d (.c (.int .i64 (rdC b most k e).1)) ∧ r' = rdr4 b (rdC b most k e).2.1 (rdC b most k e).2.2 o) := by
  refine AC_of_R (N := 24) (res := [.tmp 4]) ty_ok Try.call41 Try.func41 rfl rfl rfl (Nat.le_of_ble_eq_true rfl) ?_
  have hx := rrint_ac b k e o hb h
  have hm : rdC b most k e = if (rdN b k e).2.2 = 0 then (if (rdN b k e).1 < 0 ∨ most < (rdN b k e).1 then (0, (rdN b k e).2.1, 11) else rdN b k e) else (0, (rdN b k e).2.1, (rdN b k e).2.2) := rfl
  generalize rdN b k e = t at *
  obtain ⟨s, nx, er⟩ := t
  simp only at hm hx
  refine rn1 (jn @rdr4.eq_1 @rdO4.eq_1) ?_
  refine HO_callX ty_ok [0] (hx) (rdr4_hand _ _ _ _ _ _ rfl) (rdr4_wf _ _ _ _) ?_
  rintro v r' ⟨rfl, rfl⟩ _
  by_cases h0 : er = 0
  · rw [if_pos h0] at hm
    by_cases g1 : s < 0
    · rw [if_pos (.inl g1)] at hm
      exact rz1 (jn @rdr4.eq_1 (jn @rdO4.eq_1 (jn @h0 (jn @g1 @hm))))
    · by_cases g2 : most < s
      · rw [if_pos (.inr g2)] at hm
        exact rz1 (jn @rdr4.eq_1 (jn @rdO4.eq_1 (jn @h0 (jn @g1 (jn @g2 @hm)))))
      · rw [if_neg (by omega)] at hm
        exact rz1 (jn @rdr4.eq_1 (jn @rdO4.eq_1 (jn @h0 (jn @g1 (jn @g2 @hm)))))
  · rw [if_neg h0] at hm
    exact rz1 (jn @rdr4.eq_1 (jn @rdO4.eq_1 (jn @h0 @hm)))
set_option maxHeartbeats 400000 in
theorem rrknd_ac (b : List UInt8) (most : Nat) (k e : Int) (o : Bool) (hb : b.length ≤ 140737488355000) (h : okR b k e) (hk : e = 0 → 0 ≤ k) : AC Try.prog noG 81 [.ptr 0 0, .d (.c (.int .i64 most))] (rdr4 b k e o)
    (fun v r' => v = .d (.c (.int .i64 ((rdK b most k e).1 : Nat))) ∧ r' = rdr4 b (rdK b most k e).2.1 (rdK b most k e).2.2 o) := by
  refine AC_of_R (N := 49) (res := [.tmp 4]) ty_ok Try.call81 Try.func81 rfl rfl rfl (Nat.le_of_ble_eq_true rfl) ?_
  by_cases he : e = 0
  · subst he
    have hk := hk rfl
    by_cases g1 : (b.length : Int) ≤ k
    · have hm : rdK b most k 0 = (0, k, 10) := by rw [rdK, if_pos rfl, if_pos g1]
      refine rn1 (jn @rdr4.eq_1 @rdO4.eq_1) ?_
      refine HC_plan [] ty_ok mix (by kernel_rfl) ?_
      refine rn1 (jn @g1 @hm) ?_
      rfl
    · have g3 : k < b.length := by omega
      have hd := bD_at b k hk g3
      have hc8 := (b.getD k.toNat 0).toNat_lt
      have hm : rdK b most k 0 = if most < (b.getD k.toNat 0).toNat then (0, k, 11) else ((b.getD k.toNat 0).toNat, k + 1, 0) := by rw [rdK, if_pos rfl, if_neg g1]
      generalize hc : (b.getD k.toNat 0).toNat = c at *
      refine rn1 (jn @rdr4.eq_1 @rdO4.eq_1) ?_
      refine HC_plan [] ty_ok mix (by kernel_rfl) ?_
      refine rn1 @g1 ?_
      refine HC_plan [] ty_ok mix (by kernel_rfl) ?_
      by_cases g2 : most < c
      · have g2' : (most : Int) < c := by omega
        rw [if_pos g2] at hm
        refine rn1 (jn @g1 (jn @g2' (jn @g3 (jn @hk (jn @hc @hm))))) ?_
        rfl
      · have g2' : ¬ (most : Int) < c := by omega
        rw [if_neg g2] at hm
        exact rz1 (jn @g1 (jn @g2' (jn @g3 (jn @hk (jn @hc @hm)))))
  · have hm : rdK b most k e = (0, k, e) := if_neg he
    refine rn1 (jn @rdr4.eq_1 (jn @rdO4.eq_1 (jn @he @hm))) ?_
    rfl
set_option maxHeartbeats 400000 in
theorem rrval_ac (b : List UInt8) (k e : Int) (o : Bool) (hb : b.length ≤ 140737488355000) (h : okR b k e) (hk : e = 0 → 0 ≤ k) : AC Try.prog noG 53 [.ptr 0 0] (rdr4 b k e o)
    (fun v r' => v = .d (.agg (cstE (rdV b k e).1)) ∧ r' = rdr4 b (rdV b k e).2.1 (rdV b k e).2.2 o) := by
  refine AC.fit ?_
  refine AC_of_R (N := 12) (res := [.cell 2 53]) ty_ok Try.call53 Try.func53 rfl rfl rfl (Nat.le_of_ble_eq_true rfl) ?_
  have hx := rrknd_ac b 1 k e o hb h hk
  have ho := rdK_ok (most := 1) hb h hk
  have hm : rdV b k e = if (rdK b 1 k e).1 = 1 then (⟨false, 0, (rdT b (rdK b 1 k e).2.1 (rdK b 1 k e).2.2).1⟩, (rdT b (rdK b 1 k e).2.1 (rdK b 1 k e).2.2).2)
    else (⟨true, (rdN b (rdK b 1 k e).2.1 (rdK b 1 k e).2.2).1, ⟨#[]⟩⟩, (rdN b (rdK b 1 k e).2.1 (rdK b 1 k e).2.2).2) := rfl
  generalize rdK b 1 k e = t at *
  obtain ⟨q, k1, e1⟩ := t
  simp only at hx hm ho
  have c1 : ((1 : Nat) : Int) = 1 := rfl
  rw [c1] at hx
  refine rn1 (jn @rdr4.eq_1 @rdO4.eq_1) ?_
  refine HO_callX ty_ok [0] (hx) (rdr4_hand _ _ _ _ _ _ rfl) (rdr4_wf _ _ _ _) ?_
  rintro v r' ⟨rfl, rfl⟩ _
  by_cases g : q = 1
  · subst g
    have h2 := rrtxt_ac b k1 e1 o hb ho.1
    rw [if_pos rfl] at hm
    generalize rdT b k1 e1 = u at *
    obtain ⟨s, k2, e2⟩ := u
    simp only at h2 hm
    rw [hm]
    refine rn1 (jn @rdr4.eq_1 (jn @rdO4.eq_1 @c1)) ?_
    refine HO_callX ty_ok [0] (h2) (rdr4_hand _ _ _ _ _ _ rfl) (rdr4_wf _ _ _ _) ?_
    rintro v r' ⟨rfl, rfl⟩ _
    refine rn1 (jn @rdr4.eq_1 @rdO4.eq_1) ?_
    exact fv1 [0] [] (jn @rdr4.eq_1 (jn @rdO4.eq_1 @cstE.eq_1))
  · have g' : ¬ (q : Int) = 1 := by omega
    have h2 := rrint_ac b k1 e1 o hb ho.1
    rw [if_neg g] at hm
    generalize rdN b k1 e1 = u at *
    obtain ⟨s, k2, e2⟩ := u
    simp only at h2 hm
    rw [hm]
    refine rn1 (jn @rdr4.eq_1 (jn @rdO4.eq_1 @g')) ?_
    refine HO_callX ty_ok [0] (h2) (rdr4_hand _ _ _ _ _ _ rfl) (rdr4_wf _ _ _ _) ?_
    rintro v r' ⟨rfl, rfl⟩ _
    refine rn1 (jn @rdr4.eq_1 @rdO4.eq_1) ?_
    exact fv1 [0] [] (jn @rdr4.eq_1 (jn @rdO4.eq_1 @cstE.eq_1))
def oddR (b : List UInt8) (k e : Int) : Bool := if (rdK b 2 k e).1 = 1 then !txtOK (rdT b (rdK b 2 k e).2.1 (rdK b 2 k e).2.2).1 else if (rdK b 2 k e).1 = 2 then !goodC (rdV b (rdK b 2 k e).2.1 (rdK b 2 k e).2.2).1 else false
set_option maxHeartbeats 400000 in
theorem rrtm_ac (b : List UInt8) (k e : Int) (o : Bool) (hb : b.length ≤ 140737488355000) (h : okR b k e) (hk : e = 0 → 0 ≤ k) : AC Try.prog noG 73 [.ptr 0 0] (rdr4 b k e o)
    (fun v r' => v = .d (.agg (trmE (rdTm b k e).1)) ∧ r' = rdr4 b (rdTm b k e).2.1 (rdTm b k e).2.2 (o || oddR b k e)) := by
  refine AC.fit ?_
  refine AC_of_R (N := 54) (res := [.cell 2 55]) ty_ok Try.call73 Try.func73 rfl rfl rfl (Nat.le_of_ble_eq_true rfl) ?_
  have hx := rrknd_ac b 2 k e o hb h hk
  have ho := rdK_ok (most := 2) hb h hk
  have hm : rdTm b k e = if (rdK b 2 k e).1 = 1 then (⟨(rdT b (rdK b 2 k e).2.1 (rdK b 2 k e).2.2).1, zC⟩, (rdT b (rdK b 2 k e).2.1 (rdK b 2 k e).2.2).2)
    else if (rdK b 2 k e).1 = 2 then (⟨⟨#[]⟩, (rdV b (rdK b 2 k e).2.1 (rdK b 2 k e).2.2).1⟩, (rdV b (rdK b 2 k e).2.1 (rdK b 2 k e).2.2).2)
    else (zT, (rdK b 2 k e).2) := rfl
  have hodd : oddR b k e = if (rdK b 2 k e).1 = 1 then !txtOK (rdT b (rdK b 2 k e).2.1 (rdK b 2 k e).2.2).1 else if (rdK b 2 k e).1 = 2 then !goodC (rdV b (rdK b 2 k e).2.1 (rdK b 2 k e).2.2).1 else false := rfl
  generalize rdK b 2 k e = t at *
  obtain ⟨q, k1, e1⟩ := t
  simp only at hx hm ho hodd
  have c2 : ((2 : Nat) : Int) = 2 := rfl
  have c1 : ((1 : Nat) : Int) = 1 := rfl
  rw [c2] at hx
  refine rn1 (jn @rdr4.eq_1 @rdO4.eq_1) ?_
  refine HO_callX ty_ok [0] (hx) (rdr4_hand _ _ _ _ _ _ rfl) (rdr4_wf _ _ _ _) ?_
  rintro v r' ⟨rfl, rfl⟩ _
  by_cases g : q = 1
  · subst g
    have he1 : e1 = 0 := by
      by_cases h0 : e1 = 0
      · exact h0
      · have := ho.2.2.2 h0; omega
    subst he1
    have h2 := rrtxt_ac b k1 0 o hb ho.1
    rw [if_pos rfl] at hm hodd
    generalize rdT b k1 0 = u at *
    obtain ⟨s, k2, e2⟩ := u
    simp only at h2 hm hodd
    have ht := rftext_ac s
    rw [hm, hodd]
    refine rn1 (jn @rdr4.eq_1 (jn @rdO4.eq_1 @c1)) ?_
    refine HO_callX ty_ok [0] (h2) (rdr4_hand _ _ _ _ _ _ rfl) (rdr4_wf _ _ _ _) ?_
    rintro v r' ⟨rfl, rfl⟩ _
    cases o with
    | true =>
      refine rn1 (jn @rdr4.eq_1 @rdO4.eq_1) ?_
      exact fv1 [0] [] (jn @rdr4.eq_1 (jn @rdO4.eq_1 (jn @trmE.eq_1 @zC.eq_1)))
    | false =>
      refine rn1 (jn @rdr4.eq_1 @rdO4.eq_1) ?_
      refine HO_pureA ty_ok ht ?_
      refine rn0 ?_
      exact fv1 [0] [] (jn @rdr4.eq_1 (jn @rdO4.eq_1 (jn @trmE.eq_1 @zC.eq_1)))
  · have g' : ¬ (q : Int) = 1 := by omega
    rw [if_neg g] at hm hodd
    by_cases g2 : q = 2
    · subst g2
      have he1 : e1 = 0 := by
        by_cases h0 : e1 = 0
        · exact h0
        · have := ho.2.2.2 h0; omega
      subst he1
      have h2 := rrval_ac b k1 0 o hb ho.1 (fun he => by have := ho.2.1 he; omega)
      rw [if_pos rfl] at hm hodd
      generalize rdV b k1 0 = u at *
      obtain ⟨s, k2, e2⟩ := u
      simp only at h2 hm hodd
      have ht := rfgood_ac s
      rw [hm, hodd]
      simp only [cstE] at ht
      refine rn1 (jn @rdr4.eq_1 (jn @rdO4.eq_1 (jn @g' @c2))) ?_
      refine HO_callX ty_ok [0] (h2) (rdr4_hand _ _ _ _ _ _ rfl) (rdr4_wf _ _ _ _) ?_
      rintro v r' ⟨rfl, rfl⟩ _
      cases o with
      | true =>
        refine rn1 (jn @rdr4.eq_1 (jn @rdO4.eq_1 @cstE.eq_1)) ?_
        exact fv1 [0] [] (jn @rdr4.eq_1 (jn @rdO4.eq_1 @trmE.eq_1))
      | false =>
        refine rn1 (jn @rdr4.eq_1 (jn @rdO4.eq_1 @cstE.eq_1)) ?_
        refine HO_pureA ty_ok ht ?_
        refine rn0 ?_
        exact fv1 [0] [] (jn @rdr4.eq_1 (jn @rdO4.eq_1 @trmE.eq_1))
    · have g0 : (q : Int) = 0 := by have := ho.2.2.1; omega
      rw [if_neg g2] at hm hodd
      rw [hm, hodd, Bool.or_false]
      by_cases he : e1 = 0
      · refine rn1 (jn @rdr4.eq_1 (jn @rdO4.eq_1 (jn @g' (jn @g0 @he)))) ?_
        exact fv1 [0] [] (jn @rdr4.eq_1 (jn @rdO4.eq_1 (jn @trmE.eq_1 (jn @zT.eq_1 @zC.eq_1))))
      · refine rn1 (jn @rdr4.eq_1 (jn @rdO4.eq_1 (jn @g' (jn @g0 @he)))) ?_
        exact fv1 [0] [] (jn @rdr4.eq_1 (jn @rdO4.eq_1 (jn @trmE.eq_1 (jn @zT.eq_1 @zC.eq_1))))
theorem odd_bad {b : List UInt8} {k e : Int} (hb : b.length ≤ 140737488355000) (h : okR b k e) (hk : e = 0 → 0 ≤ k) (h0 : (rdTm b k e).2.2 = 0) : badC b k e = oddR b k e := by
  have ho := rdK_ok (most := 2) hb h hk
  unfold badC
  rw [decide_eq_true h0, Bool.true_and]
  have hT := rdTm_ok hb h hk
  have hm : rdTm b k e = if (rdK b 2 k e).1 = 1 then (⟨(rdT b (rdK b 2 k e).2.1 (rdK b 2 k e).2.2).1, zC⟩, (rdT b (rdK b 2 k e).2.1 (rdK b 2 k e).2.2).2)
    else if (rdK b 2 k e).1 = 2 then (⟨⟨#[]⟩, (rdV b (rdK b 2 k e).2.1 (rdK b 2 k e).2.2).1⟩, (rdV b (rdK b 2 k e).2.1 (rdK b 2 k e).2.2).2)
    else (zT, (rdK b 2 k e).2) := rfl
  have hodd : oddR b k e = if (rdK b 2 k e).1 = 1 then !txtOK (rdT b (rdK b 2 k e).2.1 (rdK b 2 k e).2.2).1 else if (rdK b 2 k e).1 = 2 then !goodC (rdV b (rdK b 2 k e).2.1 (rdK b 2 k e).2.2).1 else false := rfl
  rw [hodd]
  have hq : (rdK b 2 k e).1 = (b.getD k.toNat 0).toNat := by
    by_cases hz : (rdK b 2 k e).2.2 = 0
    · exact (ho.2.1 hz).2.2.2.2
    · have h2 := ho.2.2.2 hz
      rw [hm, if_neg (by omega), if_neg (by omega)] at h0
      exact absurd h0 hz
  rw [← hq]
  generalize rdK b 2 k e = t at *
  obtain ⟨q, k1, e1⟩ := t
  simp only at hm ho hq ⊢
  by_cases g : q = 1
  · subst g
    rw [if_pos rfl] at hm ⊢
    rw [hm]
    generalize (rdT b k1 e1).1 = s
    simp only [rightT, decide_eq_false (show ¬ (1 : Nat) = 0 by decide), Bool.not_false, Bool.true_and, decide_true, Bool.and_true, Bool.true_or]
    by_cases hs : s = ⟨#[]⟩
    · subst hs
      rw [if_pos rfl]
      rfl
    · rw [if_neg hs, decide_eq_false (fun hh => hs (by injection hh)), Bool.or_false]
  · rw [if_neg g] at hm ⊢
    by_cases g2 : q = 2
    · subst g2
      rw [if_pos rfl] at hm ⊢
      rw [hm]
      generalize (rdV b k1 e1).1 = c
      simp only [rightT, decide_eq_false (show ¬ (2 : Nat) = 0 by decide), Bool.not_false, Bool.true_and, if_true]
      have e1 : decide ((⟨⟨#[]⟩, c⟩ : Trm) = zT) = decide (c = zC) := ztD rfl
      rw [e1]
      by_cases hc : c = zC
      · subst hc; rfl
      · rw [decide_eq_false hc, Bool.false_or, Bool.or_false]
    · rw [if_neg g2] at hm ⊢
      have : q = 0 := by have := ho.2.2.1; omega
      subst this
      rfl
end Go.Proofs.Ytfeoafddagdbfaa
