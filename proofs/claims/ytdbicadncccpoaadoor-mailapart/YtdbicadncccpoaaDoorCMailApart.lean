import Derived.Test.YtdbicadncccpoaaDoorCMailBack
import Derived.Test.YtdbicadncccpoaaDoorCMailOpens
set_option linter.unusedVariables false
set_option linter.unusedSimpArgs false
set_option maxRecDepth 100000
namespace Go.Proofs.YtdbicadncccpoaaDoor
open Go Go.ChangeShapes Go.WideShapes
theorem opnP_len {n : Int} {l : List ByteArray} {b : List UInt8} (h : (opnP n l b).2 = 0) : b.length = (WP (opnP n l b).1).length + 32 := by
  unfold opnP at h ⊢
  split at h
  · simp at h
  · rename_i h1
    rw [if_neg h1]
    split at h
    · rename_i h2
      exact absurd h h2
    · rename_i h2
      rw [if_neg h2]
      split at h
      · rename_i h3
        rw [if_pos h3]
        have h4 : (getP (b.take (b.length - 32))).2 = 0 := by
          by_cases h4 : (getP (b.take (b.length - 32))).2 = 0
          · exact h4
          · exact absurd h4 h2
        obtain ⟨_, _, h5⟩ := getP_inv h4
        simp only
        rw [h5, List.length_take]; omega
      · simp at h
theorem opnP_not {n : Int} {l : List ByteArray} {b : List UInt8} {p : Pkt} (hl : b.length ≠ (WP p).length + 32) : (opnP n l b).2 = 0 → decide ((opnP n l b).1 = p) = false := by
  intro h
  rw [decide_eq_false_iff_not]
  rintro rfl
  exact hl (opnP_len h)
theorem put_same {p q : Pkt} (hp : mayB p = true) (op : okP p) (hq : mayB q = true) (oq : okP q) : decide (putP p = putP q) = decide (p = q) := by
  congr 1
  rw [putP_W, putP_W]
  exact propext (WP_inj hp op hq oq)
theorem cut_ok (c : Int) (L : Nat) (h0 : 32 ≤ L) (h1 : L ≤ 100000) : ∃ N : Nat, (IntKind.i64.wrap (c.tmod ↑L + ↑L)).tmod ↑L = (N : Int) ∧ N < L := by
  have g1 := Int.tmod_lt_of_pos c (b := (L : Int)) (by omega)
  have g2 := Int.lt_tmod_of_pos c (b := (L : Int)) (by omega)
  rw [w_i64 (by omega) (by omega)]
  have g3 := Int.tmod_lt_of_pos (c.tmod L + L) (b := (L : Int)) (by omega)
  have g4 := Int.tmod_nonneg (L : Int) (a := c.tmod L + L) (by omega)
  exact ⟨((c.tmod ↑L + ↑L).tmod ↑L).toNat, by omega, by omega⟩
set_option maxHeartbeats 400000 in
theorem mailApart_ac (p q : Pkt) (cut : Int) (hp : szPk p) (ho : okP p) (hp2 : szPk q) (ho2 : okP q) (c0 : -9223372036854775808 ≤ cut) (c1 : cut ≤ 9223372036854775807) :
    AC Tryd.prog noG 6 [.d (.agg (pktE p)), .d (.agg (pktE q)), .d (.c (.int .i64 cut))] [] (fun v r' => v = .d (.c (.bool true)) ∧ r' = []) := by
  refine AC.pure ?_ (by rintro v rfl; rfl)
  refine AC_of_R (N := 122) (res := [.tmp 6]) ty_ok Tryd.call6 Tryd.func6 rfl rfl rfl (Nat.le_of_ble_eq_true rfl) ?_
  have hf : p.f.l.length ≤ 140737488352000 := hp.2.2.2.2.2.1
  have hf2 : q.f.l.length ≤ 140737488352000 := hp2.2.2.2.2.2.1
  have hw := wP_ac p hp.1 hp.2.1 hp.2.2 ho.2.2.2.2.2
  have hw2 := wP_ac q hp2.1 hp2.2.1 hp2.2.2 ho2.2.2.2.2.2
  have kp := put_ac p hf ho
  have kp2 := put_ac q hf2 ho2
  obtain ⟨t1, t2, t3, t4, t5, t6⟩ := tg32 p.tg ho.2.2.2.2.2
  obtain ⟨u1, u2, u3, u4, u5, u6⟩ := tg32 q.tg ho2.2.2.2.2.2
  rw [ptV] at kp kp2
  simp only [pktE, itE, List.cons_append, List.nil_append] at hw kp hw2 kp2
  refine rn1 (jn @pktE.eq_1 (jn @itE.eq_1 (jn @t1 (jn @t2 (jn @t3 (jn @t4 (jn @t5 (jn @t6 (jn @u1 (jn @u2 (jn @u3 (jn @u4 (jn @u5 (jn @u6 @tA_allD)))))))))))))) ?_
  refine HO_callX ty_ok [] hw (trivial) rfl ?_
  rintro v r' ⟨⟨n, rfl⟩, rfl⟩ _
  by_cases hn : n > 200
  · refine rn1 @hn ?_
    refine HO_pureA ty_ok mlive_ac ?_
    exact rz0
  refine rn1 (jn @hn (jn @t1 (jn @t2 (jn @t3 (jn @t4 (jn @t5 (jn @t6 (jn @u1 (jn @u2 (jn @u3 (jn @u4 (jn @u5 (jn @u6 @tA_allD))))))))))))) ?_
  refine HO_callX ty_ok [] hw2 (trivial) rfl ?_
  rintro v r' ⟨⟨n2, rfl⟩, rfl⟩ _
  by_cases hn2 : n2 > 200
  · refine rn1 @hn2 ?_
    refine HO_pureA ty_ok mlive_ac ?_
    exact rz0
  refine rn1 (jn @hn2 (jn @t1 (jn @t2 (jn @t3 (jn @t4 (jn @t5 (jn @t6 (jn @u1 (jn @u2 (jn @u3 (jn @u4 (jn @u5 (jn @u6 @tA_allD))))))))))))) ?_
  refine HO_pureA ty_ok kp ?_
  refine rn1 (jn @t1 (jn @t2 (jn @t3 (jn @t4 (jn @t5 (jn @t6 (jn @u1 (jn @u2 (jn @u3 (jn @u4 (jn @u5 (jn @u6 @tA_allD)))))))))))) ?_
  refine HO_pureA ty_ok kp2 ?_
  cases hm : mayB p with
  | false =>
    have e2 : putE p = 2 := by rw [putE, hm]; rfl
    rw [e2]
    refine rn0 ?_
    refine HO_pureA ty_ok mlive_ac ?_
    exact rz0
  | true =>
    have e1 : putX p = putP p := by rw [putX, hm]; rfl
    have e2 : putE p = 0 := by rw [putE, hm]; rfl
    rw [e1, e2]
    cases hm2 : mayB q with
    | false =>
      have e2 : putE q = 2 := by rw [putE, hm2]; rfl
      rw [e2]
      refine rn0 ?_
      refine HO_pureA ty_ok mlive_ac ?_
      exact rz0
    | true =>
      have e1 : putX q = putP q := by rw [putX, hm2]; rfl
      have e2 : putE q = 0 := by rw [putE, hm2]; rfl
      rw [e1, e2]
      obtain ⟨s1, s2, s3, s4, s5⟩ := seal_one p ho hm
      have hXl := putP_small p ho hm
      have hYl := putP_small q ho2 hm2
      have hTl := rtag_len 1 p.fr mailS (putP p)
      have kn := new_ok 1 [p.fr] (by decide) (by decide) s3
      have ks := seal_ac 1 [p.fr] [] p (by simp) (by simp) hf ho
      have sm := same_ac (putP p) (putP q) (by omega) (by omega)
      have kq := rps_ac p q hf hf2 ho.2.2.2.2.2 ho2.2.2.2.2.2
      rw [put_same hm ho hm2 ho2] at sm
      generalize decide (p = q) = w at *
      rw [s1, s2] at ks
      have hZ : (putP p ++ rtag 1 p.fr mailS (putP p)).length = (WP p).length + 32 := by rw [List.length_append, hTl, putP_W]
      have hZl : (putP p).length = (WP p).length := by rw [putP_W]
      generalize putP p ++ rtag 1 p.fr mailS (putP p) = Z at *
      generalize putP p = X at *
      generalize putP q = Y at *
      generalize sealB [p.fr] [] p = B at *
      simp only [pktE, itE, List.cons_append, List.nil_append] at ks kq
      refine rn0 ?_
      refine HC_order [2] ty_ok mix [0, 1, 3, 4, 2, 5, 6] (by kernel_rfl) rfl _ rfl ?_
      simp only [opl_nil', opl_cons', oplC_some, List.getElem?_toArray, List.getElem?_cons_zero, List.getElem?_cons_succ]
      refine rn1 (jn @t1 (jn @t2 (jn @t3 (jn @t4 (jn @t5 (jn @t6 (jn @u1 (jn @u2 (jn @u3 (jn @u4 (jn @u5 (jn @u6 @tA_allD)))))))))))) ?_
      refine HO_pureA ty_ok sm ?_
      refine rn1 (jn @t1 (jn @t2 (jn @t3 (jn @t4 (jn @t5 (jn @t6 (jn @u1 (jn @u2 (jn @u3 (jn @u4 (jn @u5 (jn @u6 @tA_allD)))))))))))) ?_
      refine HO_pureA ty_ok kq ?_
      have hw3 : (w != w) = false := by cases w <;> rfl
      refine rn1 @hw3 ?_
      refine HO_callX ty_ok [] kn (trivial) rfl ?_
      rintro v r' ⟨rfl, rfl⟩ _
      refine rn1 (jn @rg.eq_1 (jn @rgO.eq_1 (jn @t1 (jn @t2 (jn @t3 (jn @t4 (jn @t5 (jn @t6 @tA_allD)))))))) ?_
      refine HO_callX ty_ok [2, 3, 4] ks (rg_hand _ _ _ _ _ _ _ rfl rfl rfl) (rg_wf _ _ _) ?_
      rintro v r' ⟨rfl, rfl⟩ _
      obtain ⟨N, hN, hNl⟩ := cut_ok cut Z.length (by omega) (by omega)
      have d1 : (bD Z).take N = bD (Z.take N) := bD_take Z N
      have hNt : (Z.take N).length = N := by rw [List.length_take]; omega
      have ka := open_ac 1 [p.fr] B (Z.take N) (by simp) (by simp) (by omega)
      have kb := open_ac 1 [p.fr] B (Z ++ [0]) (by simp) (by simp) (by rw [List.length_append, List.length_singleton]; omega)
      have na := @opnP_not 1 [p.fr] (Z.take N) p (by omega)
      have nb := @opnP_not 1 [p.fr] (Z ++ [0]) p (by rw [List.length_append, List.length_singleton]; omega)
      obtain ⟨a1, a2⟩ := opnP_ok 1 [p.fr] (Z.take N)
      obtain ⟨b1, b2⟩ := opnP_ok 1 [p.fr] (Z ++ [0])
      rw [gpV] at ka kb
      rw [hNt] at ka
      rw [List.length_append, List.length_singleton] at kb
      generalize opnP 1 [p.fr] (Z.take N) = ga at *
      generalize opnP 1 [p.fr] (Z ++ [0]) = gb at *
      obtain ⟨a, ae⟩ := ga
      obtain ⟨c, ce⟩ := gb
      simp only at na nb a1 a2 b1 b2 ka kb
      have sa := rps_ac a p (by omega) hf a2.2.2.2.2.2 ho.2.2.2.2.2
      have sc := rps_ac c p (by omega) hf b2.2.2.2.2.2 ho.2.2.2.2.2
      obtain ⟨v1, v2, v3, v4, v5, v6⟩ := tg32 a.tg a2.2.2.2.2.2
      obtain ⟨w1, w2, w3, w4, w5, w6⟩ := tg32 c.tg b2.2.2.2.2.2
      simp only [pktE, itE, List.cons_append, List.nil_append] at ka kb sa sc
      refine rn1 (jn @rg.eq_1 (jn @rgO.eq_1 (jn @hN @d1))) ?_
      (repeat (refine And.intro (by omega) ?_))
      refine HO_callX ty_ok [2, 3, 4] ka (rg_hand _ _ _ _ _ _ _ rfl rfl rfl) (rg_wf _ _ _) ?_
      rintro v r' ⟨rfl, rfl⟩ _
      refine rn1 (jn @rg.eq_1 (jn @rgO.eq_1 (jn @v1 (jn @v2 (jn @v3 (jn @v4 (jn @v5 (jn @v6 @tA_allD)))))))) ?_
      (repeat (refine And.intro (by omega) ?_))
      refine HO_callX ty_ok [2, 3, 4] kb (rg_hand _ _ _ _ _ _ _ rfl rfl rfl) (rg_wf _ _ _) ?_
      rintro v r' ⟨rfl, rfl⟩ _
      refine rn1 (jn @rg.eq_1 (jn @rgO.eq_1 (jn @v1 (jn @v2 (jn @v3 (jn @v4 (jn @v5 (jn @v6 (jn @w1 (jn @w2 (jn @w3 (jn @w4 (jn @w5 (jn @w6 @tA_allD)))))))))))))) ?_
      by_cases ha : ae = 0
      · rw [na ha] at sa
        refine rn1 (jn @ha (jn @t1 (jn @t2 (jn @t3 (jn @t4 (jn @t5 (jn @t6 (jn @v1 (jn @v2 (jn @v3 (jn @v4 (jn @v5 (jn @v6 @tA_allD))))))))))))) ?_
        refine HO_pureA ty_ok sa ?_
        by_cases hc : ce = 0
        · rw [nb hc] at sc
          refine rn1 (jn @hc (jn @t1 (jn @t2 (jn @t3 (jn @t4 (jn @t5 (jn @t6 (jn @w1 (jn @w2 (jn @w3 (jn @w4 (jn @w5 (jn @w6 @tA_allD))))))))))))) ?_
          refine HO_pureA ty_ok sc ?_
          refine rn0 ?_
          refine HO_pureA ty_ok mlive_ac ?_
          exact rz0
        · refine rn1 @hc ?_
          refine HO_pureA ty_ok mlive_ac ?_
          exact rz0
      · by_cases hc : ce = 0
        · rw [nb hc] at sc
          refine rn1 (jn @ha (jn @hc (jn @t1 (jn @t2 (jn @t3 (jn @t4 (jn @t5 (jn @t6 (jn @w1 (jn @w2 (jn @w3 (jn @w4 (jn @w5 (jn @w6 @tA_allD)))))))))))))) ?_
          refine HO_pureA ty_ok sc ?_
          refine rn0 ?_
          refine HO_pureA ty_ok mlive_ac ?_
          exact rz0
        · refine rn1 (jn @ha @hc) ?_
          refine HO_pureA ty_ok mlive_ac ?_
          exact rz0
end Go.Proofs.YtdbicadncccpoaaDoor
