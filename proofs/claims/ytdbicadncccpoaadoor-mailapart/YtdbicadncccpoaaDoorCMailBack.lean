import Derived.Test.YtdbicadncccpoaaDoorCJ15
import Derived.Test.YtdbicadncccpoaaDoorCJ1
set_option linter.unusedVariables false
set_option linter.unusedSimpArgs false
set_option maxRecDepth 100000
namespace Go.Proofs.YtdbicadncccpoaaDoor
open Go Go.ChangeShapes Go.WideShapes
theorem txtOK_32 {s : ByteArray} (h : txtOK s = true) : s.size ≤ 32 ∧ 1 ≤ s.size := by
  simp only [txtOK, Bool.and_eq_true, decide_eq_true_eq] at h; omega
theorem putP_small (p : Pkt) (ho : okP p) (hm : mayB p = true) : (putP p).length ≤ 3000 := by
  obtain ⟨⟨m1, m2, _⟩, _, _, m5⟩ := may_parts hm
  have m1 := (txtOK_32 m1).1
  have m2 := (txtOK_32 m2).1
  obtain ⟨o1, o2, o3, o4, o5, o6⟩ := ho
  have l1 := putTx_le [] p.fr (by omega)
  rw [List.length_nil] at l1
  have l2 := putTx_le (putTx [] p.fr) p.to (by omega)
  have l3 := putI_le (putTx (putTx [] p.fr) p.to) p.sq o1.1 o1.2
  have l4 := putI_le (putI (putTx (putTx [] p.fr) p.to) p.sq) p.ak o2.1 o2.2
  have l5 := putI_le (putI (putI (putTx (putTx [] p.fr) p.to) p.sq) p.ak) p.kd o3.1 o3.2
  have l6 := putI_le (putI (putI (putI (putTx (putTx [] p.fr) p.to) p.sq) p.ak) p.kd) p.ep o4.1 o4.2
  rw [putP]
  split
  · omega
  · split
    · rename_i c2
      have l7 := putF_le (b := putI (putI (putI (putI (putTx (putTx [] p.fr) p.to) p.sq) p.ak) p.kd) p.ep) o5 (m5 c2)
      rw [List.length_append, o6]; omega
    · omega
theorem newE_one {s : ByteArray} (h : txtOK s = true) : newE [s] = 0 := by
  have := txtOK_32 h
  have h1 : 0 < s.size := by omega
  simp [newE, okN, memB, h1, this.1]
theorem memB_one (s : ByteArray) : memB s [s] = true := by simp [memB]
theorem seal_one (p : Pkt) (ho : okP p) (hm : mayB p = true) :
    sealE [p.fr] [] p = 0 ∧ sealX 1 [p.fr] [] p = putP p ++ rtag 1 p.fr mailS (putP p) ∧ newE [p.fr] = 0 ∧ getP (putP p) = (p, 0) ∧ opnP 1 [p.fr] (putP p ++ rtag 1 p.fr mailS (putP p)) = (p, 0) := by
  have hl := putP_small p ho hm
  have hs : signE [p.fr] [] p.fr mailS (putP p) = 0 := by
    rw [signE, memB_one, if_neg (by decide), if_neg (by rw [mailS_size]; omega), if_neg (fun h => absurd h.2 (by decide))]
  obtain ⟨⟨m1, _⟩, _⟩ := may_parts hm
  have hg : getP (putP p) = (p, 0) := by rw [putP_W]; exact getP_put hm ho
  refine ⟨by rw [sealE, if_pos hm, hs], by rw [sealX, if_pos ⟨hm, hs⟩], newE_one m1, hg, ?_⟩
  rw [opnP_Q _ _ _ _ (rtag_len _ _ _ _), opnQ, hg, if_neg (fun h => h rfl), memB_one, decide_eq_true rfl]; rfl
theorem getP_e (b : List UInt8) : (getP b).2 = 0 ∨ (getP b).2 = 11 := by
  unfold getP
  split
  · split
    · exact .inl rfl
    · exact .inr rfl
  · exact .inr rfl
set_option maxHeartbeats 400000 in
theorem mailBack_ac (p : Pkt) (b : List UInt8) (hp : szPk p) (ho : okP p) (hb : b.length ≤ 140737488355000) :
    AC Tryd.prog noG 5 [.d (.agg (pktE p)), .d (.sl 1 b.length (bD b))] [] (fun v r' => v = .d (.c (.bool true)) ∧ r' = []) := by
  refine AC.pure ?_ (by rintro v rfl; rfl)
  refine AC_of_R (N := 114) (res := [.tmp 4]) ty_ok Tryd.call5 Tryd.func5 rfl rfl rfl (Nat.le_of_ble_eq_true rfl) ?_
  have hf : p.f.l.length ≤ 140737488352000 := hp.2.2.2.2.2.1
  have hw := wP_ac p hp.1 hp.2.1 hp.2.2 ho.2.2.2.2.2
  have kp := put_ac p hf ho
  obtain ⟨t1, t2, t3, t4, t5, t6⟩ := tg32 p.tg ho.2.2.2.2.2
  rw [ptV] at kp
  simp only [pktE, itE, List.cons_append, List.nil_append] at hw kp
  refine rn1 (jn @pktE.eq_1 (jn @itE.eq_1 (jn @t1 (jn @t2 (jn @t3 (jn @t4 (jn @t5 (jn @t6 @tA_allD)))))))) ?_
  refine HO_callX ty_ok [] hw (trivial) rfl ?_
  rintro v r' ⟨⟨n, rfl⟩, rfl⟩ _
  by_cases hn : n > 200
  · refine rn1 @hn ?_
    refine HO_pureA ty_ok mlive_ac ?_
    exact rz0
  by_cases hb5 : b.length ≤ 5000
  · have g5 : ¬ (b.length : Int) > 5000 := by omega
    have kb := get_ac b (by omega)
    have sb := same_ac b b (by omega) (by omega)
    rw [decide_eq_true rfl] at sb
    have hge := getP_e b
    have hgb : (getP b).2 = 0 → putX (getP b).1 = b ∧ putE (getP b).1 = 0 := fun h => by
      obtain ⟨i1, i2, i3⟩ := getP_inv h
      exact ⟨by rw [putX, if_pos i1, putP_W, i3], by rw [putE, if_pos i1]⟩
    obtain ⟨g1, g2, g3, g4⟩ := getP_small b
    rw [gpV] at kb
    generalize getP b = gp at *
    obtain ⟨q, e⟩ := gp
    simp only at g1 g2 g3 g4 kb hge hgb
    obtain ⟨u1, u2, u3, u4, u5, u6⟩ := tg32 q.tg g2.2.2.2.2.2
    simp only [pktE, itE, List.cons_append, List.nil_append] at kb
    cases hm : mayB p with
    | false =>
      have e2 : putE p = 2 := by rw [putE, hm]; rfl
      rw [e2] at kp
      refine rn1 (jn @hn (jn @g5 (jn @t1 (jn @t2 (jn @t3 (jn @t4 (jn @t5 (jn @t6 @tA_allD)))))))) ?_
      refine HO_pureA ty_ok kp ?_
      refine rn1 (jn @t1 (jn @t2 (jn @t3 (jn @t4 (jn @t5 (jn @t6 @tA_allD)))))) ?_
      refine HO_pureA ty_ok kb ?_
      by_cases he : e = 0
      · obtain ⟨b1, b2⟩ := hgb he
        have kp2 := put_ac q (by omega) g2
        rw [ptV, b1, b2] at kp2
        simp only [pktE, itE, List.cons_append, List.nil_append] at kp2
        refine rn1 (jn @he (jn @u1 (jn @u2 (jn @u3 (jn @u4 (jn @u5 (jn @u6 @tA_allD))))))) ?_
        refine HO_pureA ty_ok kp2 ?_
        refine rn0 ?_
        refine HO_pureA ty_ok sb ?_
        refine rn0 ?_
        refine HO_pureA ty_ok mlive_ac ?_
        exact rz0
      · have he2 : e = 11 := hge.resolve_left he
        refine rn1 (jn @he (jn @he2 (jn @u1 (jn @u2 (jn @u3 (jn @u4 (jn @u5 (jn @u6 @tA_allD)))))))) ?_
        refine HO_pureA ty_ok mlive_ac ?_
        exact rz0
    | true =>
      have e1 : putX p = putP p := by rw [putX, hm]; rfl
      have e2 : putE p = 0 := by rw [putE, hm]; rfl
      rw [e1, e2] at kp
      obtain ⟨s1, s2, s3, s4, s5⟩ := seal_one p ho hm
      have hXl := putP_small p ho hm
      have hTl := rtag_len 1 p.fr mailS (putP p)
      have kg := get_ac (putP p) (by omega)
      rw [s4, gpV] at kg
      have kn := new_ok 1 [p.fr] (by decide) (by decide) s3
      have ks := seal_ac 1 [p.fr] [] p (by simp) (by simp) hf ho
      have ko := open_ac 1 [p.fr] (sealB [p.fr] [] p) (putP p ++ rtag 1 p.fr mailS (putP p)) (by simp) (by simp) (by rw [List.length_append]; omega)
      rw [s1, s2] at ks
      rw [s5, gpV] at ko
      rw [List.length_append, hTl] at ks ko
      have kq := rps_ac p p hf hf ho.2.2.2.2.2 ho.2.2.2.2.2
      rw [decide_eq_true rfl] at kq
      simp only [pktE, itE, List.cons_append, List.nil_append] at kg ks ko kq
      generalize putP p ++ rtag 1 p.fr mailS (putP p) = Z at *
      generalize putP p = X at *
      generalize sealB [p.fr] [] p = B at *
      have hx : ((X.length + 32 : Nat) : Int) = X.length + 32 := by omega
      refine rn1 (jn @hn (jn @g5 (jn @t1 (jn @t2 (jn @t3 (jn @t4 (jn @t5 (jn @t6 @tA_allD)))))))) ?_
      refine HO_pureA ty_ok kp ?_
      refine rn1 (jn @t1 (jn @t2 (jn @t3 (jn @t4 (jn @t5 (jn @t6 @tA_allD)))))) ?_
      refine HO_pureA ty_ok kg ?_
      refine rn1 (jn @t1 (jn @t2 (jn @t3 (jn @t4 (jn @t5 (jn @t6 @tA_allD)))))) ?_
      refine HO_pureA ty_ok kq ?_
      refine rn1 (jn @t1 (jn @t2 (jn @t3 (jn @t4 (jn @t5 (jn @t6 @tA_allD)))))) ?_
      refine HO_callX ty_ok [] kn (trivial) rfl ?_
      rintro v r' ⟨rfl, rfl⟩ _
      refine rn1 (jn @rg.eq_1 (jn @rgO.eq_1 (jn @t1 (jn @t2 (jn @t3 (jn @t4 (jn @t5 (jn @t6 @tA_allD)))))))) ?_
      refine HO_callX ty_ok [2, 3, 4] ks (rg_hand _ _ _ _ _ _ _ rfl rfl rfl) (rg_wf _ _ _) ?_
      rintro v r' ⟨rfl, rfl⟩ _
      refine rn1 (jn @rg.eq_1 @rgO.eq_1) ?_
      refine HO_callX ty_ok [2, 3, 4] ko (rg_hand _ _ _ _ _ _ _ rfl rfl rfl) (rg_wf _ _ _) ?_
      rintro v r' ⟨rfl, rfl⟩ _
      refine rn1 (jn @rg.eq_1 (jn @rgO.eq_1 (jn @t1 (jn @t2 (jn @t3 (jn @t4 (jn @t5 (jn @t6 @tA_allD)))))))) ?_
      refine HO_pureA ty_ok kq ?_
      refine rn1 @hx ?_
      refine HO_pureA ty_ok kb ?_
      by_cases he : e = 0
      · obtain ⟨b1, b2⟩ := hgb he
        have kp2 := put_ac q (by omega) g2
        rw [ptV, b1, b2] at kp2
        simp only [pktE, itE, List.cons_append, List.nil_append] at kp2
        refine rn1 (jn @he (jn @u1 (jn @u2 (jn @u3 (jn @u4 (jn @u5 (jn @u6 @tA_allD))))))) ?_
        refine HO_pureA ty_ok kp2 ?_
        refine rn0 ?_
        refine HO_pureA ty_ok sb ?_
        refine rn0 ?_
        refine HO_pureA ty_ok mlive_ac ?_
        exact rz0
      · have he2 : e = 11 := hge.resolve_left he
        refine rn1 (jn @he (jn @he2 (jn @u1 (jn @u2 (jn @u3 (jn @u4 (jn @u5 (jn @u6 @tA_allD)))))))) ?_
        refine HO_pureA ty_ok mlive_ac ?_
        exact rz0
  · have g5 : (b.length : Int) > 5000 := by omega
    refine rn1 (jn @hn @g5) ?_
    refine HO_pureA ty_ok mlive_ac ?_
    exact rz0
end Go.Proofs.YtdbicadncccpoaaDoor
