/- Parts of the proof: PSame, PWt, Head, Get. -/
import Derived.Test.YtdbicadncccpoaaDoorCJ12
import Derived.Test.YtdbicadncccpoaaDoorCJ9
import Derived.Test.YtdbicadncccpoaaDoorCJ10
import Derived.Test.YtdbicadncccpoaaDoorCJ8
set_option linter.unusedVariables false
set_option linter.unusedSimpArgs false
set_option maxRecDepth 100000
namespace Go.Proofs.YtdbicadncccpoaaDoor
open Go Go.ChangeShapes Go.WideShapes
set_option maxHeartbeats 400000 in
theorem rsi_ac (kd ep kd2 ep2 : Int) (f f2 : Fct) (tg tg2 : List UInt8) (hf : f.l.length ≤ 140737488352000) (hf2 : f2.l.length ≤ 140737488352000) (ht : tg.length = 32) (ht2 : tg2.length = 32) :
    AC Tryd.prog noG 32 [.d (.agg (itE kd ep f tg)), .d (.agg (itE kd2 ep2 f2 tg2))] [] (fun v r' => v = .d (.c (.bool (decide (kd = kd2 ∧ ep = ep2 ∧ tg = tg2 ∧ f = f2)))) ∧ r' = []) := by
  refine AC.pure ?_ (by rintro v rfl; rfl)
  refine AC_of_R (N := 32) (res := [.tmp 4]) ty_ok Tryd.call32 Tryd.func32 rfl rfl rfl (Nat.le_of_ble_eq_true rfl) ?_
  obtain ⟨t1, t2, t3, t4, t5, t6⟩ := tg32 tg ht
  obtain ⟨u1, u2, u3, u4, u5, u6⟩ := tg32 tg2 ht2
  have k := rord_ac f f2 hf hf2
  simp only [fctE] at k
  by_cases h1 : kd = kd2
  · by_cases h2 : ep = ep2
    · by_cases h3 : tg = tg2
      · subst h1 h2 h3
        by_cases h4 : f = f2
        · rw [ordC_zero.2 h4] at k
          have e : decide (kd = kd ∧ ep = ep ∧ tg = tg ∧ f = f2) = true := by simp [h4]
          rw [e]
          refine rn1 (jn @itE.eq_1 (jn @t1 (jn @t2 (jn @t3 (jn @t4 (jn @t5 (jn @t6 @tA_allD))))))) ?_
          refine HO_pureA ty_ok (k) ?_
          exact rz0
        · have h0 : ¬ ordC f f2 = 0 := fun h => h4 (ordC_zero.1 h)
          have e : decide (kd = kd ∧ ep = ep ∧ tg = tg ∧ f = f2) = false := by simp [h4]
          rw [e]
          refine rn1 (jn @itE.eq_1 (jn @t1 (jn @t2 (jn @t3 (jn @t4 (jn @t5 (jn @t6 @tA_allD))))))) ?_
          refine HO_pureA ty_ok (k) ?_
          exact rz1 @h0
      · skip
        have e : decide (kd = kd2 ∧ ep = ep2 ∧ tg = tg2 ∧ f = f2) = false := by simp [h1,h2,h3]
        rw [e]
        exact rz1 (jn @itE.eq_1 (jn @t1 (jn @t2 (jn @t3 (jn @t4 (jn @t5 (jn @t6 (jn @u1 (jn @u2 (jn @u3 (jn @u4 (jn @u5 (jn @u6 (jn @tA_allD (jn @h1 (jn @h2 @h3))))))))))))))))
    · skip
      have e : decide (kd = kd2 ∧ ep = ep2 ∧ tg = tg2 ∧ f = f2) = false := by simp [h1,h2]
      rw [e]
      exact rz1 (jn @itE.eq_1 (jn @t1 (jn @t2 (jn @t3 (jn @t4 (jn @t5 (jn @t6 (jn @u1 (jn @u2 (jn @u3 (jn @u4 (jn @u5 (jn @u6 (jn @tA_allD (jn @h1 @h2)))))))))))))))
  · skip
    have e : decide (kd = kd2 ∧ ep = ep2 ∧ tg = tg2 ∧ f = f2) = false := by simp [h1]
    rw [e]
    exact rz1 (jn @itE.eq_1 (jn @t1 (jn @t2 (jn @t3 (jn @t4 (jn @t5 (jn @t6 (jn @u1 (jn @u2 (jn @u3 (jn @u4 (jn @u5 (jn @u6 (jn @tA_allD @h1))))))))))))))
set_option maxHeartbeats 400000 in
theorem rps_ac (p q : Pkt) (hf : p.f.l.length ≤ 140737488352000) (hf2 : q.f.l.length ≤ 140737488352000) (ht : p.tg.length = 32) (ht2 : q.tg.length = 32) :
    AC Tryd.prog noG 17 [.d (.agg (pktE p)), .d (.agg (pktE q))] [] (fun v r' => v = .d (.c (.bool (decide (p = q)))) ∧ r' = []) := by
  refine AC.pure ?_ (by rintro v rfl; rfl)
  refine AC_of_R (N := 48) (res := [.tmp 4]) ty_ok Tryd.call17 Tryd.func17 rfl rfl rfl (Nat.le_of_ble_eq_true rfl) ?_
  obtain ⟨fr, to, sq, ak, kd, ep, f, tg⟩ := p
  obtain ⟨fr2, to2, sq2, ak2, kd2, ep2, f2, tg2⟩ := q
  simp only at hf hf2 ht ht2
  obtain ⟨t1, t2, t3, t4, t5, t6⟩ := tg32 tg ht
  obtain ⟨u1, u2, u3, u4, u5, u6⟩ := tg32 tg2 ht2
  have k := rsi_ac kd ep kd2 ep2 f f2 tg tg2 hf hf2 ht ht2
  simp only [itE, List.cons_append, List.nil_append] at k
  by_cases h1 : fr = fr2
  · by_cases h2 : to = to2
    · by_cases h3 : sq = sq2
      · by_cases h4 : ak = ak2
        · have e : decide ((⟨fr, to, sq, ak, kd, ep, f, tg⟩ : Pkt) = ⟨fr2, to2, sq2, ak2, kd2, ep2, f2, tg2⟩) = decide (kd = kd2 ∧ ep = ep2 ∧ tg = tg2 ∧ f = f2) := by
            simp only [Pkt.mk.injEq, h1, h2, h3, h4, true_and]
            congr 1
            exact propext ⟨fun h => ⟨h.1, h.2.1, h.2.2.2, h.2.2.1⟩, fun h => ⟨h.1, h.2.1, h.2.2.2, h.2.2.1⟩⟩
          rw [e]
          generalize decide (kd = kd2 ∧ ep = ep2 ∧ tg = tg2 ∧ f = f2) = w at *
          clear e
          refine rn1 (jn @pktE.eq_1 (jn @itE.eq_1 (jn @t1 (jn @t2 (jn @t3 (jn @t4 (jn @t5 (jn @t6 (jn @u1 (jn @u2 (jn @u3 (jn @u4 (jn @u5 (jn @u6 (jn @tA_allD (jn @h1 (jn @h2 (jn @h3 @h4)))))))))))))))))) ?_
          refine HO_pureA ty_ok (k) ?_
          exact rz0
        · skip
          have e : decide ((⟨fr, to, sq, ak, kd, ep, f, tg⟩ : Pkt) = ⟨fr2, to2, sq2, ak2, kd2, ep2, f2, tg2⟩) = false := by simp [h1,h2,h3,h4]
          rw [e]
          exact rz1 (jn @pktE.eq_1 (jn @itE.eq_1 (jn @t1 (jn @t2 (jn @t3 (jn @t4 (jn @t5 (jn @t6 (jn @u1 (jn @u2 (jn @u3 (jn @u4 (jn @u5 (jn @u6 (jn @tA_allD (jn @h1 (jn @h2 (jn @h3 @h4))))))))))))))))))
      · skip
        have e : decide ((⟨fr, to, sq, ak, kd, ep, f, tg⟩ : Pkt) = ⟨fr2, to2, sq2, ak2, kd2, ep2, f2, tg2⟩) = false := by simp [h1,h2,h3]
        rw [e]
        exact rz1 (jn @pktE.eq_1 (jn @itE.eq_1 (jn @t1 (jn @t2 (jn @t3 (jn @t4 (jn @t5 (jn @t6 (jn @u1 (jn @u2 (jn @u3 (jn @u4 (jn @u5 (jn @u6 (jn @tA_allD (jn @h1 (jn @h2 @h3)))))))))))))))))
    · skip
      have e : decide ((⟨fr, to, sq, ak, kd, ep, f, tg⟩ : Pkt) = ⟨fr2, to2, sq2, ak2, kd2, ep2, f2, tg2⟩) = false := by simp [h1,h2]
      rw [e]
      exact rz1 (jn @pktE.eq_1 (jn @itE.eq_1 (jn @t1 (jn @t2 (jn @t3 (jn @t4 (jn @t5 (jn @t6 (jn @u1 (jn @u2 (jn @u3 (jn @u4 (jn @u5 (jn @u6 (jn @tA_allD (jn @h1 @h2))))))))))))))))
  · skip
    have e : decide ((⟨fr, to, sq, ak, kd, ep, f, tg⟩ : Pkt) = ⟨fr2, to2, sq2, ak2, kd2, ep2, f2, tg2⟩) = false := by simp [h1]
    rw [e]
    exact rz1 (jn @pktE.eq_1 (jn @itE.eq_1 (jn @t1 (jn @t2 (jn @t3 (jn @t4 (jn @t5 (jn @t6 (jn @u1 (jn @u2 (jn @u3 (jn @u4 (jn @u5 (jn @u6 (jn @tA_allD @h1)))))))))))))))
end Go.Proofs.YtdbicadncccpoaaDoor

set_option linter.unusedVariables false
set_option linter.unusedSimpArgs false
set_option maxRecDepth 100000
namespace Go.Proofs.YtdbicadncccpoaaDoor
open Go Go.ChangeShapes Go.WideShapes
set_option maxHeartbeats 400000 in
theorem wP_ac (p : Pkt) (h1 : p.fr.size ≤ 140737488352000) (h2 : p.to.size ≤ 140737488352000) (hs : szF p.f) (ht : p.tg.length = 32) :
    AC Tryd.prog noG 7 [.d (.agg (pktE p))] [] (fun v r' => (∃ n : Int, v = .d (.c (.int .i64 n))) ∧ r' = []) := by
  refine AC.pure ?_ (by rintro v ⟨n, rfl⟩; rfl)
  refine AC_of_R (N := 18) (res := [.tmp 2]) ty_ok Tryd.call7 Tryd.func7 rfl rfl rfl (Nat.le_of_ble_eq_true rfl) ?_
  have hw := wF_ac [p.f] 200 (by simp) (by intro x hx; simp only [List.mem_cons, List.not_mem_nil, or_false] at hx; rw [hx]; exact hs) (by decide) (by decide)
  obtain ⟨fr, to, sq, ak, kd, ep, f, tg⟩ := p
  simp only at h1 h2 hw ht
  obtain ⟨t1, t2, t3, t4, t5, t6⟩ := tg32 tg ht
  refine rn1 (jn @pktE.eq_1 (jn @itE.eq_1 (jn @t1 (jn @t2 (jn @t3 (jn @t4 (jn @t5 (jn @t6 @tA_allD)))))))) ?_
  refine HC_plan [13] ty_ok mix (by kernel_rfl) ?_
  refine rn1 (jn @t1 (jn @t2 (jn @t3 (jn @t4 (jn @t5 (jn @t6 @tA_allD)))))) ?_
  refine HO_callX ty_ok [] hw (trivial) rfl ?_
  rintro v r' ⟨⟨n, rfl, _⟩, rfl⟩ _
  refine rn0 ?_
  exact ⟨_, rfl⟩
end Go.Proofs.YtdbicadncccpoaaDoor

set_option linter.unusedVariables false
set_option linter.unusedSimpArgs false
set_option maxRecDepth 100000
namespace Go.Proofs.YtdbicadncccpoaaDoor
open Go Go.ChangeShapes Go.WideShapes
def hdP (s1 s2 : ByteArray) (n1 n2 n3 : Int) : Pkt := ⟨s1, s2, n1, n2, n3, 0, zF, tg0⟩
def hdV (b : List UInt8) : AV := .tup [.d (.agg (pktE (hdP (txt b 0).1 (txt b (txt b 0).2.1).1 (rdInt b (txt b (txt b 0).2.1).2.1).1 (rdInt b (rdInt b (txt b (txt b 0).2.1).2.1).2.1).1 (rdInt b (rdInt b (rdInt b (txt b (txt b 0).2.1).2.1).2.1).2.1).1))),
  .d (.c (.int .i64 (rdInt b (rdInt b (rdInt b (txt b (txt b 0).2.1).2.1).2.1).2.1).2.1)),
  .d (.c (.bool (decide ((txt b 0).2.2 = 0 ∧ (txt b (txt b 0).2.1).2.2 = 0 ∧ (rdInt b (txt b (txt b 0).2.1).2.1).2.2 = 0 ∧ (rdInt b (rdInt b (txt b (txt b 0).2.1).2.1).2.1).2.2 = 0 ∧ (rdInt b (rdInt b (rdInt b (txt b (txt b 0).2.1).2.1).2.1).2.1).2.2 = 0))))]
theorem eq5 (a b c d e : Int) : eqD (List.replicate 5 CK.int) [.c (.int .i64 a), .c (.int .i64 b), .c (.int .i64 c), .c (.int .i64 d), .c (.int .i64 e)] [.c (.int .i64 0), .c (.int .i64 0), .c (.int .i64 0), .c (.int .i64 0), .c (.int .i64 0)] = some (decide (a = 0 ∧ b = 0 ∧ c = 0 ∧ d = 0 ∧ e = 0)) := by
  simp only [List.replicate, eqD_cons, eqD_nil, ckD_int, and2_ss, Bool.decide_and, Bool.and_true]
set_option maxHeartbeats 400000 in
theorem head_ac (b : List UInt8) (hb : b.length ≤ 140737488355000) :
    AC Tryd.prog noG 37 [.d (.sl 1 b.length (bD b))] [] (fun v r' => v = hdV b ∧ r' = []) := by
  refine AC.fit ?_
  refine AC_of_R (N := 59) (res := [.cell 2 33, .tmp 3, .tmp 4]) ty_ok Tryd.call37 Tryd.func37 rfl rfl rfl (Nat.le_of_ble_eq_true rfl) ?_
  have t1 := text_ac b 0 (by decide) (by decide) hb
  have d1 := txt_bd b 0
  rw [hdV]
  have hz : ([UInt8.ofNat 0, UInt8.ofNat 0, UInt8.ofNat 0, UInt8.ofNat 0, UInt8.ofNat 0, UInt8.ofNat 0, UInt8.ofNat 0, UInt8.ofNat 0, UInt8.ofNat 0, UInt8.ofNat 0, UInt8.ofNat 0, UInt8.ofNat 0, UInt8.ofNat 0, UInt8.ofNat 0, UInt8.ofNat 0, UInt8.ofNat 0, UInt8.ofNat 0, UInt8.ofNat 0, UInt8.ofNat 0, UInt8.ofNat 0, UInt8.ofNat 0, UInt8.ofNat 0, UInt8.ofNat 0, UInt8.ofNat 0, UInt8.ofNat 0, UInt8.ofNat 0, UInt8.ofNat 0, UInt8.ofNat 0, UInt8.ofNat 0, UInt8.ofNat 0, UInt8.ofNat 0, UInt8.ofNat 0] : List UInt8) = tg0 := rfl
  obtain ⟨z1, z2, z3, z4, z5, z6⟩ := tg32 tg0 rfl
  refine rn0 ?_
  refine HO_pureA ty_ok t1 ?_
  generalize txt b 0 = x1 at *
  obtain ⟨s1, k1, e1⟩ := x1
  simp only at d1
  have t2 := text_ac b k1 (by omega) (by omega) hb
  have d2 := txt_bd b k1
  simp only [triS]
  refine rn0 ?_
  (repeat (refine And.intro (by omega) ?_))
  refine HO_pureA ty_ok t2 ?_
  generalize txt b k1 = x2 at *
  obtain ⟨s2, k2, e2⟩ := x2
  simp only at d2
  have t3 := int_ac b k2 (by omega) (by omega) hb
  have d3 := rdInt_bd b k2
  simp only [triS]
  refine rn0 ?_
  (repeat (refine And.intro (by omega) ?_))
  refine HO_pureA ty_ok t3 ?_
  generalize rdInt b k2 = x3 at *
  obtain ⟨n1, k3, e3⟩ := x3
  simp only at d3
  have t4 := int_ac b k3 (by omega) (by omega) hb
  have d4 := rdInt_bd b k3
  simp only [tri]
  refine rn0 ?_
  (repeat (refine And.intro (by omega) ?_))
  refine HO_pureA ty_ok t4 ?_
  generalize rdInt b k3 = x4 at *
  obtain ⟨n2, k4, e4⟩ := x4
  simp only at d4
  have t5 := int_ac b k4 (by omega) (by omega) hb
  have d5 := rdInt_bd b k4
  simp only [tri]
  refine rn0 ?_
  (repeat (refine And.intro (by omega) ?_))
  refine HO_pureA ty_ok t5 ?_
  generalize rdInt b k4 = x5 at *
  obtain ⟨n3, k5, e5⟩ := x5
  simp only [tri]
  refine rn0 ?_
  (repeat (refine And.intro (by omega) ?_))
  refine HC_of_HV mix ?_
  refine HV_split 2 5 (by decide) ?_ ?_
  · simp only [addAt]
    refine HV_split 3 5 (by decide) ?_ ?_
    · simp only [addAt]
      refine HV_split 4 5 (by decide) ?_ ?_
      · simp only [addAt]
        refine HV_order [] ty_ok [0, 1, 2, 3, 4, 5, 6, 7] (by kernel_rfl) rfl _ rfl ?_
        simp only [opl_nil', opl_cons', oplC_some, List.getElem?_toArray, List.getElem?_cons_zero, List.getElem?_cons_succ]
        refine rn1 (jn @eq5 (jn @hz (jn @z1 (jn @z2 (jn @z3 (jn @z4 (jn @z5 (jn @z6 @tA_allD)))))))) ?_
        simp only [pktE, hdP, itE, zF, flatE_nil, List.cons_append, List.nil_append, List.length_nil]
        exact fv0 [] []
      · simp only [addAt]
        refine HV_order [] ty_ok [0, 1, 2, 3, 5, 4, 6, 7] (by kernel_rfl) rfl _ rfl ?_
        simp only [opl_nil', opl_cons', oplC_some, List.getElem?_toArray, List.getElem?_cons_zero, List.getElem?_cons_succ]
        refine rn1 (jn @eq5 (jn @hz (jn @z1 (jn @z2 (jn @z3 (jn @z4 (jn @z5 (jn @z6 @tA_allD)))))))) ?_
        simp only [pktE, hdP, itE, zF, flatE_nil, List.cons_append, List.nil_append, List.length_nil]
        exact fv0 [] []
    · simp only [addAt]
      refine HV_order [] ty_ok [0, 1, 2, 5, 3, 4, 6, 7] (by kernel_rfl) rfl _ rfl ?_
      simp only [opl_nil', opl_cons', oplC_some, List.getElem?_toArray, List.getElem?_cons_zero, List.getElem?_cons_succ]
      refine rn1 (jn @eq5 (jn @hz (jn @z1 (jn @z2 (jn @z3 (jn @z4 (jn @z5 (jn @z6 @tA_allD)))))))) ?_
      simp only [pktE, hdP, itE, zF, flatE_nil, List.cons_append, List.nil_append, List.length_nil]
      exact fv0 [] []
  · simp only [addAt]
    refine HV_split 3 5 (by decide) ?_ ?_
    · simp only [addAt]
      refine HV_order [] ty_ok [0, 1, 3, 5, 2, 4, 6, 7] (by kernel_rfl) rfl _ rfl ?_
      simp only [opl_nil', opl_cons', oplC_some, List.getElem?_toArray, List.getElem?_cons_zero, List.getElem?_cons_succ]
      refine rn1 (jn @eq5 (jn @hz (jn @z1 (jn @z2 (jn @z3 (jn @z4 (jn @z5 (jn @z6 @tA_allD)))))))) ?_
      simp only [pktE, hdP, itE, zF, flatE_nil, List.cons_append, List.nil_append, List.length_nil]
      exact fv0 [] []
    · simp only [addAt]
      refine HV_order [] ty_ok [0, 1, 5, 2, 3, 4, 6, 7] (by kernel_rfl) rfl _ rfl ?_
      simp only [opl_nil', opl_cons', oplC_some, List.getElem?_toArray, List.getElem?_cons_zero, List.getElem?_cons_succ]
      refine rn1 (jn @eq5 (jn @hz (jn @z1 (jn @z2 (jn @z3 (jn @z4 (jn @z5 (jn @z6 @tA_allD)))))))) ?_
      simp only [pktE, hdP, itE, zF, flatE_nil, List.cons_append, List.nil_append, List.length_nil]
      exact fv0 [] []
end Go.Proofs.YtdbicadncccpoaaDoor

set_option linter.unusedVariables false
set_option linter.unusedSimpArgs false
set_option maxRecDepth 100000
namespace Go.Proofs.YtdbicadncccpoaaDoor
open Go Go.ChangeShapes Go.WideShapes
def gpV (t : Pkt × Int) : AV := .tup [.d (.agg (pktE t.1)), .d (.c (.int .i64 t.2))]
set_option maxHeartbeats 400000 in
theorem get_ac (b : List UInt8) (hb : b.length ≤ 140737488355000) :
    AC Tryd.prog noG 20 [.d (.sl 1 b.length (bD b))] [] (fun v r' => v = gpV (getP b) ∧ r' = []) := by
  refine AC.fit ?_
  refine AC_of_R (N := 90) (res := [.cell 2 33, .tmp 3]) ty_ok Tryd.call20 Tryd.func20 rfl rfl rfl (Nat.le_of_ble_eq_true rfl) ?_
  have hk := head_ac b hb
  have hz : ([UInt8.ofNat 0, UInt8.ofNat 0, UInt8.ofNat 0, UInt8.ofNat 0, UInt8.ofNat 0, UInt8.ofNat 0, UInt8.ofNat 0, UInt8.ofNat 0, UInt8.ofNat 0, UInt8.ofNat 0, UInt8.ofNat 0, UInt8.ofNat 0, UInt8.ofNat 0, UInt8.ofNat 0, UInt8.ofNat 0, UInt8.ofNat 0, UInt8.ofNat 0, UInt8.ofNat 0, UInt8.ofNat 0, UInt8.ofNat 0, UInt8.ofNat 0, UInt8.ofNat 0, UInt8.ofNat 0, UInt8.ofNat 0, UInt8.ofNat 0, UInt8.ofNat 0, UInt8.ofNat 0, UInt8.ofNat 0, UInt8.ofNat 0, UInt8.ofNat 0, UInt8.ofNat 0, UInt8.ofNat 0] : List UInt8) = tg0 := rfl
  obtain ⟨z1, z2, z3, z4, z5, z6⟩ := tg32 tg0 rfl
  obtain ⟨g, hg⟩ : ∃ g, g = getP b := ⟨_, rfl⟩
  rw [← hg]
  have d5 := rdInt_bd b (rdInt b (rdInt b (txt b (txt b 0).2.1).2.1).2.1).2.1
  rw [hdV] at hk
  unfold getP getC at hg
  generalize rdInt b (rdInt b (rdInt b (txt b (txt b 0).2.1).2.1).2.1).2.1 = x5 at *
  generalize rdInt b (rdInt b (txt b (txt b 0).2.1).2.1).2.1 = x4 at *
  generalize rdInt b (txt b (txt b 0).2.1).2.1 = x3 at *
  generalize txt b (txt b 0).2.1 = x2 at *
  generalize txt b 0 = x1 at *
  obtain ⟨n3, k5, e5⟩ := x5
  simp only at d5 hk hg
  refine rn0 ?_
  refine HO_pureA ty_ok hk ?_
  by_cases hok : x1.2.2 = 0 ∧ x2.2.2 = 0 ∧ x3.2.2 = 0 ∧ x4.2.2 = 0 ∧ e5 = 0
  · rw [if_pos hok] at hg
    unfold getC.getK at hg
    by_cases c0 : n3 = 0
    · rw [if_pos c0] at hg
      simp only at hg
      have km := may_ac (hdP x1.1 x2.1 x3.1 x4.1 0) (by simp [hdP, zF]) rfl
      obtain ⟨m, hm⟩ : ∃ m, m = mayB (hdP x1.1 x2.1 x3.1 x4.1 0) := ⟨_, rfl⟩
      rw [← hm] at km
      simp only [pktE, hdP, itE, zF, flatE_nil, List.length_nil, List.cons_append, List.nil_append] at km
      by_cases cl : k5 = (b.length : Int)
      · refine rn1 (jn @hok (jn @c0 (jn @cl (jn @pktE.eq_1 (jn @hdP.eq_1 (jn @itE.eq_1 (jn @zF.eq_1 (jn @flatE_nil (jn @hz (jn @z1 (jn @z2 (jn @z3 (jn @z4 (jn @z5 (jn @z6 @tA_allD))))))))))))))) ?_
        refine HO_pure ty_ok (km) rfl rfl rfl (by kernel_rfl) (fun _ => rfl) (fun _ => rfl) rfl (by repeat' (first | exact trivial | exact WeakA.refl _ | exact WeakA.toD rfl | exact WeakA.nilD _ | exact WeakA.nils rfl (by repeat' (first | exact trivial | exact .inl rfl | exact .inr ⟨rfl, _, rfl⟩ | refine ⟨?_, ?_⟩)) | refine ⟨?_, ?_⟩)) ?_
        cases m with
        | true =>
          rw [if_pos ⟨cl, hm.symm⟩] at hg
          subst hg
          refine rn1 (jn @z1 (jn @z2 (jn @z3 (jn @z4 (jn @z5 (jn @z6 @tA_allD)))))) ?_
          simp only [gpV, hdP, pktE, itE, zF, flatE_nil, List.cons_append, List.nil_append, List.length_nil]
          exact fv0 [] []
        | false =>
          rw [if_neg (fun h => absurd (hm.trans h.2) (by decide))] at hg
          subst hg
          refine rn1 (jn @z1 (jn @z2 (jn @z3 (jn @z4 (jn @z5 (jn @z6 (jn @tA_allD @hz))))))) ?_
          simp only [gpV, zP, pktE, itE, zF, flatE_nil, List.cons_append, List.nil_append, List.length_nil]
          exact fv0 [] []
      · rw [if_neg (fun h => cl h.1)] at hg
        subst hg
        refine rn1 (jn @hok (jn @c0 (jn @cl (jn @pktE.eq_1 (jn @hdP.eq_1 (jn @itE.eq_1 (jn @zF.eq_1 (jn @flatE_nil (jn @hz (jn @z1 (jn @z2 (jn @z3 (jn @z4 (jn @z5 (jn @z6 @tA_allD))))))))))))))) ?_
        simp only [gpV, zP, pktE, itE, zF, flatE_nil, List.cons_append, List.nil_append, List.length_nil]
        exact fv0 [] []
    · rw [if_neg c0] at hg
      have q1 := int_ac b k5 (by omega) (by omega) hb
      have d6 := rdInt_bd b k5
      generalize rdInt b k5 = x6 at *
      obtain ⟨n4, k6, e6⟩ := x6
      simp only at d6 hg
      refine rn1 (jn @hok (jn @c0 (jn @pktE.eq_1 (jn @hdP.eq_1 (jn @itE.eq_1 (jn @zF.eq_1 (jn @flatE_nil (jn @hz (jn @z1 (jn @z2 (jn @z3 (jn @z4 (jn @z5 (jn @z6 @tA_allD)))))))))))))) ?_
      refine HO_pureA ty_ok q1 ?_
      simp only [tri]
      by_cases ce : e6 = 0
      · rw [if_pos ce] at hg
        by_cases c2 : n3 = 2
        · rw [if_pos c2] at hg
          have f1 := fact_ac b k6 hb (by omega) (by omega)
          have hI := @rdF_inv b k6
          have hl7 : (rdF b k6).1.l.length ≤ 140737488352000 := Nat.le_trans rdF_len (by decide)
          generalize rdF b k6 = x7 at *
          obtain ⟨f, k7, e7⟩ := x7
          simp only at hg hl7
          refine rn1 (jn @ce (jn @c2 (jn @hz (jn @z1 (jn @z2 (jn @z3 (jn @z4 (jn @z5 (jn @z6 @tA_allD))))))))) ?_
          refine HO_pureA ty_ok f1 ?_
          simp only [fcV, fctE]
          by_cases ce7 : e7 = 0
          · obtain ⟨i1, i2, i3⟩ := hI (by rw [ce7])
            have hbd := i3.bd
            by_cases cl7 : k7 + 32 ≤ b.length
            · have g7 : ¬ (b.length : Int) - k7 < 32 := by omega
              refine rn1 (jn @ce7 (jn @g7 (jn @hz (jn @z1 (jn @z2 (jn @z3 (jn @z4 (jn @z5 (jn @z6 @tA_allD))))))))) ?_
              obtain ⟨kn, rfl⟩ : ∃ kn : Nat, k7 = kn := ⟨k7.toNat, by omega⟩
              refine HC_plan [] ty_ok mix (by kernel_rfl) ?_
              refine rn1 (jn @z1 (jn @z2 (jn @z3 (jn @z4 (jn @z5 (jn @z6 @tA_allD)))))) ?_
              (repeat (refine And.intro (by omega) ?_))
              refine HO_copyD (e := 5) (n := 32) (k := 32) ty_ok rfl rfl rfl rfl rfl ⟨by kernel_rfl, by kernel_rfl⟩ (by decide) (Nat.min_eq_right (by omega)) (by kernel_rfl) rfl ?_
              obtain ⟨T, hT⟩ : ∃ T, T = (b.drop kn).take 32 := ⟨_, rfl⟩
              have hTl : T.length = 32 := by rw [hT, List.length_take, List.length_drop]; omega
              obtain ⟨y1, y2, y3, y4, y5, y6⟩ := tg32 T hTl
              have hTd : (bD (b.drop kn)).take 32 = bD T := by rw [hT]; simp [bD, List.map_take]
              have z7 : (tA tg0).drop 32 = [] := List.drop_of_length_le (by omega)
              rw [if_pos ⟨ce7, cl7⟩] at hg
              simp only [Int.toNat_natCast] at hg
              rw [← hT] at hg
              have km := may_ac ⟨x1.1, x2.1, x3.1, x4.1, n3, n4, f, T⟩ hl7 hTl
              obtain ⟨m, hm⟩ : ∃ m, m = mayB ⟨x1.1, x2.1, x3.1, x4.1, n3, n4, f, T⟩ := ⟨_, rfl⟩
              rw [← hm] at km
              simp only [pktE, itE, List.cons_append, List.nil_append, c2] at km
              by_cases cl : (kn : Int) + 32 = (b.length : Int)
              · refine rn1 (jn @cl (jn @hTd (jn @y1 (jn @y2 (jn @y3 (jn @y4 (jn @y5 (jn @y6 (jn @z7 @tA_allD))))))))) ?_
                (repeat (refine And.intro (by omega) ?_))
                refine HO_pure ty_ok (km) rfl rfl rfl (by kernel_rfl) (fun _ => rfl) (fun _ => rfl) rfl (by repeat' (first | exact trivial | exact WeakA.refl _ | exact WeakA.toD rfl | exact WeakA.nilD _ | exact WeakA.nils rfl (by repeat' (first | exact trivial | exact .inl rfl | exact .inr ⟨rfl, _, rfl⟩ | refine ⟨?_, ?_⟩)) | refine ⟨?_, ?_⟩)) ?_
                cases m with
                | true =>
                  rw [if_pos ⟨cl, hm.symm⟩] at hg
                  subst hg
                  refine rn1 (jn @y1 (jn @y2 (jn @y3 (jn @y4 (jn @y5 (jn @y6 @tA_allD)))))) ?_
                  simp only [gpV, pktE, itE, List.cons_append, List.nil_append, c2]
                  exact fv0 [] []
                | false =>
                  rw [if_neg (fun h => absurd (hm.trans h.2) (by decide))] at hg
                  subst hg
                  refine rn1 (jn @z1 (jn @z2 (jn @z3 (jn @z4 (jn @z5 (jn @z6 (jn @y1 (jn @y2 (jn @y3 (jn @y4 (jn @y5 (jn @y6 (jn @tA_allD @hz))))))))))))) ?_
                  simp only [gpV, zP, pktE, itE, zF, flatE_nil, List.cons_append, List.nil_append, List.length_nil]
                  exact fv0 [] []
              · rw [if_neg (fun h => cl h.1)] at hg
                subst hg
                refine rn1 (jn @cl (jn @hTd (jn @y1 (jn @y2 (jn @y3 (jn @y4 (jn @y5 (jn @y6 (jn @hz (jn @z1 (jn @z2 (jn @z3 (jn @z4 (jn @z5 (jn @z6 (jn @z7 @tA_allD)))))))))))))))) ?_
                simp only [gpV, zP, pktE, itE, zF, flatE_nil, List.cons_append, List.nil_append, List.length_nil]
                exact fv0 [] []
            · rw [if_neg (fun h => cl7 h.2)] at hg
              simp only at hg
              subst hg
              have g7 : (b.length : Int) - k7 < 32 := by omega
              refine rn1 (jn @ce7 (jn @g7 (jn @hz (jn @z1 (jn @z2 (jn @z3 (jn @z4 (jn @z5 (jn @z6 @tA_allD))))))))) ?_
              simp only [gpV, zP, pktE, itE, zF, flatE_nil, List.cons_append, List.nil_append, List.length_nil]
              exact fv0 [] []
          · rw [if_neg (fun h => ce7 h.1)] at hg
            simp only at hg
            subst hg
            refine rn1 (jn @ce7 (jn @hz (jn @z1 (jn @z2 (jn @z3 (jn @z4 (jn @z5 (jn @z6 @tA_allD)))))))) ?_
            simp only [gpV, zP, pktE, itE, zF, flatE_nil, List.cons_append, List.nil_append, List.length_nil]
            exact fv0 [] []
        · rw [if_neg c2] at hg
          simp only at hg
          have km := may_ac ⟨x1.1, x2.1, x3.1, x4.1, n3, n4, zF, tg0⟩ (by simp [zF]) rfl
          obtain ⟨m, hm⟩ : ∃ m, m = mayB ⟨x1.1, x2.1, x3.1, x4.1, n3, n4, zF, tg0⟩ := ⟨_, rfl⟩
          rw [← hm] at km
          simp only [pktE, hdP, itE, zF, flatE_nil, List.length_nil, List.cons_append, List.nil_append] at km
          by_cases cl : k6 = (b.length : Int)
          · refine rn1 (jn @ce (jn @c2 (jn @cl (jn @hz (jn @z1 (jn @z2 (jn @z3 (jn @z4 (jn @z5 (jn @z6 @tA_allD)))))))))) ?_
            refine HO_pure ty_ok (km) rfl rfl rfl (by kernel_rfl) (fun _ => rfl) (fun _ => rfl) rfl (by repeat' (first | exact trivial | exact WeakA.refl _ | exact WeakA.toD rfl | exact WeakA.nilD _ | exact WeakA.nils rfl (by repeat' (first | exact trivial | exact .inl rfl | exact .inr ⟨rfl, _, rfl⟩ | refine ⟨?_, ?_⟩)) | refine ⟨?_, ?_⟩)) ?_
            cases m with
            | true =>
              rw [if_pos ⟨cl, hm.symm⟩] at hg
              subst hg
              refine rn1 (jn @z1 (jn @z2 (jn @z3 (jn @z4 (jn @z5 (jn @z6 @tA_allD)))))) ?_
              simp only [gpV, pktE, itE, zF, flatE_nil, List.cons_append, List.nil_append, List.length_nil]
              exact fv0 [] []
            | false =>
              rw [if_neg (fun h => absurd (hm.trans h.2) (by decide))] at hg
              subst hg
              refine rn1 (jn @z1 (jn @z2 (jn @z3 (jn @z4 (jn @z5 (jn @z6 (jn @tA_allD @hz))))))) ?_
              simp only [gpV, zP, pktE, itE, zF, flatE_nil, List.cons_append, List.nil_append, List.length_nil]
              exact fv0 [] []
          · rw [if_neg (fun h => cl h.1)] at hg
            subst hg
            refine rn1 (jn @ce (jn @c2 (jn @cl (jn @hz (jn @z1 (jn @z2 (jn @z3 (jn @z4 (jn @z5 (jn @z6 @tA_allD)))))))))) ?_
            simp only [gpV, zP, pktE, itE, zF, flatE_nil, List.cons_append, List.nil_append, List.length_nil]
            exact fv0 [] []
      · rw [if_neg ce] at hg
        simp only at hg
        subst hg
        refine rn1 (jn @ce (jn @hz (jn @z1 (jn @z2 (jn @z3 (jn @z4 (jn @z5 (jn @z6 @tA_allD)))))))) ?_
        simp only [gpV, zP, pktE, itE, zF, flatE_nil, List.cons_append, List.nil_append, List.length_nil]
        exact fv0 [] []
  · rw [if_neg hok] at hg
    simp only at hg
    subst hg
    refine rn1 (jn @hok (jn @pktE.eq_1 (jn @hdP.eq_1 (jn @itE.eq_1 (jn @zF.eq_1 (jn @flatE_nil (jn @hz (jn @z1 (jn @z2 (jn @z3 (jn @z4 (jn @z5 (jn @z6 @tA_allD))))))))))))) ?_
    simp only [gpV, zP, pktE, itE, zF, flatE_nil, List.cons_append, List.nil_append, List.length_nil]
    exact fv0 [] []
end Go.Proofs.YtdbicadncccpoaaDoor
