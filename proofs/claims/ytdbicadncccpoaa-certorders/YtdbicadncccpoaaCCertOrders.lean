import Derived.Test.YtdbicadncccpoaaCJ16
import Derived.Test.YtdbicadncccpoaaCCMinus
import Derived.Test.YtdbicadncccpoaaCCertMakes
set_option linter.unusedVariables false
set_option linter.unusedSimpArgs false
set_option maxRecDepth 100000
namespace Go.Proofs.Ytdbicadncccpoaa
open Go Go.ChangeShapes Go.WideShapes
/-! CertOrders: of one trail each fact stands once, behind all facts of its body, and the last one is the fact that was asked for. -/
def seenF (c : List Ntr) (i : Nat) : List Fct := (c.take i).map (·.f)
theorem seenF_len {c : List Ntr} {i : Nat} (h : i ≤ c.length) : (seenF c i).length = i := by rw [seenF, List.length_map, List.length_take]; omega
theorem seenF_snoc {c : List Ntr} {i : Nat} (h : i < c.length) : flatE fctE (seenF c (i + 1)) = flatE fctE (seenF c i) ++ fctE c[i].f := by
  rw [seenF, List.take_succ_eq_append_getElem h, List.map_append, flatE_app, ← seenF]; simp [flatE]
theorem done_new {L c : List Ntr} (h : Done L c) {i : Nat} (hi : i < c.length) : c[i].f ∉ seenF c i := by
  intro hm
  rw [seenF, List.map_take] at hm
  obtain ⟨k, hk, he⟩ := List.mem_iff_getElem.1 hm
  rw [List.length_take, List.length_map] at hk
  rw [List.getElem_take, List.getElem_map] at he
  have := List.pairwise_iff_getElem.1 h.nd k i (by rw [List.length_map]; omega) (by rw [List.length_map]; omega) (by omega)
  rw [List.getElem_map, List.getElem_map] at this
  exact this he
def coSt (X : List D) (c : List Ntr) (i : Nat) : List (Nat × AV) := [(5, .d (.sl 2 1 X)), (7, .d (.sl 39 c.length (flE c))), (11, .sl (.own 2) 4 i (flatE fctE (seenF c i))), (12, .d (.c (.int .i64 i)))]
def coRe (i : Nat) : Rs := [none, none, some (.tok (4 * i))]
def coA (X : List D) (c : List Ntr) (e : Int) (q : Bool) : List (Nat × AV) := [(3, .ptr 0 0), (5, .d (.sl 2 1 X)), (7, .d (.sl 39 c.length (flE c))), (8, .d (.c (.int .i64 e))), (10, .d (.c (.bool q)))]
set_option maxHeartbeats 800000 in
theorem certOrders_ac (l : List Ntr) (hl : l.length ≤ 140737488352000) (hs : ∀ x ∈ l, szE x) (f : Fct) (hf : f.l.length ≤ 140737488352000) : AC Try.prog noG 6 [.d (.sl 39 l.length (flE l)), .d (.agg (fctE f))] [] (fun v r' => v = .d (.c (.bool true)) ∧ r' = []) := by
  refine AC.pure ?_ (by rintro v rfl; rfl)
  refine AC_of_R (N := 135) (res := [.tmp 4]) ty_ok Try.call6 Try.func6 rfl rfl rfl (Nat.le_of_ble_eq_true rfl) ?_
  have kw := wE_ac l 300 hl hs (by decide) (by decide)
  refine rn1 @fctE.eq_1 ?_
  refine HO_callX ty_ok [] kw (trivial) rfl ?_
  rintro v r' ⟨⟨n, rfl, _, hn0⟩, rfl⟩ _
  by_cases hn : n > 300
  · refine rn1 @hn ?_
    refine HO_pureA ty_ok ctlive_ac ?_
    exact rz0
  obtain ⟨hc1, hc2⟩ := hn0 (by omega)
  have ho : ∀ x ∈ l, okE x := fun x hx => okE_lt (hs x hx) (hc2 x hx)
  have hK : ∀ k ∈ [(⟨⟨#[97]⟩, l⟩ : Knw)], k.l.length ≤ 300 ∧ ∀ x ∈ k.l, okE x := by
    intro k hk
    rw [List.mem_singleton] at hk; subst hk
    exact ⟨by show l.length ≤ 300; omega, ho⟩
  have ks := sources_ac [⟨⟨#[97]⟩, l⟩] (by simp) hK
  have hS := okS_src' (K := [⟨⟨#[97]⟩, l⟩]) (by simp) hK
  have hF0 := facts_len hK
  have hT := trail_ok ho
  have eS : List.map srcK [⟨⟨#[97]⟩, l⟩] = oneS ⟨#[97]⟩ (trailOf l).1 (trailOf l).2 := rfl
  rw [eS] at ks hS hF0
  have hF : (facts (oneS ⟨#[97]⟩ (trailOf l).1 (trailOf l).2)).length ≤ 100000 := Nat.le_trans hF0 (by simp)
  generalize trailOf l = p at *
  obtain ⟨L, O⟩ := p
  simp only at ks hS hF hT
  have hL : okL L := hT.okL (by omega)
  have km := make_ac _ hS hF ⟨#[97]⟩ f hf
  have hmo := make_one (a := ⟨#[97]⟩) hT f
  have hmL := makeL_ok hS hF ⟨#[97]⟩ f
  have kg := getS_ac (some (L, O)) ⟨hL, hT.inv⟩ f hf
  generalize makeL (oneS ⟨#[97]⟩ L O) ⟨#[97]⟩ f = c at *
  generalize makeE (oneS ⟨#[97]⟩ L O) ⟨#[97]⟩ f = e at *
  have eX : flatE srcE (oneS ⟨#[97]⟩ L O) = [.c (.string ⟨#[97]⟩), .p (trP L O)] := rfl
  have eK : flatE knE [(⟨⟨#[97]⟩, l⟩ : Knw)] = [.c (.string ⟨#[97]⟩), .sl 39 l.length (flE l)] := rfl
  have eP : ptE (some (L, O)) = .p (trP L O) := rfl
  have g1 : hasP (some (L, O)) f = hasT L f := rfl
  have g2 : getP (some (L, O)) f = getT L f := rfl
  rw [eX] at ks km
  rw [eK] at ks
  rw [eP, g1, g2] at kg
  have hx := okE_getT hL f
  have hxf : hasT L f = true → (getT L f).f = f := fun h => by
    obtain ⟨k, hk, _, h2, h3⟩ := get_idx hT.inv h
    rw [h3, h2]
  generalize getT L f = x at *
  have hz : ([UInt8.ofNat 0, UInt8.ofNat 0, UInt8.ofNat 0, UInt8.ofNat 0, UInt8.ofNat 0, UInt8.ofNat 0, UInt8.ofNat 0, UInt8.ofNat 0, UInt8.ofNat 0, UInt8.ofNat 0, UInt8.ofNat 0, UInt8.ofNat 0, UInt8.ofNat 0, UInt8.ofNat 0, UInt8.ofNat 0, UInt8.ofNat 0, UInt8.ofNat 0, UInt8.ofNat 0, UInt8.ofNat 0, UInt8.ofNat 0, UInt8.ofNat 0, UInt8.ofNat 0, UInt8.ofNat 0, UInt8.ofNat 0, UInt8.ofNat 0, UInt8.ofNat 0, UInt8.ofNat 0, UInt8.ofNat 0, UInt8.ofNat 0, UInt8.ofNat 0, UInt8.ofNat 0, UInt8.ofNat 0] : List UInt8) = tgz := rfl
  obtain ⟨z1, z2, z3, z4, z5, z6⟩ := tg32 tgz rfl
  have z7 : (tA tgz).drop 32 = [] := List.drop_of_length_le (by omega)
  obtain ⟨t1, t2, t3, t4, t5, t6⟩ := tg32 x.tg hx.1
  generalize flatE rsE (oneS ⟨#[97]⟩ L O) = Y at *
  generalize hXX : trP L O = TT at *
  rw [show (oneS ⟨#[97]⟩ L O).length = 1 from rfl] at km
  rw [show ([(⟨⟨#[97]⟩, l⟩ : Knw)]).length = 1 from rfl] at ks
  simp only [entE, fctE, List.cons_append, List.nil_append] at km kg
  refine rn1 @hn ?_
  refine HO_pureA ty_ok ks ?_
  refine rn0 ?_
  refine HO_pureA ty_ok km ?_
  refine rn1 (jn @hz (jn @z1 (jn @z2 (jn @z3 (jn @z4 (jn @z5 (jn @z6 @tA_allD))))))) ?_
  refine HC_cutR (coA [.c (.string ⟨#[97]⟩), .p TT] c e (hasT L f)) [fB f, none] ?_ ?_
  · skip
    refine HC_of_HV mix ?_
    refine HV_split 5 9 (by decide) ?_ ?_
    · simp only [addAt]
      refine HV_order [] ty_ok [0, 1, 2, 3, 4, 5, 6, 7, 8, 9, 10, 11] (by kernel_rfl) rfl _ rfl ?_
      simp only [opl_nil', opl_cons', oplC_some, List.getElem?_toArray, List.getElem?_cons_zero, List.getElem?_cons_succ]
      refine rn1 @hXX ?_
      (repeat (refine And.intro (by omega) ?_))
      refine HO_pureA ty_ok kg ?_
      refine rn1 (jn @z1 (jn @z2 (jn @z3 (jn @z4 (jn @z5 (jn @z6 (jn @z7 (jn @t1 (jn @t2 (jn @t3 (jn @t4 (jn @t5 (jn @t6 @tA_allD))))))))))))) ?_
      refine ⟨[0, 1], [], ?_⟩
      exact ft1 (jn @coA.eq_1 (jn @fB.eq_1 (jn @xB.eq_1 (jn @enC.eq_1 @tA_wf))))
    · simp only [addAt]
      refine HV_order [] ty_ok [0, 1, 2, 3, 4, 9, 5, 6, 7, 8, 10, 11] (by kernel_rfl) rfl _ rfl ?_
      simp only [opl_nil', opl_cons', oplC_some, List.getElem?_toArray, List.getElem?_cons_zero, List.getElem?_cons_succ]
      refine rn1 @hXX ?_
      (repeat (refine And.intro (by omega) ?_))
      refine HO_pureA ty_ok kg ?_
      refine rn1 (jn @z1 (jn @z2 (jn @z3 (jn @z4 (jn @z5 (jn @z6 (jn @z7 (jn @t1 (jn @t2 (jn @t3 (jn @t4 (jn @t5 (jn @t6 @tA_allD))))))))))))) ?_
      refine ⟨[0, 1], [], ?_⟩
      exact ft1 (jn @coA.eq_1 (jn @fB.eq_1 (jn @xB.eq_1 (jn @enC.eq_1 @tA_wf))))
  rcases hmo with ⟨hq, rfl, rfl⟩ | ⟨hq, rfl, hD, e0, he0⟩
  · rw [hq]
    have e1 : (flE []).length = 0 := rfl
    refine rn1 (jn @coA.eq_1 @fB.eq_1) ?_
    refine HO_pureA ty_ok ctlive_ac ?_
    exact rz0
  rw [hq]
  have hcl : c.length = e0.length + 1 := by rw [he0]; simp
  have hc0 : ¬ (c.length : Int) = 0 := by omega
  have hc3 : (c.length : Int) - 1 = (e0.length : Int) := by omega
  have hel : e0.length ≤ 1000000 := by have := hmL.1; omega
  have hlt0 : (e0.length : Int) < c.length := by omega
  have hle := flE_len hmL
  have hd := flE_drop hmL e0.length (by omega)
  have hgx : c[e0.length]'(by omega) = x := by subst he0; simp
  rw [hgx] at hd
  have kr := rord_ac x.f f (Nat.le_trans hx.2.1 (by decide)) hf
  rw [ordC_zero.2 (hxf hq)] at kr
  simp only [entE, fctE, List.cons_append, List.nil_append] at hd kr
  refine rn1 (jn @coA.eq_1 @fB.eq_1) ?_
  refine HC_plan [] ty_ok mix (by kernel_rfl) ?_
  refine rn1 (jn @hc0 (jn @hc3 (jn @hlt0 (jn @hd @hle)))) ?_
  (repeat (refine And.intro (by omega) ?_))
  refine HO_pureA ty_ok kr ?_
  refine rn0 ?_
  refine HC_loopR (coSt [.c (.string ⟨#[97]⟩), .p TT] c) coRe (fun i => i ≤ c.length) (fun i => c.length - i) 0 [0, 0, 2] [0] (Nat.zero_le _) ?_ ?_
  · exact ft1 (jn @coSt.eq_1 (jn @coRe.eq_1 (jn @seenF.eq_1 (jn @List.take_zero.{0} @flatE_nil))))
  intro i hi1
  refine HC_of_R ty_ok ?_
  by_cases hlt : i < c.length
  · have hi : (i : Int) < c.length := by omega
    have hd := flE_drop hmL i hlt
    have hy := hmL.2 c[i] (List.getElem_mem hlt)
    have hown := hD.own c[i] (List.getElem_mem hlt)
    have kgi := getS_ac (some (L, O)) ⟨hL, hT.inv⟩ c[i].f (Nat.le_trans hy.2.1 (by decide))
    rw [eP, show hasP (some (L, O)) c[i].f = true from hown.1, show getP (some (L, O)) c[i].f = c[i] from hown.2] at kgi
    have ksm := rsameE_ac c[i] c[i] hy hy
    rw [decide_eq_true rfl] at ksm
    have hsl := seenF_len hi1
    have hsg : ∀ g ∈ seenF c i, g.l.length ≤ 140737488352000 := fun g hg => by
      obtain ⟨w, hw, rfl⟩ := List.mem_map.1 hg
      exact Nat.le_trans (hmL.2 w (List.mem_of_mem_take hw)).2.1 (by decide)
    have khs := has_ac (seenF c i) (by omega) hsg c[i].f (Nat.le_trans hy.2.1 (by decide))
    rw [decide_eq_false (done_new hD hlt)] at khs
    have kmi := minus_ac c[i].body (seenF c i) (by have := hy.2.2.1; omega) (by omega) (fun g hg => Nat.le_trans (hy.2.2.2 g hg) (by decide)) hsg (hD.ord i hlt)
    have hsn := seenF_snoc hlt
    have hsl4 : (flatE fctE (seenF c i)).length = 4 * i := by rw [flatE_len fctE_len, hsl]
    rw [hsl] at khs kmi
    generalize c[i] = y at *
    obtain ⟨u1, u2, u3, u4, u5, u6⟩ := tg32 y.tg hy.1
    simp only [entE, fctE, List.cons_append, List.nil_append] at hd kgi ksm khs hsn
    refine rn1 (jn @coSt.eq_1 (jn @coRe.eq_1 (jn @hi (jn @hz (jn @z1 (jn @z2 (jn @z3 (jn @z4 (jn @z5 (jn @z6 @tA_allD)))))))))) ?_
    refine HC_cutR (coSt [.c (.string ⟨#[97]⟩), .p TT] c i ++ [(13, .ptr 3 0), (14, .d (.c (.bool true)))]) (coRe i ++ [xB y]) ?_ ?_
    · skip
      refine HC_of_HV mix ?_
      refine HV_split 9 13 (by decide) ?_ ?_
      · simp only [addAt]
        refine HV_order [] ty_ok [0, 1, 2, 3, 4, 5, 6, 7, 8, 9, 10, 11, 12, 13, 14, 15] (by kernel_rfl) rfl _ rfl ?_
        simp only [opl_nil', opl_cons', oplC_some, List.getElem?_toArray, List.getElem?_cons_zero, List.getElem?_cons_succ]
        refine rn1 (jn @hi (jn @hd @hle)) ?_
        (repeat (refine And.intro (by omega) ?_))
        refine HO_pureA ty_ok kgi ?_
        refine rn1 (jn @z1 (jn @z2 (jn @z3 (jn @z4 (jn @z5 (jn @z6 (jn @z7 (jn @u1 (jn @u2 (jn @u3 (jn @u4 (jn @u5 (jn @u6 @tA_allD))))))))))))) ?_
        refine ⟨[0, 0, 2, 3], [], ?_⟩
        exact ft1 (jn @coSt.eq_1 (jn @coRe.eq_1 (jn @xB.eq_1 (jn @enC.eq_1 @tA_wf))))
      · simp only [addAt]
        refine HV_order [] ty_ok [0, 1, 2, 3, 4, 5, 6, 7, 8, 13, 9, 10, 11, 12, 14, 15] (by kernel_rfl) rfl _ rfl ?_
        simp only [opl_nil', opl_cons', oplC_some, List.getElem?_toArray, List.getElem?_cons_zero, List.getElem?_cons_succ]
        refine rn1 (jn @hi (jn @hd @hle)) ?_
        (repeat (refine And.intro (by omega) ?_))
        refine HO_pureA ty_ok kgi ?_
        refine rn1 (jn @z1 (jn @z2 (jn @z3 (jn @z4 (jn @z5 (jn @z6 (jn @z7 (jn @u1 (jn @u2 (jn @u3 (jn @u4 (jn @u5 (jn @u6 @tA_allD))))))))))))) ?_
        refine ⟨[0, 0, 2, 3], [], ?_⟩
        exact ft1 (jn @coSt.eq_1 (jn @coRe.eq_1 (jn @xB.eq_1 (jn @enC.eq_1 @tA_wf))))
    refine rn1 (jn @coSt.eq_1 (jn @coRe.eq_1 (jn @xB.eq_1 @enC.eq_1))) ?_
    refine HC_plan [] ty_ok mix (by kernel_rfl) ?_
    have htk : (bD y.tg ++ flE (c.drop (i + 1))).take 32 = bD y.tg := by rw [← u2]; exact List.take_left
    refine rn1 (jn @hi (jn @hd (jn @hle (jn @htk (jn @u1 (jn @u2 (jn @u3 (jn @u4 (jn @u5 (jn @u6 @tA_allD)))))))))) ?_
    (repeat (refine And.intro (by omega) ?_))
    refine HO_pureA ty_ok ksm ?_
    refine rn1 (jn @hi (jn @hd @hle)) ?_
    (repeat (refine And.intro (by omega) ?_))
    refine HO_pureA ty_ok khs ?_
    refine rn1 (jn @hi (jn @hd @hle)) ?_
    (repeat (refine And.intro (by omega) ?_))
    refine HO_pureA ty_ok kmi ?_
    refine rn1 (jn @hi (jn @hd (jn @hle @hsl4))) ?_
    (repeat (refine And.intro (by omega) ?_))
    refine ⟨i + 1, by omega, by omega, [0, 0, 2], [], ?_⟩
    simp only [coSt, coRe, hsn, show 4 * (i + 1) = 4 * i + 4 by omega]
    exact ft1 @coSt.eq_1
  · have hi : ¬ (i : Int) < c.length := by omega
    refine rn1 (jn @coSt.eq_1 (jn @coRe.eq_1 @hi)) ?_
    refine HO_pureA ty_ok ctlive_ac ?_
    exact rz0
end Go.Proofs.Ytdbicadncccpoaa
