/- Parts of the proof: RGet, MailLive, MailPuts. -/
import Derived.Test.YtdbicadncccpoaaDoorCJ13
import Derived.Test.YtdbicadncccpoaaDoorCJ12
import Derived.Test.YtdbicadncccpoaaDoorCJ9
import Derived.Test.YtdbicadncccpoaaDoorCJ2
import Derived.Test.YtdbicadncccpoaaDoorCJ1
set_option linter.unusedVariables false
set_option linter.unusedSimpArgs false
set_option maxRecDepth 100000
namespace Go.Proofs.YtdbicadncccpoaaDoor
open Go Go.ChangeShapes Go.WideShapes
def pkO (s t : ByteArray) (sq ak kd ep : Int) (f : Fct) (tg : List UInt8) : List AV := [.d (.c (.string s)), .d (.c (.string t)), .d (.c (.int .i64 sq)), .d (.c (.int .i64 ak)), .d (.c (.int .i64 kd)), .d (.c (.int .i64 ep)), .d (.c (.string f.a)), .d (.c (.string f.b)), .d (.c (.string f.p)), .d (.sl 3 f.l.length (flatE cstE f.l))] ++ tA tg
def rgSt (b : List UInt8) (at_ : Int) : List (Nat × AV) := [(0, .d (.sl 1 b.length (bD b))), (2, .ptr 0 0), (4, .ptr 1 0), (5, .ptr 2 0), (6, .d (.c (.int .i64 at_)))]
def rgRe (s t : ByteArray) (sq ak kd ep : Int) (f : Fct) (tg : List UInt8) (a b c d : Int) : Rs := [some (.obj (pkO ⟨#[]⟩ ⟨#[]⟩ 0 0 0 0 zF tg0)), some (.obj (pkO s t sq ak kd ep f tg)), some (.obj [.d (.c (.int .i64 a)), .d (.c (.int .i64 b)), .d (.c (.int .i64 c)), .d (.c (.int .i64 d)), .d (.c (.int .i64 0))])]
def rg1 (x : Nat × Int × Bool × ByteArray × ByteArray) : List (Nat × AV) := [(7, .d (.c (.bool x.2.2.1))), (8, .d (.c (.int .i64 x.1)))]
abbrev R2 : Type := Nat × Bool × Int × Int × Int × Int × Int × Int
def rg2 (x : R2) : List (Nat × AV) := [(7, .d (.c (.bool x.2.1))), (12, .d (.c (.int .i64 x.2.2.2.1))), (13, .d (.c (.int .i64 x.1)))]
def rg3 (k : Int) (i : Nat) : List (Nat × AV) := [(18, .d (.c (.int .i64 k))), (20, .d (.c (.int .i64 i)))]
def ldT (T : List UInt8) (i : Nat) : List UInt8 := T.take i ++ List.replicate (32 - i) 0
theorem ldT_len (T : List UInt8) (i : Nat) (hT : T.length = 32) (h : i ≤ 32) : (ldT T i).length = 32 := by
  rw [ldT, List.length_append, List.length_take, List.length_replicate]; omega
theorem ldT_all (T : List UInt8) (hT : T.length = 32) : ldT T 32 = T := by
  rw [ldT, List.take_of_length_le (by omega)]; simp
theorem ldT_set (T : List UInt8) (i : Nat) (hT : T.length = 32) (h : i < 32) : (ldT T i).set i (T.getD i 0) = ldT T (i + 1) := by
  rw [ldT, List.set_append_right _ _ (by rw [List.length_take]; omega), List.length_take, Nat.min_eq_left (by omega), Nat.sub_self, show 32 - i = (32 - (i + 1)) + 1 by omega, List.replicate_succ, List.set_cons_zero, ldT, List.take_succ_eq_append_getElem (by omega), List.append_assoc, List.getD_eq_getElem?_getD, List.getElem?_eq_getElem (by omega)]; rfl
theorem tA_set (l : List UInt8) (o : Nat) (x : UInt8) : (tA l).set o (.d (.c (.int .u8 x.toNat))) = tA (l.set o x) := by rw [tA, tA, bD, bD, List.map_set, List.map_set]
def rgP (o o3 o4 o5 o6 : Bool) (k2 k3 k4 k5 k6 n1 n2 n3 n4 : Int) (x : R2) : Prop :=
  x = (0, o, k2, 3, 0, 0, 0, 0) ∨ o = true ∧ x = (1, o3, k3, 3, n1, 0, 0, 0) ∨ (o = true ∧ o3 = true) ∧ x = (2, o4, k4, 3, n1, n2, 0, 0) ∨ ((o = true ∧ o3 = true ∧ o4 = true) ∧ n3 = 0) ∧ x = (3, o5, k5, 3, n1, n2, n3, 0) ∨ ((o = true ∧ o3 = true ∧ o4 = true) ∧ n3 ≠ 0) ∧ x = (3, o5, k5, 4, n1, n2, n3, 0) ∨ ((o = true ∧ o3 = true ∧ o4 = true ∧ o5 = true) ∧ n3 ≠ 0) ∧ x = (4, o6, k6, 4, n1, n2, n3, n4)
theorem set10 {c0 c1 c2 c3 c4 c5 c6 c7 c8 c9 v : AV} {L : List AV} (i : Nat) : (c0 :: c1 :: c2 :: c3 :: c4 :: c5 :: c6 :: c7 :: c8 :: c9 :: L).set (10 + i) v = c0 :: c1 :: c2 :: c3 :: c4 :: c5 :: c6 :: c7 :: c8 :: c9 :: L.set i v := by
  rw [Nat.add_comm]; rfl
set_option maxHeartbeats 400000 in
theorem rget_ac (b : List UInt8) (hb : b.length ≤ 140737488355000) :
    AC Tryd.prog noG 30 [.d (.sl 1 b.length (bD b))] [] (fun v r' => v = gpV (getP b) ∧ r' = []) := by
  refine AC.fit ?_
  refine AC_of_R (N := 149) (res := [.cell 2 33, .tmp 3]) ty_ok Tryd.call30 Tryd.func30 rfl rfl rfl (Nat.le_of_ble_eq_true rfl) ?_
  have hz : ([UInt8.ofNat 0, UInt8.ofNat 0, UInt8.ofNat 0, UInt8.ofNat 0, UInt8.ofNat 0, UInt8.ofNat 0, UInt8.ofNat 0, UInt8.ofNat 0, UInt8.ofNat 0, UInt8.ofNat 0, UInt8.ofNat 0, UInt8.ofNat 0, UInt8.ofNat 0, UInt8.ofNat 0, UInt8.ofNat 0, UInt8.ofNat 0, UInt8.ofNat 0, UInt8.ofNat 0, UInt8.ofNat 0, UInt8.ofNat 0, UInt8.ofNat 0, UInt8.ofNat 0, UInt8.ofNat 0, UInt8.ofNat 0, UInt8.ofNat 0, UInt8.ofNat 0, UInt8.ofNat 0, UInt8.ofNat 0, UInt8.ofNat 0, UInt8.ofNat 0, UInt8.ofNat 0, UInt8.ofNat 0] : List UInt8) = tg0 := rfl
  obtain ⟨z1, z2, z3, z4, z5, z6⟩ := tg32 tg0 rfl
  obtain ⟨g, hg⟩ : ∃ g, g = getP b := ⟨_, rfl⟩
  rw [← hg]
  unfold getP at hg
  obtain ⟨C, hC⟩ : ∃ C, getC b = C := ⟨_, rfl⟩
  have hC0 := hC
  have t1 := rtext_ac b 0 (by decide) (by decide) hb
  have d1 := txt_bd b 0
  unfold getC at hC0
  generalize txt b 0 = x1 at *
  obtain ⟨s1, k1, e1⟩ := x1
  simp only at d1 hC0
  have t2 := rtext_ac b k1 (by omega) (by omega) hb
  have d2 := txt_bd b k1
  generalize txt b k1 = x2 at *
  obtain ⟨s2, k2, e2⟩ := x2
  simp only at d2 hC0
  have t3 := rint_ac b k2 (by omega) (by omega) hb
  have d3 := rdInt_bd b k2
  generalize rdInt b k2 = x3 at *
  obtain ⟨n1, k3, e3⟩ := x3
  simp only at d3 hC0
  have t4 := rint_ac b k3 (by omega) (by omega) hb
  have d4 := rdInt_bd b k3
  generalize rdInt b k3 = x4 at *
  obtain ⟨n2, k4, e4⟩ := x4
  simp only at d4 hC0
  have t5 := rint_ac b k4 (by omega) (by omega) hb
  have d5 := rdInt_bd b k4
  generalize rdInt b k4 = x5 at *
  obtain ⟨n3, k5, e5⟩ := x5
  simp only at d5 hC0
  rw [← hC0] at hC
  clear hC0
  obtain ⟨o1, ho1⟩ : ∃ o1, decide (e1 = 0) = o1 := ⟨_, rfl⟩
  obtain ⟨o2, ho2⟩ : ∃ o2, decide (e2 = 0) = o2 := ⟨_, rfl⟩
  refine rn0 ?_
  refine HC_loopR (fun x : Nat × Int × Bool × ByteArray × ByteArray => rgSt b x.2.1 ++ rg1 x) (fun x => rgRe x.2.2.2.1 x.2.2.2.2 0 0 0 0 zF tg0 0 0 0 0) (fun x => x = (0, 0, true, ⟨#[]⟩, ⟨#[]⟩) ∨ x = (1, k1, o1, s1, ⟨#[]⟩) ∨ x = (2, k2, o1 && o2, s1, s2)) (fun x => 2 - x.1) (0, 0, true, ⟨#[]⟩, ⟨#[]⟩) [0, 1, 2] [] (.inl rfl) ?_ ?_
  · skip
    exact ft1 (jn @rgSt.eq_1 (jn @rg1.eq_1 (jn @rg2.eq_1 (jn @rg3.eq_1 (jn @rgRe.eq_1 (jn @pkO.eq_1 (jn @zF.eq_1 (jn @flatE_nil (jn @hz @tA_wf)))))))))
  rintro _ (rfl | rfl | rfl)
  · refine HC_of_R ty_ok ?_
    refine rn1 (jn @rgSt.eq_1 (jn @rg1.eq_1 (jn @rg2.eq_1 (jn @rg3.eq_1 (jn @rgRe.eq_1 (jn @pkO.eq_1 (jn @z1 (jn @z2 (jn @z3 (jn @z4 (jn @z5 (jn @z6 (jn @tA_allD @hz))))))))))))) ?_
    refine HO_pureA ty_ok t1 ?_
    simp only [triS]
    refine rn1 (jn @rgSt.eq_1 (jn @rg1.eq_1 (jn @rg2.eq_1 (jn @rg3.eq_1 (jn @rgRe.eq_1 (jn @pkO.eq_1 (jn @z1 (jn @z2 (jn @z3 (jn @z4 (jn @z5 (jn @z6 (jn @tA_allD @ho1))))))))))))) ?_
    (repeat (refine And.intro (by omega) ?_))
    refine ⟨(1, k1, o1, s1, ⟨#[]⟩), .inr (.inl rfl), by simp only; omega, [0, 1, 2], [], ?_⟩
    exact ft1 (jn @rgSt.eq_1 (jn @rg1.eq_1 (jn @rg2.eq_1 (jn @rg3.eq_1 (jn @rgRe.eq_1 (jn @pkO.eq_1 (jn @zF.eq_1 (jn @flatE_nil (jn @hz @tA_wf)))))))))
  · refine HC_of_R ty_ok ?_
    refine rn1 (jn @rgSt.eq_1 (jn @rg1.eq_1 (jn @rg2.eq_1 (jn @rg3.eq_1 (jn @rgRe.eq_1 (jn @pkO.eq_1 (jn @z1 (jn @z2 (jn @z3 (jn @z4 (jn @z5 (jn @z6 (jn @tA_allD @hz))))))))))))) ?_
    refine HO_pureA ty_ok t2 ?_
    simp only [triS]
    cases o1 with
    | false =>
      refine rn1 (jn @rgSt.eq_1 (jn @rg1.eq_1 (jn @rg2.eq_1 (jn @rg3.eq_1 (jn @rgRe.eq_1 (jn @pkO.eq_1 (jn @z1 (jn @z2 (jn @z3 (jn @z4 (jn @z5 (jn @z6 (jn @tA_allD @ho2))))))))))))) ?_
      (repeat (refine And.intro (by omega) ?_))
      refine ⟨(2, k2, false && o2, s1, s2), .inr (.inr rfl), by simp only; omega, [0, 1, 2], [], ?_⟩
      exact ft1 (jn @rgSt.eq_1 (jn @rg1.eq_1 (jn @rg2.eq_1 (jn @rg3.eq_1 (jn @rgRe.eq_1 (jn @pkO.eq_1 (jn @zF.eq_1 (jn @flatE_nil (jn @hz @tA_wf)))))))))
    | true =>
      refine rn1 (jn @rgSt.eq_1 (jn @rg1.eq_1 (jn @rg2.eq_1 (jn @rg3.eq_1 (jn @rgRe.eq_1 (jn @pkO.eq_1 (jn @z1 (jn @z2 (jn @z3 (jn @z4 (jn @z5 (jn @z6 (jn @tA_allD @ho2))))))))))))) ?_
      (repeat (refine And.intro (by omega) ?_))
      refine ⟨(2, k2, true && o2, s1, s2), .inr (.inr rfl), by simp only; omega, [0, 1, 2], [], ?_⟩
      exact ft1 (jn @rgSt.eq_1 (jn @rg1.eq_1 (jn @rg2.eq_1 (jn @rg3.eq_1 (jn @rgRe.eq_1 (jn @pkO.eq_1 (jn @zF.eq_1 (jn @flatE_nil (jn @hz @tA_wf)))))))))
  · refine HC_of_R ty_ok ?_
    have hoo : (o1 && o2) = decide (e1 = 0 ∧ e2 = 0) := by rw [← ho1, ← ho2]; simp
    generalize (o1 && o2) = o at *
    obtain ⟨o3, ho3⟩ : ∃ o3, decide (e3 = 0) = o3 := ⟨_, rfl⟩
    obtain ⟨o4, ho4⟩ : ∃ o4, decide (e4 = 0) = o4 := ⟨_, rfl⟩
    obtain ⟨o5, ho5⟩ : ∃ o5, decide (e5 = 0) = o5 := ⟨_, rfl⟩
    have t6 := rint_ac b k5 (by omega) (by omega) hb
    have d6 := rdInt_bd b k5
    unfold getC.getK at hC
    generalize rdInt b k5 = x6 at *
    obtain ⟨n4, k6, e6⟩ := x6
    simp only at d6 hC
    obtain ⟨o6, ho6⟩ : ∃ o6, decide (e6 = 0) = o6 := ⟨_, rfl⟩
    refine rn1 (jn @rgSt.eq_1 (jn @rg1.eq_1 (jn @rg2.eq_1 (jn @rg3.eq_1 (jn @rgRe.eq_1 (jn @pkO.eq_1 (jn @z1 (jn @z2 (jn @z3 (jn @z4 (jn @z5 (jn @z6 (jn @tA_allD @hz))))))))))))) ?_
    refine HC_loopR (fun x : R2 => rgSt b x.2.2.1 ++ rg2 x) (fun x => rgRe s1 s2 0 0 0 0 zF tg0 x.2.2.2.2.1 x.2.2.2.2.2.1 x.2.2.2.2.2.2.1 x.2.2.2.2.2.2.2) (rgP o o3 o4 o5 o6 k2 k3 k4 k5 k6 n1 n2 n3 n4) (fun x => 5 - x.1) (0, o, k2, 3, 0, 0, 0, 0) [0, 1, 2] [] (.inl rfl) ?_ ?_
    · skip
      exact ft1 (jn @rgSt.eq_1 (jn @rg1.eq_1 (jn @rg2.eq_1 (jn @rg3.eq_1 (jn @rgRe.eq_1 (jn @pkO.eq_1 (jn @zF.eq_1 (jn @flatE_nil (jn @hz @tA_wf)))))))))
    rintro _ (rfl | ⟨h, rfl⟩ | ⟨h, rfl⟩ | ⟨⟨h, hn⟩, rfl⟩ | ⟨⟨h, hn⟩, rfl⟩ | ⟨⟨h, hn⟩, rfl⟩)
    · refine HC_of_R ty_ok ?_
      cases o with
      | false =>
        refine rn1 (jn @rgSt.eq_1 (jn @rg1.eq_1 (jn @rg2.eq_1 (jn @rg3.eq_1 (jn @rgRe.eq_1 (jn @pkO.eq_1 (jn @z1 (jn @z2 (jn @z3 (jn @z4 (jn @z5 (jn @z6 (jn @tA_allD @hz))))))))))))) ?_
        have hF := of_decide_eq_false hoo.symm
        rw [if_neg (fun h => hF ⟨h.1, h.2.1⟩)] at hC
        rw [hC] at hg
        simp only at hg
        subst hg
        simp only [gpV, zP, pktE, itE, zF, flatE_nil, List.cons_append, List.nil_append, List.length_nil]
        exact fv0 [] []
      | true =>
        refine rn1 (jn @rgSt.eq_1 (jn @rg1.eq_1 (jn @rg2.eq_1 (jn @rg3.eq_1 (jn @rgRe.eq_1 (jn @pkO.eq_1 (jn @z1 (jn @z2 (jn @z3 (jn @z4 (jn @z5 (jn @z6 (jn @tA_allD @hz))))))))))))) ?_
        refine HO_pureA ty_ok t3 ?_
        simp only [tri]
        refine rn1 (jn @rgSt.eq_1 (jn @rg1.eq_1 (jn @rg2.eq_1 (jn @rg3.eq_1 (jn @rgRe.eq_1 (jn @pkO.eq_1 (jn @z1 (jn @z2 (jn @z3 (jn @z4 (jn @z5 (jn @z6 (jn @tA_allD @ho3))))))))))))) ?_
        (repeat (refine And.intro (by omega) ?_))
        refine ⟨(1, o3, k3, 3, n1, 0, 0, 0), .inr (.inl ⟨rfl, rfl⟩), by simp only; omega, [0, 1, 2], [], ?_⟩
        exact ft1 (jn @rgSt.eq_1 (jn @rg1.eq_1 (jn @rg2.eq_1 (jn @rg3.eq_1 (jn @rgRe.eq_1 (jn @pkO.eq_1 (jn @zF.eq_1 (jn @flatE_nil (jn @hz @tA_wf)))))))))
    · refine HC_of_R ty_ok ?_
      cases o3 with
      | false =>
        refine rn1 (jn @rgSt.eq_1 (jn @rg1.eq_1 (jn @rg2.eq_1 (jn @rg3.eq_1 (jn @rgRe.eq_1 (jn @pkO.eq_1 (jn @z1 (jn @z2 (jn @z3 (jn @z4 (jn @z5 (jn @z6 (jn @tA_allD @hz))))))))))))) ?_
        have hF := of_decide_eq_false ho3
        rw [if_neg (fun h => hF h.2.2.1)] at hC
        rw [hC] at hg
        simp only at hg
        subst hg
        simp only [gpV, zP, pktE, itE, zF, flatE_nil, List.cons_append, List.nil_append, List.length_nil]
        exact fv0 [] []
      | true =>
        refine rn1 (jn @rgSt.eq_1 (jn @rg1.eq_1 (jn @rg2.eq_1 (jn @rg3.eq_1 (jn @rgRe.eq_1 (jn @pkO.eq_1 (jn @z1 (jn @z2 (jn @z3 (jn @z4 (jn @z5 (jn @z6 (jn @tA_allD @hz))))))))))))) ?_
        refine HO_pureA ty_ok t4 ?_
        simp only [tri]
        refine rn1 (jn @rgSt.eq_1 (jn @rg1.eq_1 (jn @rg2.eq_1 (jn @rg3.eq_1 (jn @rgRe.eq_1 (jn @pkO.eq_1 (jn @z1 (jn @z2 (jn @z3 (jn @z4 (jn @z5 (jn @z6 (jn @tA_allD @ho4))))))))))))) ?_
        (repeat (refine And.intro (by omega) ?_))
        refine ⟨(2, o4, k4, 3, n1, n2, 0, 0), .inr (.inr (.inl ⟨⟨h, rfl⟩, rfl⟩)), by simp only; omega, [0, 1, 2], [], ?_⟩
        exact ft1 (jn @rgSt.eq_1 (jn @rg1.eq_1 (jn @rg2.eq_1 (jn @rg3.eq_1 (jn @rgRe.eq_1 (jn @pkO.eq_1 (jn @zF.eq_1 (jn @flatE_nil (jn @hz @tA_wf)))))))))
    · refine HC_of_R ty_ok ?_
      cases o4 with
      | false =>
        refine rn1 (jn @rgSt.eq_1 (jn @rg1.eq_1 (jn @rg2.eq_1 (jn @rg3.eq_1 (jn @rgRe.eq_1 (jn @pkO.eq_1 (jn @z1 (jn @z2 (jn @z3 (jn @z4 (jn @z5 (jn @z6 (jn @tA_allD @hz))))))))))))) ?_
        have hF := of_decide_eq_false ho4
        rw [if_neg (fun h => hF h.2.2.2.1)] at hC
        rw [hC] at hg
        simp only at hg
        subst hg
        simp only [gpV, zP, pktE, itE, zF, flatE_nil, List.cons_append, List.nil_append, List.length_nil]
        exact fv0 [] []
      | true =>
        refine rn1 (jn @rgSt.eq_1 (jn @rg1.eq_1 (jn @rg2.eq_1 (jn @rg3.eq_1 (jn @rgRe.eq_1 (jn @pkO.eq_1 (jn @z1 (jn @z2 (jn @z3 (jn @z4 (jn @z5 (jn @z6 (jn @tA_allD @hz))))))))))))) ?_
        refine HO_pureA ty_ok t5 ?_
        simp only [tri]
        by_cases hn : n3 = 0
        · subst hn
          refine rn1 (jn @rgSt.eq_1 (jn @rg1.eq_1 (jn @rg2.eq_1 (jn @rg3.eq_1 (jn @rgRe.eq_1 (jn @pkO.eq_1 (jn @z1 (jn @z2 (jn @z3 (jn @z4 (jn @z5 (jn @z6 (jn @tA_allD @ho5))))))))))))) ?_
          (repeat (refine And.intro (by omega) ?_))
          refine ⟨(3, o5, k5, 3, n1, n2, 0, 0), .inr (.inr (.inr (.inl ⟨⟨⟨h.1, h.2, rfl⟩, rfl⟩, rfl⟩))), by simp only; omega, [0, 1, 2], [], ?_⟩
          exact ft1 (jn @rgSt.eq_1 (jn @rg1.eq_1 (jn @rg2.eq_1 (jn @rg3.eq_1 (jn @rgRe.eq_1 (jn @pkO.eq_1 (jn @zF.eq_1 (jn @flatE_nil (jn @hz @tA_wf)))))))))
        · skip
          refine rn1 (jn @rgSt.eq_1 (jn @rg1.eq_1 (jn @rg2.eq_1 (jn @rg3.eq_1 (jn @rgRe.eq_1 (jn @pkO.eq_1 (jn @z1 (jn @z2 (jn @z3 (jn @z4 (jn @z5 (jn @z6 (jn @tA_allD (jn @ho5 @hn)))))))))))))) ?_
          (repeat (refine And.intro (by omega) ?_))
          refine ⟨(3, o5, k5, 4, n1, n2, n3, 0), .inr (.inr (.inr (.inr (.inl ⟨⟨⟨h.1, h.2, rfl⟩, hn⟩, rfl⟩)))), by simp only; omega, [0, 1, 2], [], ?_⟩
          exact ft1 (jn @rgSt.eq_1 (jn @rg1.eq_1 (jn @rg2.eq_1 (jn @rg3.eq_1 (jn @rgRe.eq_1 (jn @pkO.eq_1 (jn @zF.eq_1 (jn @flatE_nil (jn @hz @tA_wf)))))))))
    · refine HC_of_R ty_ok ?_
      cases o5 with
      | false =>
        refine rn1 (jn @rgSt.eq_1 (jn @rg1.eq_1 (jn @rg2.eq_1 (jn @rg3.eq_1 (jn @rgRe.eq_1 (jn @pkO.eq_1 (jn @z1 (jn @z2 (jn @z3 (jn @z4 (jn @z5 (jn @z6 (jn @tA_allD @hz))))))))))))) ?_
        have hF := of_decide_eq_false ho5
        rw [if_neg (fun h => hF h.2.2.2.2)] at hC
        rw [hC] at hg
        simp only at hg
        subst hg
        simp only [gpV, zP, pktE, itE, zF, flatE_nil, List.cons_append, List.nil_append, List.length_nil]
        exact fv0 [] []
      | true =>
        obtain ⟨h0, h3, h4⟩ := h
        subst h0 h3 h4 hn
        have hok := of_decide_eq_true hoo.symm
        rw [if_pos ⟨hok.1, hok.2, of_decide_eq_true ho3, of_decide_eq_true ho4, of_decide_eq_true ho5⟩, if_pos rfl] at hC
        have hl : zF.l.length ≤ 140737488352000 := by simp [zF]
        refine rn1 (jn @rgSt.eq_1 (jn @rg1.eq_1 (jn @rg2.eq_1 (jn @rg3.eq_1 (jn @rgRe.eq_1 (jn @pkO.eq_1 (jn @z1 (jn @z2 (jn @z3 (jn @z4 (jn @z5 (jn @z6 (jn @tA_allD @hz))))))))))))) ?_
        refine HC_cutR (rgSt b k5) (rgRe s1 s2 n1 n2 0 0 zF tg0 n1 n2 0 0) ?_ ?_
        · skip
          refine HC_of_HV mix ?_
          refine HV_split 3 6 (by decide) ?_ ?_
          · simp only [addAt]
            refine HV_order [] ty_ok [0, 1, 2, 3, 4, 5, 6, 7, 8, 9] (by kernel_rfl) rfl _ rfl ?_
            simp only [opl_nil', opl_cons', oplC_some, List.getElem?_toArray, List.getElem?_cons_zero, List.getElem?_cons_succ]
            refine rn1 (jn @rgSt.eq_1 (jn @rg1.eq_1 (jn @rg2.eq_1 (jn @rg3.eq_1 (jn @rgRe.eq_1 (jn @pkO.eq_1 (jn @z1 (jn @z2 (jn @z3 (jn @z4 (jn @z5 (jn @z6 (jn @tA_allD @hz))))))))))))) ?_
            (repeat (refine And.intro (by omega) ?_))
            refine ⟨[0, 1, 2], [], ?_⟩
            exact ft1 (jn @rgSt.eq_1 (jn @rg1.eq_1 (jn @rg2.eq_1 (jn @rg3.eq_1 (jn @rgRe.eq_1 (jn @pkO.eq_1 (jn @zF.eq_1 (jn @flatE_nil (jn @hz @tA_wf)))))))))
          · simp only [addAt]
            refine HV_order [] ty_ok [0, 1, 2, 4, 5, 6, 3, 7, 8, 9] (by kernel_rfl) rfl _ rfl ?_
            simp only [opl_nil', opl_cons', oplC_some, List.getElem?_toArray, List.getElem?_cons_zero, List.getElem?_cons_succ]
            refine rn1 (jn @rgSt.eq_1 (jn @rg1.eq_1 (jn @rg2.eq_1 (jn @rg3.eq_1 (jn @rgRe.eq_1 (jn @pkO.eq_1 (jn @z1 (jn @z2 (jn @z3 (jn @z4 (jn @z5 (jn @z6 (jn @tA_allD @hz))))))))))))) ?_
            (repeat (refine And.intro (by omega) ?_))
            refine ⟨[0, 1, 2], [], ?_⟩
            exact ft1 (jn @rgSt.eq_1 (jn @rg1.eq_1 (jn @rg2.eq_1 (jn @rg3.eq_1 (jn @rgRe.eq_1 (jn @pkO.eq_1 (jn @zF.eq_1 (jn @flatE_nil (jn @hz @tA_wf)))))))))
        refine rn1 (jn @rgSt.eq_1 (jn @rg1.eq_1 (jn @rg2.eq_1 (jn @rg3.eq_1 (jn @rgRe.eq_1 (jn @pkO.eq_1 (jn @z1 (jn @z2 (jn @z3 (jn @z4 (jn @z5 (jn @z6 (jn @tA_allD @hz))))))))))))) ?_
        refine HC_cutR (rgSt b k5) (rgRe s1 s2 n1 n2 0 0 zF tg0 n1 n2 0 0) ?_ ?_
        · skip
          refine HC_of_HV mix ?_
          refine HV_split 3 7 (by decide) ?_ ?_
          · simp only [addAt]
            refine HV_order [] ty_ok [0, 1, 2, 3, 4, 5, 6, 7, 8, 9, 10, 11] (by kernel_rfl) rfl _ rfl ?_
            simp only [opl_nil', opl_cons', oplC_some, List.getElem?_toArray, List.getElem?_cons_zero, List.getElem?_cons_succ]
            refine rn1 (jn @rgSt.eq_1 (jn @rg1.eq_1 (jn @rg2.eq_1 (jn @rg3.eq_1 (jn @rgRe.eq_1 (jn @pkO.eq_1 (jn @z1 (jn @z2 (jn @z3 (jn @z4 (jn @z5 (jn @z6 (jn @tA_allD @hz))))))))))))) ?_
            (repeat (refine And.intro (by omega) ?_))
            refine ⟨[0, 1, 2], [], ?_⟩
            exact ft1 (jn @rgSt.eq_1 (jn @rg1.eq_1 (jn @rg2.eq_1 (jn @rg3.eq_1 (jn @rgRe.eq_1 (jn @pkO.eq_1 (jn @zF.eq_1 (jn @flatE_nil (jn @hz @tA_wf)))))))))
          · simp only [addAt]
            refine HV_order [] ty_ok [0, 1, 2, 4, 5, 6, 7, 3, 8, 9, 10, 11] (by kernel_rfl) rfl _ rfl ?_
            simp only [opl_nil', opl_cons', oplC_some, List.getElem?_toArray, List.getElem?_cons_zero, List.getElem?_cons_succ]
            refine rn1 (jn @rgSt.eq_1 (jn @rg1.eq_1 (jn @rg2.eq_1 (jn @rg3.eq_1 (jn @rgRe.eq_1 (jn @pkO.eq_1 (jn @z1 (jn @z2 (jn @z3 (jn @z4 (jn @z5 (jn @z6 (jn @tA_allD @hz))))))))))))) ?_
            (repeat (refine And.intro (by omega) ?_))
            refine ⟨[0, 1, 2], [], ?_⟩
            exact ft1 (jn @rgSt.eq_1 (jn @rg1.eq_1 (jn @rg2.eq_1 (jn @rg3.eq_1 (jn @rgRe.eq_1 (jn @pkO.eq_1 (jn @zF.eq_1 (jn @flatE_nil (jn @hz @tA_wf)))))))))
        refine rn1 (jn @rgSt.eq_1 (jn @rg1.eq_1 (jn @rg2.eq_1 (jn @rg3.eq_1 (jn @rgRe.eq_1 (jn @pkO.eq_1 (jn @z1 (jn @z2 (jn @z3 (jn @z4 (jn @z5 (jn @z6 (jn @tA_allD @hz))))))))))))) ?_
        (repeat (refine And.intro (by omega) ?_))
        obtain ⟨m, hm⟩ : ∃ m, m = mayB ⟨s1,s2,n1,n2,0,0,zF,tg0⟩ := ⟨_, rfl⟩
        have hA := getC_all hC
        have kp := rput_ac ⟨s1,s2,n1,n2,0,0,zF,tg0⟩ hl (getC_at hC).1
        rw [hC] at hg
        simp only [← hm] at hg
        rw [ptV] at kp
        simp only [pktE, itE, zF, flatE_nil, List.length_nil, List.cons_append, List.nil_append] at kp
        cases m with
        | false =>
          have e1 : putX ⟨s1,s2,n1,n2,0,0,zF,tg0⟩ = [] := by rw [putX, ← hm]; rfl
          have e2 : putE ⟨s1,s2,n1,n2,0,0,zF,tg0⟩ = 2 := by rw [putE, ← hm]; rfl
          try simp only [zF] at e1 e2
          rw [e1, e2] at kp
          rw [if_neg (fun h => absurd h.2 (by decide))] at hg
          subst hg
          refine HO_pureA ty_ok kp ?_
          refine rn1 (jn @rgSt.eq_1 (jn @rg1.eq_1 (jn @rg2.eq_1 (jn @rg3.eq_1 (jn @rgRe.eq_1 (jn @pkO.eq_1 (jn @z1 (jn @z2 (jn @z3 (jn @z4 (jn @z5 (jn @z6 (jn @tA_allD @hz))))))))))))) ?_
          simp only [gpV, zP, pktE, itE, zF, flatE_nil, List.cons_append, List.nil_append, List.length_nil]
          exact fv0 [] []
        | true =>
          have e1 : putX ⟨s1,s2,n1,n2,0,0,zF,tg0⟩ = WP ⟨s1,s2,n1,n2,0,0,zF,tg0⟩ := by rw [putX, ← hm, ← putP_W]; rfl
          have e2 : putE ⟨s1,s2,n1,n2,0,0,zF,tg0⟩ = 0 := by rw [putE, ← hm]; rfl
          try simp only [zF] at e1 e2 hA
          rw [e1, e2] at kp
          by_cases hW : k5 = (b.length : Int)
          · rw [hA.1 hW] at kp
            rw [if_pos ⟨hW, rfl⟩] at hg
            subst hg
            refine HO_pureA ty_ok kp ?_
            refine rn1 (jn @rgSt.eq_1 (jn @rg1.eq_1 (jn @rg2.eq_1 (jn @rg3.eq_1 (jn @rgRe.eq_1 (jn @pkO.eq_1 (jn @z1 (jn @z2 (jn @z3 (jn @z4 (jn @z5 (jn @z6 (jn @tA_allD (jn @hz @hz)))))))))))))) ?_
            simp only [gpV, pktE, itE, zF, flatE_nil, List.cons_append, List.nil_append, List.length_nil]
            exact fv0 [] []
          · have hV := fun h => hW (hA.2 h)
            rw [if_neg (fun h => hW h.1)] at hg
            subst hg
            generalize WP _ = W at *
            have hne : ¬ ((⟨W.toArray⟩ : ByteArray) = ⟨b.toArray⟩) := by
              intro h; exact hV (by simpa using h)
            refine HO_pureA ty_ok kp ?_
            refine rn1 (jn @rgSt.eq_1 (jn @rg1.eq_1 (jn @rg2.eq_1 (jn @rg3.eq_1 (jn @rgRe.eq_1 (jn @pkO.eq_1 (jn @z1 (jn @z2 (jn @z3 (jn @z4 (jn @z5 (jn @z6 (jn @tA_allD (jn @hz @hne)))))))))))))) ?_
            simp only [gpV, zP, pktE, itE, zF, flatE_nil, List.cons_append, List.nil_append, List.length_nil]
            exact fv0 [] []
    · refine HC_of_R ty_ok ?_
      cases o5 with
      | false =>
        refine rn1 (jn @rgSt.eq_1 (jn @rg1.eq_1 (jn @rg2.eq_1 (jn @rg3.eq_1 (jn @rgRe.eq_1 (jn @pkO.eq_1 (jn @z1 (jn @z2 (jn @z3 (jn @z4 (jn @z5 (jn @z6 (jn @tA_allD @hz))))))))))))) ?_
        have hF := of_decide_eq_false ho5
        rw [if_neg (fun h => hF h.2.2.2.2)] at hC
        rw [hC] at hg
        simp only at hg
        subst hg
        simp only [gpV, zP, pktE, itE, zF, flatE_nil, List.cons_append, List.nil_append, List.length_nil]
        exact fv0 [] []
      | true =>
        obtain ⟨h0, h3, h4⟩ := h
        refine rn1 (jn @rgSt.eq_1 (jn @rg1.eq_1 (jn @rg2.eq_1 (jn @rg3.eq_1 (jn @rgRe.eq_1 (jn @pkO.eq_1 (jn @z1 (jn @z2 (jn @z3 (jn @z4 (jn @z5 (jn @z6 (jn @tA_allD @hz))))))))))))) ?_
        refine HO_pureA ty_ok t6 ?_
        simp only [tri]
        refine rn1 (jn @rgSt.eq_1 (jn @rg1.eq_1 (jn @rg2.eq_1 (jn @rg3.eq_1 (jn @rgRe.eq_1 (jn @pkO.eq_1 (jn @z1 (jn @z2 (jn @z3 (jn @z4 (jn @z5 (jn @z6 (jn @tA_allD @ho6))))))))))))) ?_
        (repeat (refine And.intro (by omega) ?_))
        refine ⟨(4, o6, k6, 4, n1, n2, n3, n4), .inr (.inr (.inr (.inr (.inr ⟨⟨⟨h0, h3, h4, rfl⟩, hn⟩, rfl⟩)))), by simp only; omega, [0, 1, 2], [], ?_⟩
        exact ft1 (jn @rgSt.eq_1 (jn @rg1.eq_1 (jn @rg2.eq_1 (jn @rg3.eq_1 (jn @rgRe.eq_1 (jn @pkO.eq_1 (jn @zF.eq_1 (jn @flatE_nil (jn @hz @tA_wf)))))))))
    · refine HC_of_R ty_ok ?_
      obtain ⟨h0, h3, h4, h5⟩ := h
      subst h0 h3 h4 h5
      have hok := of_decide_eq_true hoo.symm
      rw [if_pos ⟨hok.1, hok.2, of_decide_eq_true ho3, of_decide_eq_true ho4, of_decide_eq_true ho5⟩, if_neg hn] at hC
      cases o6 with
      | false =>
        refine rn1 (jn @rgSt.eq_1 (jn @rg1.eq_1 (jn @rg2.eq_1 (jn @rg3.eq_1 (jn @rgRe.eq_1 (jn @pkO.eq_1 (jn @z1 (jn @z2 (jn @z3 (jn @z4 (jn @z5 (jn @z6 (jn @tA_allD @hz))))))))))))) ?_
        have hF := of_decide_eq_false ho6
        rw [if_neg hF] at hC
        rw [hC] at hg
        simp only at hg
        subst hg
        simp only [gpV, zP, pktE, itE, zF, flatE_nil, List.cons_append, List.nil_append, List.length_nil]
        exact fv0 [] []
      | true =>
        rw [if_pos (of_decide_eq_true ho6)] at hC
        refine rn1 (jn @rgSt.eq_1 (jn @rg1.eq_1 (jn @rg2.eq_1 (jn @rg3.eq_1 (jn @rgRe.eq_1 (jn @pkO.eq_1 (jn @z1 (jn @z2 (jn @z3 (jn @z4 (jn @z5 (jn @z6 (jn @tA_allD @hz))))))))))))) ?_
        refine HC_cutR (rgSt b k6) (rgRe s1 s2 n1 n2 0 0 zF tg0 n1 n2 n3 n4) ?_ ?_
        · skip
          refine HC_of_HV mix ?_
          refine HV_split 3 6 (by decide) ?_ ?_
          · simp only [addAt]
            refine HV_order [] ty_ok [0, 1, 2, 3, 4, 5, 6, 7, 8, 9] (by kernel_rfl) rfl _ rfl ?_
            simp only [opl_nil', opl_cons', oplC_some, List.getElem?_toArray, List.getElem?_cons_zero, List.getElem?_cons_succ]
            refine rn1 (jn @rgSt.eq_1 (jn @rg1.eq_1 (jn @rg2.eq_1 (jn @rg3.eq_1 (jn @rgRe.eq_1 (jn @pkO.eq_1 (jn @z1 (jn @z2 (jn @z3 (jn @z4 (jn @z5 (jn @z6 (jn @tA_allD @hz))))))))))))) ?_
            (repeat (refine And.intro (by omega) ?_))
            refine ⟨[0, 1, 2], [], ?_⟩
            exact ft1 (jn @rgSt.eq_1 (jn @rg1.eq_1 (jn @rg2.eq_1 (jn @rg3.eq_1 (jn @rgRe.eq_1 (jn @pkO.eq_1 (jn @zF.eq_1 (jn @flatE_nil (jn @hz @tA_wf)))))))))
          · simp only [addAt]
            refine HV_order [] ty_ok [0, 1, 2, 4, 5, 6, 3, 7, 8, 9] (by kernel_rfl) rfl _ rfl ?_
            simp only [opl_nil', opl_cons', oplC_some, List.getElem?_toArray, List.getElem?_cons_zero, List.getElem?_cons_succ]
            refine rn1 (jn @rgSt.eq_1 (jn @rg1.eq_1 (jn @rg2.eq_1 (jn @rg3.eq_1 (jn @rgRe.eq_1 (jn @pkO.eq_1 (jn @z1 (jn @z2 (jn @z3 (jn @z4 (jn @z5 (jn @z6 (jn @tA_allD @hz))))))))))))) ?_
            (repeat (refine And.intro (by omega) ?_))
            refine ⟨[0, 1, 2], [], ?_⟩
            exact ft1 (jn @rgSt.eq_1 (jn @rg1.eq_1 (jn @rg2.eq_1 (jn @rg3.eq_1 (jn @rgRe.eq_1 (jn @pkO.eq_1 (jn @zF.eq_1 (jn @flatE_nil (jn @hz @tA_wf)))))))))
        refine rn1 (jn @rgSt.eq_1 (jn @rg1.eq_1 (jn @rg2.eq_1 (jn @rg3.eq_1 (jn @rgRe.eq_1 (jn @pkO.eq_1 (jn @z1 (jn @z2 (jn @z3 (jn @z4 (jn @z5 (jn @z6 (jn @tA_allD @hz))))))))))))) ?_
        refine HC_cutR (rgSt b k6) (rgRe s1 s2 n1 n2 n3 n4 zF tg0 n1 n2 n3 n4) ?_ ?_
        · skip
          refine HC_of_HV mix ?_
          refine HV_split 3 7 (by decide) ?_ ?_
          · simp only [addAt]
            refine HV_order [] ty_ok [0, 1, 2, 3, 4, 5, 6, 7, 8, 9, 10, 11] (by kernel_rfl) rfl _ rfl ?_
            simp only [opl_nil', opl_cons', oplC_some, List.getElem?_toArray, List.getElem?_cons_zero, List.getElem?_cons_succ]
            refine rn1 (jn @rgSt.eq_1 (jn @rg1.eq_1 (jn @rg2.eq_1 (jn @rg3.eq_1 (jn @rgRe.eq_1 (jn @pkO.eq_1 (jn @z1 (jn @z2 (jn @z3 (jn @z4 (jn @z5 (jn @z6 (jn @tA_allD @hz))))))))))))) ?_
            (repeat (refine And.intro (by omega) ?_))
            refine ⟨[0, 1, 2], [], ?_⟩
            exact ft1 (jn @rgSt.eq_1 (jn @rg1.eq_1 (jn @rg2.eq_1 (jn @rg3.eq_1 (jn @rgRe.eq_1 (jn @pkO.eq_1 (jn @zF.eq_1 (jn @flatE_nil (jn @hz @tA_wf)))))))))
          · simp only [addAt]
            refine HV_order [] ty_ok [0, 1, 2, 4, 5, 6, 7, 3, 8, 9, 10, 11] (by kernel_rfl) rfl _ rfl ?_
            simp only [opl_nil', opl_cons', oplC_some, List.getElem?_toArray, List.getElem?_cons_zero, List.getElem?_cons_succ]
            refine rn1 (jn @rgSt.eq_1 (jn @rg1.eq_1 (jn @rg2.eq_1 (jn @rg3.eq_1 (jn @rgRe.eq_1 (jn @pkO.eq_1 (jn @z1 (jn @z2 (jn @z3 (jn @z4 (jn @z5 (jn @z6 (jn @tA_allD @hz))))))))))))) ?_
            (repeat (refine And.intro (by omega) ?_))
            refine ⟨[0, 1, 2], [], ?_⟩
            exact ft1 (jn @rgSt.eq_1 (jn @rg1.eq_1 (jn @rg2.eq_1 (jn @rg3.eq_1 (jn @rgRe.eq_1 (jn @pkO.eq_1 (jn @zF.eq_1 (jn @flatE_nil (jn @hz @tA_wf)))))))))
        by_cases c2 : n3 = 2
        · rw [if_pos c2] at hC
          subst c2
          have f1 := rrfact_ac b k6 hb (by omega) (by omega)
          have hI := @rdF_inv b k6
          have hl : (rdF b k6).1.l.length ≤ 140737488352000 := Nat.le_trans rdF_len (by decide)
          generalize rdF b k6 = x7 at *
          obtain ⟨f, k7, e7⟩ := x7
          simp only at hC hl
          refine rn1 (jn @rgSt.eq_1 (jn @rg1.eq_1 (jn @rg2.eq_1 (jn @rg3.eq_1 (jn @rgRe.eq_1 (jn @pkO.eq_1 (jn @z1 (jn @z2 (jn @z3 (jn @z4 (jn @z5 (jn @z6 (jn @tA_allD @hz))))))))))))) ?_
          (repeat (refine And.intro (by omega) ?_))
          refine HO_pureA ty_ok f1 ?_
          simp only [fcV, fctE]
          by_cases ce7 : e7 = 0
          · obtain ⟨i1, i2, i3⟩ := hI (by rw [ce7])
            have hbd := i3.bd
            by_cases cl7 : k7 + 32 ≤ b.length
            · have g7 : ¬ (b.length : Int) - k7 < 32 := by omega
              obtain ⟨kn, rfl⟩ : ∃ kn : Nat, k7 = kn := ⟨k7.toNat, by omega⟩
              rw [if_pos ⟨ce7, cl7⟩] at hC
              simp only [Int.toNat_natCast] at hC
              obtain ⟨T, hT⟩ : ∃ T, T = (b.drop kn).take 32 := ⟨_, rfl⟩
              have hTl : T.length = 32 := by rw [hT, List.length_take, List.length_drop]; omega
              rw [← hT] at hC
              have l0 : ldT T 0 = tg0 := rfl
              refine rn1 (jn @rgSt.eq_1 (jn @rg1.eq_1 (jn @rg2.eq_1 (jn @rg3.eq_1 (jn @rgRe.eq_1 (jn @pkO.eq_1 (jn @z1 (jn @z2 (jn @z3 (jn @z4 (jn @z5 (jn @z6 (jn @tA_allD (jn @ce7 (jn @g7 @hz))))))))))))))) ?_
              (repeat (refine And.intro (by omega) ?_))
              refine HC_loopR (fun i : Nat => rgSt b k6 ++ rg3 kn i) (fun i => rgRe s1 s2 n1 n2 2 n4 f (ldT T i) n1 n2 2 n4 ++ [none]) (fun i => i ≤ 32) (fun i => 32 - i) 0 [0, 1, 2, 0] [] (by omega) ?_ ?_
              · exact ft1 (jn @rgSt.eq_1 (jn @rg1.eq_1 (jn @rg2.eq_1 (jn @rg3.eq_1 (jn @rgRe.eq_1 (jn @pkO.eq_1 (jn @zF.eq_1 (jn @flatE_nil (jn @hz (jn @tA_wf @l0))))))))))
              intro i hi
              refine HC_of_R ty_ok ?_
              have hLl := ldT_len T i hTl hi
              obtain ⟨y1, y2, y3, y4, y5, y6⟩ := tg32 (ldT T i) hLl
              by_cases hlt : i < 32
              · have hI : (i : Int) < 32 := by omega
                have hgT : b.getD (kn + i) 0 = T.getD i 0 := by
                  rw [hT, List.getD_eq_getElem?_getD, List.getD_eq_getElem?_getD, List.getElem?_take, if_pos hlt, List.getElem?_drop]
                have e0 : ((kn : Int) + (i : Int)).toNat = kn + i := by omega
                have hS : (ldT T i).set i (b.getD (kn + i) 0) = ldT T (i + 1) := by rw [hgT]; exact ldT_set T i hTl hlt
                refine rn1 (jn @rgSt.eq_1 (jn @rg1.eq_1 (jn @rg2.eq_1 (jn @rg3.eq_1 (jn @rgRe.eq_1 (jn @pkO.eq_1 (jn @z1 (jn @z2 (jn @z3 (jn @z4 (jn @z5 (jn @z6 (jn @tA_allD (jn @hI (jn @y1 (jn @y2 (jn @y3 (jn @y4 (jn @y5 (jn @y6 (jn @set10 (jn @e0 (jn @tA_set @hS))))))))))))))))))))))) ?_
                (repeat (refine And.intro (by omega) ?_))
                refine ⟨i + 1, by omega, by omega, [0, 1, 2, 3], [], ?_⟩
                exact ft1 (jn @rgSt.eq_1 (jn @rg1.eq_1 (jn @rg2.eq_1 (jn @rg3.eq_1 (jn @rgRe.eq_1 (jn @pkO.eq_1 (jn @zF.eq_1 (jn @flatE_nil (jn @hz @tA_wf)))))))))
              · have hI : ¬ (i : Int) < 32 := by omega
                have h32 : i = 32 := by omega
                subst h32
                rw [ldT_all T hTl] at y1 y2 y3 y4 y5 y6
                have hTa := ldT_all T hTl
                have z7 : (tA tg0).drop 32 = [] := List.drop_of_length_le (by omega)
                refine rn1 (jn @rgSt.eq_1 (jn @rg1.eq_1 (jn @rg2.eq_1 (jn @rg3.eq_1 (jn @rgRe.eq_1 (jn @pkO.eq_1 (jn @z1 (jn @z2 (jn @z3 (jn @z4 (jn @z5 (jn @z6 (jn @tA_allD (jn @hI (jn @hTa (jn @y1 (jn @y2 (jn @y3 (jn @y4 (jn @y5 @y6)))))))))))))))))))) ?_
                (repeat (refine And.intro (by omega) ?_))
                obtain ⟨m, hm⟩ : ∃ m, m = mayB ⟨s1,s2,n1,n2,2,n4,f,T⟩ := ⟨_, rfl⟩
                have hA := getC_all hC
                have kp := rput_ac ⟨s1,s2,n1,n2,2,n4,f,T⟩ hl (getC_at hC).1
                rw [hC] at hg
                simp only [← hm] at hg
                rw [ptV] at kp
                simp only [pktE, itE, zF, flatE_nil, List.length_nil, List.cons_append, List.nil_append] at kp
                cases m with
                | false =>
                  have e1 : putX ⟨s1,s2,n1,n2,2,n4,f,T⟩ = [] := by rw [putX, ← hm]; rfl
                  have e2 : putE ⟨s1,s2,n1,n2,2,n4,f,T⟩ = 2 := by rw [putE, ← hm]; rfl
                  try simp only [zF] at e1 e2
                  rw [e1, e2] at kp
                  rw [if_neg (fun h => absurd h.2 (by decide))] at hg
                  subst hg
                  refine HO_pureA ty_ok kp ?_
                  refine rn1 (jn @rgSt.eq_1 (jn @rg1.eq_1 (jn @rg2.eq_1 (jn @rg3.eq_1 (jn @rgRe.eq_1 (jn @pkO.eq_1 (jn @z1 (jn @z2 (jn @z3 (jn @z4 (jn @z5 (jn @z6 (jn @tA_allD @hz))))))))))))) ?_
                  simp only [gpV, zP, pktE, itE, zF, flatE_nil, List.cons_append, List.nil_append, List.length_nil]
                  exact fv0 [] []
                | true =>
                  have e1 : putX ⟨s1,s2,n1,n2,2,n4,f,T⟩ = WP ⟨s1,s2,n1,n2,2,n4,f,T⟩ := by rw [putX, ← hm, ← putP_W]; rfl
                  have e2 : putE ⟨s1,s2,n1,n2,2,n4,f,T⟩ = 0 := by rw [putE, ← hm]; rfl
                  try simp only [zF] at e1 e2 hA
                  rw [e1, e2] at kp
                  by_cases hW : ((kn : Int) + 32) = (b.length : Int)
                  · rw [hA.1 hW] at kp
                    rw [if_pos ⟨hW, rfl⟩] at hg
                    subst hg
                    refine HO_pureA ty_ok kp ?_
                    refine rn1 (jn @rgSt.eq_1 (jn @rg1.eq_1 (jn @rg2.eq_1 (jn @rg3.eq_1 (jn @rgRe.eq_1 (jn @pkO.eq_1 (jn @z1 (jn @z2 (jn @z3 (jn @z4 (jn @z5 (jn @z6 (jn @tA_allD (jn @hz (jn @y1 (jn @y2 (jn @y3 (jn @y4 (jn @y5 (jn @y6 @z7)))))))))))))))))))) ?_
                    simp only [gpV, pktE, itE, zF, flatE_nil, List.cons_append, List.nil_append, List.length_nil]
                    exact fv0 [] []
                  · have hV := fun h => hW (hA.2 h)
                    rw [if_neg (fun h => hW h.1)] at hg
                    subst hg
                    generalize WP _ = W at *
                    have hne : ¬ ((⟨W.toArray⟩ : ByteArray) = ⟨b.toArray⟩) := by
                      intro h; exact hV (by simpa using h)
                    refine HO_pureA ty_ok kp ?_
                    refine rn1 (jn @rgSt.eq_1 (jn @rg1.eq_1 (jn @rg2.eq_1 (jn @rg3.eq_1 (jn @rgRe.eq_1 (jn @pkO.eq_1 (jn @z1 (jn @z2 (jn @z3 (jn @z4 (jn @z5 (jn @z6 (jn @tA_allD (jn @hz @hne)))))))))))))) ?_
                    simp only [gpV, zP, pktE, itE, zF, flatE_nil, List.cons_append, List.nil_append, List.length_nil]
                    exact fv0 [] []
            · have g7 : (b.length : Int) - k7 < 32 := by omega
              refine rn1 (jn @rgSt.eq_1 (jn @rg1.eq_1 (jn @rg2.eq_1 (jn @rg3.eq_1 (jn @rgRe.eq_1 (jn @pkO.eq_1 (jn @z1 (jn @z2 (jn @z3 (jn @z4 (jn @z5 (jn @z6 (jn @tA_allD (jn @ce7 (jn @g7 @hz))))))))))))))) ?_
              rw [if_neg (fun h => cl7 h.2)] at hC
              rw [hC] at hg
              simp only at hg
              subst hg
              simp only [gpV, zP, pktE, itE, zF, flatE_nil, List.cons_append, List.nil_append, List.length_nil]
              exact fv0 [] []
          · skip
            refine rn1 (jn @rgSt.eq_1 (jn @rg1.eq_1 (jn @rg2.eq_1 (jn @rg3.eq_1 (jn @rgRe.eq_1 (jn @pkO.eq_1 (jn @z1 (jn @z2 (jn @z3 (jn @z4 (jn @z5 (jn @z6 (jn @tA_allD (jn @ce7 @hz)))))))))))))) ?_
            rw [if_neg (fun h => ce7 h.1)] at hC
            rw [hC] at hg
            simp only at hg
            subst hg
            simp only [gpV, zP, pktE, itE, zF, flatE_nil, List.cons_append, List.nil_append, List.length_nil]
            exact fv0 [] []
        · rw [if_neg c2] at hC
          have hl : zF.l.length ≤ 140737488352000 := by simp [zF]
          refine rn1 (jn @rgSt.eq_1 (jn @rg1.eq_1 (jn @rg2.eq_1 (jn @rg3.eq_1 (jn @rgRe.eq_1 (jn @pkO.eq_1 (jn @z1 (jn @z2 (jn @z3 (jn @z4 (jn @z5 (jn @z6 (jn @tA_allD (jn @hz @c2)))))))))))))) ?_
          (repeat (refine And.intro (by omega) ?_))
          obtain ⟨m, hm⟩ : ∃ m, m = mayB ⟨s1,s2,n1,n2,n3,n4,zF,tg0⟩ := ⟨_, rfl⟩
          have hA := getC_all hC
          have kp := rput_ac ⟨s1,s2,n1,n2,n3,n4,zF,tg0⟩ hl (getC_at hC).1
          rw [hC] at hg
          simp only [← hm] at hg
          rw [ptV] at kp
          simp only [pktE, itE, zF, flatE_nil, List.length_nil, List.cons_append, List.nil_append] at kp
          cases m with
          | false =>
            have e1 : putX ⟨s1,s2,n1,n2,n3,n4,zF,tg0⟩ = [] := by rw [putX, ← hm]; rfl
            have e2 : putE ⟨s1,s2,n1,n2,n3,n4,zF,tg0⟩ = 2 := by rw [putE, ← hm]; rfl
            try simp only [zF] at e1 e2
            rw [e1, e2] at kp
            rw [if_neg (fun h => absurd h.2 (by decide))] at hg
            subst hg
            refine HO_pureA ty_ok kp ?_
            refine rn1 (jn @rgSt.eq_1 (jn @rg1.eq_1 (jn @rg2.eq_1 (jn @rg3.eq_1 (jn @rgRe.eq_1 (jn @pkO.eq_1 (jn @z1 (jn @z2 (jn @z3 (jn @z4 (jn @z5 (jn @z6 (jn @tA_allD @hz))))))))))))) ?_
            simp only [gpV, zP, pktE, itE, zF, flatE_nil, List.cons_append, List.nil_append, List.length_nil]
            exact fv0 [] []
          | true =>
            have e1 : putX ⟨s1,s2,n1,n2,n3,n4,zF,tg0⟩ = WP ⟨s1,s2,n1,n2,n3,n4,zF,tg0⟩ := by rw [putX, ← hm, ← putP_W]; rfl
            have e2 : putE ⟨s1,s2,n1,n2,n3,n4,zF,tg0⟩ = 0 := by rw [putE, ← hm]; rfl
            try simp only [zF] at e1 e2 hA
            rw [e1, e2] at kp
            by_cases hW : k6 = (b.length : Int)
            · rw [hA.1 hW] at kp
              rw [if_pos ⟨hW, rfl⟩] at hg
              subst hg
              refine HO_pureA ty_ok kp ?_
              refine rn1 (jn @rgSt.eq_1 (jn @rg1.eq_1 (jn @rg2.eq_1 (jn @rg3.eq_1 (jn @rgRe.eq_1 (jn @pkO.eq_1 (jn @z1 (jn @z2 (jn @z3 (jn @z4 (jn @z5 (jn @z6 (jn @tA_allD (jn @hz @hz)))))))))))))) ?_
              simp only [gpV, pktE, itE, zF, flatE_nil, List.cons_append, List.nil_append, List.length_nil]
              exact fv0 [] []
            · have hV := fun h => hW (hA.2 h)
              rw [if_neg (fun h => hW h.1)] at hg
              subst hg
              generalize WP _ = W at *
              have hne : ¬ ((⟨W.toArray⟩ : ByteArray) = ⟨b.toArray⟩) := by
                intro h; exact hV (by simpa using h)
              refine HO_pureA ty_ok kp ?_
              refine rn1 (jn @rgSt.eq_1 (jn @rg1.eq_1 (jn @rg2.eq_1 (jn @rg3.eq_1 (jn @rgRe.eq_1 (jn @pkO.eq_1 (jn @z1 (jn @z2 (jn @z3 (jn @z4 (jn @z5 (jn @z6 (jn @tA_allD (jn @hz @hne)))))))))))))) ?_
              simp only [gpV, zP, pktE, itE, zF, flatE_nil, List.cons_append, List.nil_append, List.length_nil]
              exact fv0 [] []
end Go.Proofs.YtdbicadncccpoaaDoor

set_option linter.unusedVariables false
set_option linter.unusedSimpArgs false
set_option maxRecDepth 100000
namespace Go.Proofs.YtdbicadncccpoaaDoor
open Go Go.ChangeShapes Go.WideShapes
def lp1 : Pkt := ⟨⟨#[97]⟩, ⟨#[98]⟩, 0, 3, 0, 0, zF, tg0⟩
def lp2 : Pkt := ⟨⟨#[97]⟩, ⟨#[98]⟩, 1, 0, 0, 0, zF, tg0⟩
theorem lp1_put : putX lp1 = [2, 97, 2, 98, 0, 6, 0] := by decide +kernel
theorem lp1_e : putE lp1 = 0 := by decide +kernel
theorem lp2_put : putX lp2 = [] := by decide +kernel
theorem lp2_e : putE lp2 = 2 := by decide +kernel
theorem lp1_ok : okP lp1 := ⟨by decide, by decide, by decide, by decide, by simp [lp1, zF, okF], rfl⟩
theorem lp2_ok : okP lp2 := ⟨by decide, by decide, by decide, by decide, by simp [lp2, zF, okF], rfl⟩
theorem putX_len (p : Pkt) (ho : okP p) : (putX p).length ≤ 300000 := by
  cases hm : mayB p with
  | false => rw [putX, hm]; simp
  | true =>
    rw [putX, hm, if_pos rfl]
    obtain ⟨⟨m1, m2, _⟩, _, _, m5⟩ := may_parts hm
    have m1 := txtOK_size m1
    have m2 := txtOK_size m2
    obtain ⟨o1, o2, o3, o4, o5, o6⟩ := ho
    have l1 := putTx_le [] p.fr (by omega)
    rw [List.length_nil] at l1
    have l2 := putTx_le (putTx [] p.fr) p.to (by omega)
    have l3 := putI_le (putTx (putTx [] p.fr) p.to) p.sq o1.1 o1.2
    have l4 := putI_le (putI (putTx (putTx [] p.fr) p.to) p.sq) p.ak o2.1 o2.2
    have l5 := putI_le (putI (putI (putTx (putTx [] p.fr) p.to) p.sq) p.ak) p.kd o3.1 o3.2
    have l6 := putI_le (putI (putI (putI (putTx (putTx [] p.fr) p.to) p.sq) p.ak) p.kd) p.ep o4.1 o4.2
    rw [putP]
    split
    · omega
    · split
      · rename_i c2
        have l7 := putF_le (b := putI (putI (putI (putI (putTx (putTx [] p.fr) p.to) p.sq) p.ak) p.kd) p.ep) o5 (m5 c2)
        rw [List.length_append, o6]; omega
      · omega
set_option maxHeartbeats 400000 in
theorem mlive_ac : AC Tryd.prog noG 8 [] [] (fun v r' => v = .d (.c (.bool true)) ∧ r' = []) := by
  refine AC.pure ?_ (by rintro v rfl; rfl)
  refine AC_of_R (N := 28) (res := [.tmp 0]) ty_ok Tryd.call8 Tryd.func8 rfl rfl rfl (Nat.le_of_ble_eq_true rfl) ?_
  have hz : ([UInt8.ofNat 0, UInt8.ofNat 0, UInt8.ofNat 0, UInt8.ofNat 0, UInt8.ofNat 0, UInt8.ofNat 0, UInt8.ofNat 0, UInt8.ofNat 0, UInt8.ofNat 0, UInt8.ofNat 0, UInt8.ofNat 0, UInt8.ofNat 0, UInt8.ofNat 0, UInt8.ofNat 0, UInt8.ofNat 0, UInt8.ofNat 0, UInt8.ofNat 0, UInt8.ofNat 0, UInt8.ofNat 0, UInt8.ofNat 0, UInt8.ofNat 0, UInt8.ofNat 0, UInt8.ofNat 0, UInt8.ofNat 0, UInt8.ofNat 0, UInt8.ofNat 0, UInt8.ofNat 0, UInt8.ofNat 0, UInt8.ofNat 0, UInt8.ofNat 0, UInt8.ofNat 0, UInt8.ofNat 0] : List UInt8) = tg0 := rfl
  obtain ⟨z1, z2, z3, z4, z5, z6⟩ := tg32 tg0 rfl
  have k1 := put_ac lp1 (by decide) lp1_ok
  have k2 := put_ac lp2 (by decide) lp2_ok
  rw [ptV, lp1_put, lp1_e] at k1
  rw [ptV, lp2_put, lp2_e] at k2
  simp only [lp1, lp2, pktE, itE, zF, flatE_nil, List.length_nil, List.cons_append, List.nil_append] at k1 k2
  refine rn1 (jn @hz (jn @z1 (jn @z2 (jn @z3 (jn @z4 (jn @z5 (jn @z6 @tA_allD))))))) ?_
  refine HO_pure ty_ok (k1) rfl rfl rfl (by kernel_rfl) (fun _ => rfl) (fun _ => rfl) rfl (by repeat' (first | exact trivial | exact WeakA.refl _ | exact WeakA.toD rfl | exact WeakA.nilD _ | exact WeakA.nils rfl (by repeat' (first | exact trivial | exact .inl rfl | exact .inr ⟨rfl, _, rfl⟩ | refine ⟨?_, ?_⟩)) | refine ⟨?_, ?_⟩)) ?_
  refine rn1 (jn @hz (jn @z1 (jn @z2 (jn @z3 (jn @z4 (jn @z5 (jn @z6 @tA_allD))))))) ?_
  refine HO_pure ty_ok (k2) rfl rfl rfl (by kernel_rfl) (fun _ => rfl) (fun _ => rfl) rfl (by repeat' (first | exact trivial | exact WeakA.refl _ | exact WeakA.toD rfl | exact WeakA.nilD _ | exact WeakA.nils rfl (by repeat' (first | exact trivial | exact .inl rfl | exact .inr ⟨rfl, _, rfl⟩ | refine ⟨?_, ?_⟩)) | refine ⟨?_, ?_⟩)) ?_
  refine rn0 ?_
  refine HO_pureA ty_ok (same_ac [2, 97, 2, 98, 0, 6, 0] [2, 97, 2, 98, 0, 6, 0] (by decide) (by decide)) ?_
  exact rz0
end Go.Proofs.YtdbicadncccpoaaDoor

set_option linter.unusedVariables false
set_option linter.unusedSimpArgs false
set_option maxRecDepth 100000
namespace Go.Proofs.YtdbicadncccpoaaDoor
open Go Go.ChangeShapes Go.WideShapes
theorem getK_small {b : List UInt8} {s1 s2 : ByteArray} {n1 n2 n3 k nx : Int} {p : Pkt} (h : getC.getK b s1 s2 n1 n2 n3 k = some (p, nx)) : p.f.l.length ≤ 48 := by
  unfold getC.getK at h
  split at h
  · simp only [Option.some.injEq, Prod.mk.injEq] at h
    obtain ⟨rfl, rfl⟩ := h
    simp [zF]
  · split at h
    · split at h
      · split at h
        · simp only [Option.some.injEq, Prod.mk.injEq] at h
          obtain ⟨rfl, rfl⟩ := h
          exact rdF_len
        · simp at h
      · simp only [Option.some.injEq, Prod.mk.injEq] at h
        obtain ⟨rfl, rfl⟩ := h
        simp [zF]
    · simp at h
theorem getP_small (b : List UInt8) : (getP b).1.f.l.length ≤ 48 ∧ okP (getP b).1 ∧ (getP b).1.fr.size ≤ 65536 ∧ (getP b).1.to.size ≤ 65536 := by
  have hz : (zP.f.l.length ≤ 48 ∧ okP zP ∧ zP.fr.size ≤ 65536 ∧ zP.to.size ≤ 65536) := ⟨by decide, ⟨by decide, by decide, by decide, by decide, by simp [zP, zF, okF], rfl⟩, by decide, by decide⟩
  unfold getP
  rcases hg : getC b with _ | ⟨p, k⟩
  · exact hz
  · simp only
    split
    · obtain ⟨h1, h2, h3, _⟩ := getC_at hg
      unfold getC at hg
      split at hg
      · exact ⟨getK_small hg, h1, h2, h3⟩
      · simp at hg
    · exact hz
def szPk (p : Pkt) : Prop := p.fr.size ≤ 140737488352000 ∧ p.to.size ≤ 140737488352000 ∧ szF p.f
end Go.Proofs.YtdbicadncccpoaaDoor
