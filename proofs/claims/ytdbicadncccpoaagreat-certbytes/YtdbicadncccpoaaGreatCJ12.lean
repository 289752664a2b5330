/- Parts of the proof: CStep, CTrip, CDec, CDecT, WtF. -/
import Derived.Test.YtdbicadncccpoaaGreatCJ8
import Derived.Test.YtdbicadncccpoaaGreatCJ11
import Derived.Test.YtdbicadncccpoaaGreatCJ7
import Derived.Test.YtdbicadncccpoaaGreatCJ0
set_option linter.unusedVariables false
set_option linter.unusedSimpArgs false
set_option maxRecDepth 100000
namespace Go.Proofs.YtdbicadncccpoaaGreat
open Go Go.ChangeShapes Go.WideShapes
/-! cert.step: an entry of bytes. -/
def bodyR (b : List UInt8) : Nat → Int → Option (List Fct × Int)
  | 0, k => some ([], k)
  | n + 1, k => if (rdF b k).2.2 = 0 then (bodyR b n (rdF b k).2.1).map fun s => ((rdF b k).1 :: s.1, s.2) else none
def tailR (b : List UInt8) (f : Fct) (why rule : Int) (s : List Fct × Int) : Option (Ntr × Int) :=
  if (b.length : Int) - s.2 < 32 then none else some (⟨f, why, rule, s.1, (b.drop s.2.toNat).take 32⟩, s.2 + 32)
def stepR (b : List UInt8) (k : Int) : Option (Ntr × Int) :=
  if (cnt b k 3).2.2 ≠ 0 ∨ (cnt b k 3).1 < 1 then none
  else if (rdF b (cnt b k 3).2.1).2.2 ≠ 0 then none
  else if (cnt b k 3).1 = 2 then
    (if (cnt b (rdF b (cnt b k 3).2.1).2.1 4096).2.2 ≠ 0 then none
    else if (cnt b (cnt b (rdF b (cnt b k 3).2.1).2.1 4096).2.1 5).2.2 ≠ 0 then none
    else (bodyR b (cnt b (cnt b (rdF b (cnt b k 3).2.1).2.1 4096).2.1 5).1.toNat (cnt b (cnt b (rdF b (cnt b k 3).2.1).2.1 4096).2.1 5).2.1).bind (tailR b (rdF b (cnt b k 3).2.1).1 2 (cnt b (rdF b (cnt b k 3).2.1).2.1 4096).1))
  else tailR b (rdF b (cnt b k 3).2.1).1 (cnt b k 3).1 0 ([], (rdF b (cnt b k 3).2.1).2.1)
def stepO : Option (Ntr × Int) → AV → Rs → Prop
  | none, v, r' => ∃ x : Ntr, x.tg.length = 32 ∧ v = .tup [.d (.agg (entE x)), .d (.c (.int .i64 0)), .d (.c (.bool false))] ∧ r' = []
  | some s, v, r' => v = .tup [.d (.agg (entE s.1)), .d (.c (.int .i64 s.2)), .d (.c (.bool true))] ∧ r' = []
def seSt (b : List UInt8) (n : Nat) (k : Int) (i : Nat) : List (Nat × AV) := [(0, .d (.sl 1 b.length (bD b))), (1, .d (.c (.int .i64 k))), (4, .ptr 0 0), (61, .d (.c (.int .i64 (n : Int)))), (62, .d (.c (.int .i64 i)))]
def seRe (f : Fct) (why rule : Int) (acc : List Fct) : Rs := [some (.obj ([.d (.c (.string f.a)), .d (.c (.string f.b)), .d (.c (.string f.p)), .d (.sl 3 f.l.length (flatE cstE f.l)), .d (.c (.int .i64 why)), .d (.c (.int .i64 rule)), .sl (.own 1) 4 acc.length (flatE fctE acc)] ++ tA tgz)), some (.tok (flatE fctE acc).length)]
theorem rdF_le {b : List UInt8} {k : Int} (h : (rdF b k).2.2 = 0) : 0 ≤ k ∧ k ≤ (rdF b k).2.1 ∧ (rdF b k).2.1 ≤ b.length ∧ chkF (rdF b k).1 = true ∧ okF (rdF b k).1 := by
  have h1 : rdF b k = ((rdF b k).1, (rdF b k).2.1, 0) := by rw [← h]
  obtain ⟨h2, h3, h4⟩ := rdF_inv h1
  have h5 := h4.bd
  exact ⟨h5.1, by omega, h5.2.2, h2, h3⟩
theorem rdF_0 {b : List UInt8} {k : Int} (h : (rdF b k).2.2 ≠ 0) : (rdF b k).2.1 = 0 := by
  rw [rdF] at h ⊢
  split
  · rename_i h1
    rw [if_pos h1] at h
    split
    · rename_i h2; rw [if_pos h2] at h; exact absurd rfl h
    · rfl
  · rfl
theorem step_fail {v : AV} {r' : Rs} (f : Fct) (why rule : Int) (body : List Fct) (tg : List UInt8) (ht : tg.length = 32) (h : ∃ v1 r1 L F, (v1 = AV.tup [.d (.agg (.c (.string f.a) :: .c (.string f.b) :: .c (.string f.p) :: .sl 3 f.l.length (flatE cstE f.l) :: .c (.int .i64 why) :: .c (.int .i64 rule) :: .sl 4 body.length (flatE fctE body) :: bD tg)), .d (.c (.int .i64 0)), .d (.c (.bool false))] ∧ r1 = []) ∧ FitV 0 L F v r' v1 r1) : ∃ v1 r1 L F, stepO none v1 r1 ∧ FitV 0 L F v r' v1 r1 := by
  obtain ⟨v1, r1, L, F, ⟨rfl, rfl⟩, h⟩ := h
  exact ⟨_, _, L, F, ⟨⟨f, why, rule, body, tg⟩, ht, rfl, rfl⟩, h⟩
set_option maxHeartbeats 800000 in
theorem step_ac (b : List UInt8) (hb : b.length ≤ 140737488355000) (k : Int) (h0 : -9223372036854775808 ≤ k) (h1 : k ≤ 9223372036854775807) : AC Tryz.prog noG 27 [.d (.sl 1 b.length (bD b)), .d (.c (.int .i64 k))] [] (stepO (stepR b k)) := by
  refine AC.fit ?_
  refine AC_of_R (N := 96) (res := [.cell 4 43, .tmp 5, .tmp 6]) ty_ok Tryz.call27 Tryz.func27 rfl rfl rfl (Nat.le_of_ble_eq_true rfl) ?_
  have hz : ([UInt8.ofNat 0, UInt8.ofNat 0, UInt8.ofNat 0, UInt8.ofNat 0, UInt8.ofNat 0, UInt8.ofNat 0, UInt8.ofNat 0, UInt8.ofNat 0, UInt8.ofNat 0, UInt8.ofNat 0, UInt8.ofNat 0, UInt8.ofNat 0, UInt8.ofNat 0, UInt8.ofNat 0, UInt8.ofNat 0, UInt8.ofNat 0, UInt8.ofNat 0, UInt8.ofNat 0, UInt8.ofNat 0, UInt8.ofNat 0, UInt8.ofNat 0, UInt8.ofNat 0, UInt8.ofNat 0, UInt8.ofNat 0, UInt8.ofNat 0, UInt8.ofNat 0, UInt8.ofNat 0, UInt8.ofNat 0, UInt8.ofNat 0, UInt8.ofNat 0, UInt8.ofNat 0, UInt8.ofNat 0] : List UInt8) = tgz := rfl
  obtain ⟨z1, z2, z3, z4, z5, z6⟩ := tg32 tgz rfl
  have z7 : (tA tgz).drop 32 = [] := List.drop_of_length_le (by omega)
  have kc := count_ac b k 3 h0 h1 hb
  have cb := cnt_bd b k 3
  have hR : stepR b k = _ := stepR.eq_1 b k
  generalize stepR b k = R at *
  generalize cnt b k 3 = c1 at *
  obtain ⟨w, k1, e1⟩ := c1
  simp only at hR cb
  refine rn1 (jn @hz (jn @z1 (jn @z2 (jn @z3 (jn @z4 (jn @z5 (jn @z6 @tA_allD))))))) ?_
  refine HO_pureA ty_ok kc ?_
  by_cases he1 : e1 = 0
  · by_cases hw1 : w < 1
    · rw [if_pos (Or.inr hw1)] at hR
      refine rn1 (jn @tri.eq_1 (jn @he1 (jn @hw1 (jn @hz (jn @z1 (jn @z2 (jn @z3 (jn @z4 (jn @z5 (jn @z6 (jn @z7 @tA_allD))))))))))) ?_
      subst hR
      refine step_fail zE.zF0 0 0 [] tgz rfl ?_
      simp only [zE.zF0, flatE_nil, List.length_nil]
      exact fv0 [] []
    · rw [if_neg (fun h => h.elim (fun h => h he1) hw1)] at hR
      have kf := fact_ac b k1 hb (by omega) (by omega)
      have hle := fun h => rdF_le (b := b) (k := k1) h
      have hf0 := fun h => rdF_0 (b := b) (k := k1) h
      generalize rdF b k1 = F1 at *
      obtain ⟨f, k2, e2⟩ := F1
      simp only at hR hle hf0
      simp only [fcV, fctE, List.cons_append, List.nil_append] at kf
      refine rn1 (jn @tri.eq_1 (jn @he1 (jn @hw1 (jn @hz (jn @z1 (jn @z2 (jn @z3 (jn @z4 (jn @z5 (jn @z6 (jn @z7 @tA_allD))))))))))) ?_
      refine HO_pureA ty_ok kf ?_
      by_cases he2 : e2 = 0
      · rw [if_neg (fun h => h he2)] at hR
        obtain ⟨hl1, hl2, hl3, hl4, hl5⟩ := hle he2
        by_cases hw2 : w = 2
        · rw [if_pos hw2] at hR
          have kc2 := count_ac b k2 4096 (by omega) (by omega) hb
          have cb2 := cnt_bd b k2 4096
          generalize cnt b k2 4096 = c2 at *
          obtain ⟨r, k3, e3⟩ := c2
          simp only at hR cb2
          have kc3 := count_ac b k3 5 (by omega) (by omega) hb
          have cb3 := cnt_bd b k3 5
          generalize cnt b k3 5 = c3 at *
          obtain ⟨n, k4, e4⟩ := c3
          simp only at hR cb3
          refine rn1 (jn @he2 (jn @hw2 (jn @hz (jn @z1 (jn @z2 (jn @z3 (jn @z4 (jn @z5 (jn @z6 (jn @z7 @tA_allD)))))))))) ?_
          refine HO_pureA ty_ok kc2 ?_
          by_cases he3 : e3 = 0
          · rw [if_neg (fun h => h he3)] at hR
            refine rn1 (jn @tri.eq_1 (jn @he3 (jn @hz (jn @z1 (jn @z2 (jn @z3 (jn @z4 (jn @z5 (jn @z6 (jn @z7 @tA_allD)))))))))) ?_
            refine HO_pureA ty_ok kc3 ?_
            by_cases he4 : e4 = 0
            · rw [if_neg (fun h => h he4)] at hR
              obtain ⟨nn, hnn⟩ : ∃ nn : Nat, n = nn := ⟨n.toNat, by omega⟩
              subst hnn
              simp only [Int.toNat_natCast] at hR
              obtain ⟨kk0, hkk⟩ : ∃ kk0, kk0 = k4 := ⟨_, rfl⟩
              obtain ⟨ww, hww⟩ : ∃ ww : Int, ww = 2 := ⟨_, rfl⟩
              obtain ⟨rr, hrr⟩ : ∃ rr, rr = r := ⟨_, rfl⟩
              rw [← hkk, ← hww, ← hrr] at hR
              have hkb : 0 ≤ kk0 ∧ kk0 ≤ (b.length : Int) := by omega
              have hfx : True := trivial
              refine rn1 (jn @tri.eq_1 (jn @he4 (jn @hz (jn @z1 (jn @z2 (jn @z3 (jn @z4 (jn @z5 (jn @z6 (jn @z7 @tA_allD)))))))))) ?_
              refine HC_loopR (fun z : Nat × List Fct × Int => seSt b nn z.2.2 z.1) (fun z => seRe f ww rr z.2.1) (fun z => z.1 ≤ nn ∧ (0 ≤ z.2.2 ∧ z.2.2 ≤ b.length) ∧ z.2.1.length = z.1 ∧ bodyR b nn kk0 = (bodyR b (nn - z.1) z.2.2).map fun s => (z.2.1 ++ s.1, s.2)) (fun z => nn - z.1) (0, [], kk0) [0, 1] [0] ⟨Nat.zero_le _, hkb, rfl, by cases bodyR b nn kk0 <;> rfl⟩ ?_ ?_
              · exact ft1 (jn @hfx (jn @hkk (jn @hww (jn @hrr (jn @seSt.eq_1 (jn @seRe.eq_1 (jn @flatE_nil @tA_wf)))))))
              rintro ⟨i, acc, kk⟩ ⟨hi1, ⟨hk0, hk1⟩, hal, hbr⟩
              simp only at hi1 hk0 hk1 hal hbr
              refine HC_of_R ty_ok ?_
              by_cases hlt : i < nn
              · have hi : (i : Int) < nn := by omega
                obtain ⟨m, hm⟩ : ∃ m, nn - i = m + 1 := ⟨nn - i - 1, by omega⟩
                rw [hm, bodyR] at hbr
                have kg := fact_ac b kk hb (by omega) (by omega)
                have hle2 := fun h => rdF_le (b := b) (k := kk) h
                generalize rdF b kk = F2 at *
                obtain ⟨g, kn, e9⟩ := F2
                simp only at hbr hle2
                simp only [fcV, fctE, List.cons_append, List.nil_append] at kg
                refine rn1 (jn @seSt.eq_1 (jn @seRe.eq_1 (jn @hi (jn @hz (jn @z1 (jn @z2 (jn @z3 (jn @z4 (jn @z5 (jn @z6 (jn @z7 @tA_allD))))))))))) ?_
                refine HO_pureA ty_ok kg ?_
                by_cases he9 : e9 = 0
                · rw [if_pos he9] at hbr
                  obtain ⟨q1, q2, q3, q4, q5⟩ := hle2 he9
                  refine rn1 (jn @he9 (jn @hz (jn @z1 (jn @z2 (jn @z3 (jn @z4 (jn @z5 (jn @z6 (jn @z7 @tA_allD))))))))) ?_
                  (repeat (refine And.intro (by omega) ?_))
                  refine ⟨(i + 1, acc ++ [g], kn), ⟨by simp only; omega, ⟨by simp only; omega, by simp only; omega⟩, by simp [hal], ?_⟩, by simp only; omega, [0, 1], [], ?_⟩
                  · rw [hbr, show nn - (i + 1) = m by omega]
                    cases bodyR b m kn <;> simp
                  · exact ft1 (jn @seSt.eq_1 (jn @seRe.eq_1 (jn @tA_wf (jn @flatE_app (jn @flatE_cons (jn @flatE_nil @fctE.eq_1))))))
                · rw [if_neg he9] at hbr
                  rw [hbr] at hR
                  have hR : R = none := hR
                  subst hR
                  refine rn1 (jn @he9 (jn @hz (jn @z1 (jn @z2 (jn @z3 (jn @z4 (jn @z5 (jn @z6 (jn @z7 @tA_allD))))))))) ?_
                  refine step_fail f ww rr acc tgz rfl ?_
                  exact fv0 [] []
              · have hi : ¬ (i : Int) < nn := by omega
                rw [show nn - i = 0 by omega, bodyR] at hbr
                rw [hbr] at hR
                simp only [Option.map_some, Option.bind_some, List.append_nil] at hR
                by_cases hn32 : (b.length : Int) - kk < 32
                · rw [tailR, if_pos hn32] at hR
                  subst hR
                  refine rn1 (jn @seSt.eq_1 (jn @seRe.eq_1 (jn @hi (jn @hn32 (jn @hz (jn @z1 (jn @z2 (jn @z3 (jn @z4 (jn @z5 (jn @z6 (jn @z7 @tA_allD)))))))))))) ?_
                  refine step_fail f ww rr acc tgz rfl ?_
                  exact fv0 [] []
                · rw [tailR, if_neg hn32] at hR
                  subst hR
                  refine rn1 (jn @seSt.eq_1 (jn @seRe.eq_1 (jn @hi (jn @hn32 (jn @hz (jn @z1 (jn @z2 (jn @z3 (jn @z4 (jn @z5 (jn @z6 (jn @z7 @tA_allD)))))))))))) ?_
                  obtain ⟨kn, rfl⟩ : ∃ kn : Nat, kk = kn := ⟨kk.toNat, by omega⟩
                  refine HC_plan [] ty_ok mix (by kernel_rfl) ?_
                  refine rn1 (jn @z1 (jn @z2 (jn @z3 (jn @z4 (jn @z5 (jn @z6 @tA_allD)))))) ?_
                  (repeat (refine And.intro (by omega) ?_))
                  refine HO_copyD (e := 5) (n := 32) (k := 32) ty_ok rfl rfl rfl rfl rfl ⟨by kernel_rfl, by kernel_rfl⟩ (by decide) (Nat.min_eq_right (by omega)) (by kernel_rfl) rfl ?_
                  obtain ⟨T, hT⟩ : ∃ T, T = (b.drop kn).take 32 := ⟨_, rfl⟩
                  have hTl : T.length = 32 := by rw [hT, List.length_take, List.length_drop]; omega
                  obtain ⟨y1, y2, y3, y4, y5, y6⟩ := tg32 T hTl
                  have hTd : (bD (b.drop kn)).take 32 = bD T := by rw [hT]; simp [bD, List.map_take]
                  have y7 : (tA T).drop 32 = [] := List.drop_of_length_le (by omega)
                  simp only [stepO, Int.toNat_natCast, ← hT, entE, fctE, List.cons_append, List.nil_append]
                  refine rn1 (jn @hTd (jn @hTl (jn @y7 (jn @z7 (jn @z1 (jn @z2 (jn @z3 (jn @z4 (jn @z5 (jn @z6 (jn @y1 (jn @y2 (jn @y3 (jn @y4 (jn @y5 (jn @y6 @tA_allD)))))))))))))))) ?_
                  (repeat (refine And.intro (by omega) ?_))
                  exact fv0 [] []
            · rw [if_pos he4] at hR
              refine rn1 (jn @tri.eq_1 (jn @he4 (jn @hz (jn @z1 (jn @z2 (jn @z3 (jn @z4 (jn @z5 (jn @z6 (jn @z7 @tA_allD)))))))))) ?_
              subst hR
              refine step_fail f 2 r [] tgz rfl ?_
              simp only [zE.zF0, flatE_nil, List.length_nil]
              exact fv0 [] []
          · rw [if_pos he3] at hR
            refine rn1 (jn @tri.eq_1 (jn @he3 (jn @hz (jn @z1 (jn @z2 (jn @z3 (jn @z4 (jn @z5 (jn @z6 (jn @z7 @tA_allD)))))))))) ?_
            subst hR
            refine step_fail f 2 r [] tgz rfl ?_
            simp only [zE.zF0, flatE_nil, List.length_nil]
            exact fv0 [] []
        · rw [if_neg hw2] at hR
          obtain ⟨kk0, hkk⟩ : ∃ kk0, kk0 = k2 := ⟨_, rfl⟩
          obtain ⟨ww, hww⟩ : ∃ ww, ww = w := ⟨_, rfl⟩
          obtain ⟨rr, hrr⟩ : ∃ rr : Int, rr = 0 := ⟨_, rfl⟩
          obtain ⟨nn, hnn⟩ : ∃ nn : Nat, nn = 0 := ⟨_, rfl⟩
          have hR : R = (bodyR b nn kk0).bind (tailR b f ww rr) := by rw [hR, hnn, hkk, hww, hrr]; rfl
          have hkb : 0 ≤ kk0 ∧ kk0 ≤ (b.length : Int) := by omega
          have hfx : (nn : Int) = 0 := by omega
          refine rn1 (jn @he2 (jn @hw2 (jn @hz (jn @z1 (jn @z2 (jn @z3 (jn @z4 (jn @z5 (jn @z6 (jn @z7 @tA_allD)))))))))) ?_
          refine HC_loopR (fun z : Nat × List Fct × Int => seSt b nn z.2.2 z.1) (fun z => seRe f ww rr z.2.1) (fun z => z.1 ≤ nn ∧ (0 ≤ z.2.2 ∧ z.2.2 ≤ b.length) ∧ z.2.1.length = z.1 ∧ bodyR b nn kk0 = (bodyR b (nn - z.1) z.2.2).map fun s => (z.2.1 ++ s.1, s.2)) (fun z => nn - z.1) (0, [], kk0) [0, 1] [0] ⟨Nat.zero_le _, hkb, rfl, by cases bodyR b nn kk0 <;> rfl⟩ ?_ ?_
          · exact ft1 (jn @hfx (jn @hkk (jn @hww (jn @hrr (jn @seSt.eq_1 (jn @seRe.eq_1 (jn @flatE_nil @tA_wf)))))))
          rintro ⟨i, acc, kk⟩ ⟨hi1, ⟨hk0, hk1⟩, hal, hbr⟩
          simp only at hi1 hk0 hk1 hal hbr
          refine HC_of_R ty_ok ?_
          by_cases hlt : i < nn
          · have hi : (i : Int) < nn := by omega
            obtain ⟨m, hm⟩ : ∃ m, nn - i = m + 1 := ⟨nn - i - 1, by omega⟩
            rw [hm, bodyR] at hbr
            have kg := fact_ac b kk hb (by omega) (by omega)
            have hle2 := fun h => rdF_le (b := b) (k := kk) h
            generalize rdF b kk = F2 at *
            obtain ⟨g, kn, e9⟩ := F2
            simp only at hbr hle2
            simp only [fcV, fctE, List.cons_append, List.nil_append] at kg
            refine rn1 (jn @seSt.eq_1 (jn @seRe.eq_1 (jn @hi (jn @hz (jn @z1 (jn @z2 (jn @z3 (jn @z4 (jn @z5 (jn @z6 (jn @z7 @tA_allD))))))))))) ?_
            refine HO_pureA ty_ok kg ?_
            by_cases he9 : e9 = 0
            · rw [if_pos he9] at hbr
              obtain ⟨q1, q2, q3, q4, q5⟩ := hle2 he9
              refine rn1 (jn @he9 (jn @hz (jn @z1 (jn @z2 (jn @z3 (jn @z4 (jn @z5 (jn @z6 (jn @z7 @tA_allD))))))))) ?_
              (repeat (refine And.intro (by omega) ?_))
              refine ⟨(i + 1, acc ++ [g], kn), ⟨by simp only; omega, ⟨by simp only; omega, by simp only; omega⟩, by simp [hal], ?_⟩, by simp only; omega, [0, 1], [], ?_⟩
              · rw [hbr, show nn - (i + 1) = m by omega]
                cases bodyR b m kn <;> simp
              · exact ft1 (jn @seSt.eq_1 (jn @seRe.eq_1 (jn @tA_wf (jn @flatE_app (jn @flatE_cons (jn @flatE_nil @fctE.eq_1))))))
            · rw [if_neg he9] at hbr
              rw [hbr] at hR
              have hR : R = none := hR
              subst hR
              refine rn1 (jn @he9 (jn @hz (jn @z1 (jn @z2 (jn @z3 (jn @z4 (jn @z5 (jn @z6 (jn @z7 @tA_allD))))))))) ?_
              refine step_fail f ww rr acc tgz rfl ?_
              exact fv0 [] []
          · have hi : ¬ (i : Int) < nn := by omega
            rw [show nn - i = 0 by omega, bodyR] at hbr
            rw [hbr] at hR
            simp only [Option.map_some, Option.bind_some, List.append_nil] at hR
            by_cases hn32 : (b.length : Int) - kk < 32
            · rw [tailR, if_pos hn32] at hR
              subst hR
              refine rn1 (jn @seSt.eq_1 (jn @seRe.eq_1 (jn @hi (jn @hn32 (jn @hz (jn @z1 (jn @z2 (jn @z3 (jn @z4 (jn @z5 (jn @z6 (jn @z7 @tA_allD)))))))))))) ?_
              refine step_fail f ww rr acc tgz rfl ?_
              exact fv0 [] []
            · rw [tailR, if_neg hn32] at hR
              subst hR
              refine rn1 (jn @seSt.eq_1 (jn @seRe.eq_1 (jn @hi (jn @hn32 (jn @hz (jn @z1 (jn @z2 (jn @z3 (jn @z4 (jn @z5 (jn @z6 (jn @z7 @tA_allD)))))))))))) ?_
              obtain ⟨kn, rfl⟩ : ∃ kn : Nat, kk = kn := ⟨kk.toNat, by omega⟩
              refine HC_plan [] ty_ok mix (by kernel_rfl) ?_
              refine rn1 (jn @z1 (jn @z2 (jn @z3 (jn @z4 (jn @z5 (jn @z6 @tA_allD)))))) ?_
              (repeat (refine And.intro (by omega) ?_))
              refine HO_copyD (e := 5) (n := 32) (k := 32) ty_ok rfl rfl rfl rfl rfl ⟨by kernel_rfl, by kernel_rfl⟩ (by decide) (Nat.min_eq_right (by omega)) (by kernel_rfl) rfl ?_
              obtain ⟨T, hT⟩ : ∃ T, T = (b.drop kn).take 32 := ⟨_, rfl⟩
              have hTl : T.length = 32 := by rw [hT, List.length_take, List.length_drop]; omega
              obtain ⟨y1, y2, y3, y4, y5, y6⟩ := tg32 T hTl
              have hTd : (bD (b.drop kn)).take 32 = bD T := by rw [hT]; simp [bD, List.map_take]
              have y7 : (tA T).drop 32 = [] := List.drop_of_length_le (by omega)
              simp only [stepO, Int.toNat_natCast, ← hT, entE, fctE, List.cons_append, List.nil_append]
              refine rn1 (jn @hTd (jn @hTl (jn @y7 (jn @z7 (jn @z1 (jn @z2 (jn @z3 (jn @z4 (jn @z5 (jn @z6 (jn @y1 (jn @y2 (jn @y3 (jn @y4 (jn @y5 (jn @y6 @tA_allD)))))))))))))))) ?_
              (repeat (refine And.intro (by omega) ?_))
              exact fv0 [] []
      · rw [if_pos he2] at hR
        refine rn1 (jn @he2 (jn @hz (jn @z1 (jn @z2 (jn @z3 (jn @z4 (jn @z5 (jn @z6 (jn @z7 @tA_allD))))))))) ?_
        subst hR
        refine step_fail f w 0 [] tgz rfl ?_
        simp only [zE.zF0, flatE_nil, List.length_nil]
        exact fv0 [] []
  · rw [if_pos (Or.inl he1)] at hR
    refine rn1 (jn @tri.eq_1 (jn @he1 (jn @hz (jn @z1 (jn @z2 (jn @z3 (jn @z4 (jn @z5 (jn @z6 (jn @z7 @tA_allD)))))))))) ?_
    subst hR
    refine step_fail zE.zF0 0 0 [] tgz rfl ?_
    simp only [zE.zF0, flatE_nil, List.length_nil]
    exact fv0 [] []
end Go.Proofs.YtdbicadncccpoaaGreat

set_option linter.unusedVariables false
set_option linter.unusedSimpArgs false
set_option maxRecDepth 100000
namespace Go.Proofs.YtdbicadncccpoaaGreat
open Go Go.ChangeShapes Go.WideShapes
/-! An entry laid and an entry read. -/
theorem cnt_rdC {b : List UInt8} {k m n nx : Int} : cnt b k m = (n, nx, 0) ↔ rdC b m k 0 = (n, nx, 0) := by
  have hbd := rdInt_bd b k
  unfold cnt rdC rdN
  rw [if_pos rfl]
  generalize rdInt b k = t at *
  obtain ⟨a, x, e⟩ := t
  simp only at hbd ⊢
  by_cases he : e = 0
  · subst he
    simp only [ne_eq, not_true_eq_false, if_false, if_true]
    split <;> simp
  · simp only [ne_eq, he, not_false_eq_true, if_true, if_false, Prod.mk.injEq]
    exact ⟨fun h => h.2.2.elim, fun h => h.2.2.elim⟩
def WX (x : Ntr) : List UInt8 := leb (zig x.why) ++ (WF x.f ++ ((if x.why = 2 then leb (zig x.rule) ++ (leb (zig (x.body.length : Int)) ++ x.body.foldl putF []) else []) ++ x.tg))
theorem putF_w (b : List UInt8) (f : Fct) : putF b f = b ++ putF [] f := by rw [putF_app b f, putF_app [] f]; rfl
theorem entB_W (b : List UInt8) (x : Ntr) (h : mayX x = true) : entB b x = b ++ WX x := by
  obtain ⟨_, _, _, h4⟩ := mayX_iff h
  rw [entB, stgX, if_neg (by omega), Nat.add_sub_cancel, List.take_of_length_le (Nat.le_refl _), fold_app putF_w, hdrX, WX, putF_app]
  by_cases hw : x.why = 2
  · rw [if_pos hw, if_pos hw]
    simp only [List.append_assoc]
  · rw [if_neg hw, if_neg hw]
    have hb : x.body = [] := List.eq_nil_of_length_eq_zero (by omega)
    rw [hb]
    simp only [List.append_assoc, List.foldl_nil, List.nil_append]
theorem bodyR_inv {b : List UInt8} : ∀ (n : Nat) (k nx : Int) (l : List Fct), (0 ≤ k ∧ k ≤ b.length) → bodyR b n k = some (l, nx) → l.length = n ∧ (∀ f ∈ l, chkF f = true ∧ okF f) ∧ At b k (l.foldl putF []) nx
  | 0, k, nx, l, hk, h => by
    rw [bodyR] at h
    injection h with h
    injection h with h1 h2
    subst h1; subst h2
    exact ⟨rfl, by simp, At.nil hk.1 hk.2⟩
  | n + 1, k, nx, l, hk, h => by
    rw [bodyR] at h
    split at h
    · rename_i he
      obtain ⟨h1, h2, h3, h4, h5⟩ := rdF_le he
      have hat := (rdF_inv (b := b) (k := k) (f := (rdF b k).1) (nx := (rdF b k).2.1) (by rw [← he])).2.2
      obtain ⟨s, hs, hl⟩ := Option.map_eq_some_iff.1 h
      obtain ⟨l2, nx2⟩ := s
      injection hl with hl hn
      subst hl; subst hn
      obtain ⟨i1, i2, i3⟩ := bodyR_inv n _ _ _ ⟨by omega, h3⟩ hs
      refine ⟨by simp [i1], ?_, ?_⟩
      · intro f hf
        rcases List.mem_cons.1 hf with rfl | hf
        · exact ⟨h4, h5⟩
        · exact i2 f hf
      · rw [fold_cons putF_w, putF_app]
        exact hat.app i3
    · cases h
theorem tailR_inv {b : List UInt8} {f : Fct} {w r nx : Int} {s : List Fct × Int} {x : Ntr} (hs : 0 ≤ s.2 ∧ s.2 ≤ b.length) (h : tailR b f w r s = some (x, nx)) : x.f = f ∧ x.why = w ∧ x.rule = r ∧ x.body = s.1 ∧ x.tg.length = 32 ∧ At b s.2 x.tg nx := by
  rw [tailR] at h
  split at h
  · cases h
  · rename_i hn
    injection h with h
    injection h with h1 h2
    subst h1; subst h2
    have hl : ((b.drop s.2.toNat).take 32).length = 32 := by rw [List.length_take, List.length_drop]; omega
    exact ⟨rfl, rfl, rfl, rfl, hl, s.2.toNat, by omega, by rw [hl]; omega, by rw [hl]; omega, by rw [hl]⟩
/-- What is read was laid so. -/
theorem step_inv {b : List UInt8} {k nx : Int} {x : Ntr} (h : stepR b k = some (x, nx)) : goodX x = true ∧ okX x ∧ At b k (WX x) nx := by
  have cb := cnt_bd b k 3
  rw [stepR] at h
  split at h
  · cases h
  · rename_i hw
    have hw0 : (cnt b k 3).2.2 = 0 := by by_cases q : (cnt b k 3).2.2 = 0; exact q; exact absurd (.inl q) hw
    have hw1 : ¬ (cnt b k 3).1 < 1 := fun q => hw (.inr q)
    obtain ⟨_, i2, i3⟩ := rdC_inv (cnt_rdC.1 (show cnt b k 3 = ((cnt b k 3).1, (cnt b k 3).2.1, 0) by rw [← hw0]))
    generalize cnt b k 3 = c1 at *
    obtain ⟨w, k1, e1⟩ := c1
    simp only at *
    split at h
    · cases h
    · rename_i hf
      have hf0 : (rdF b k1).2.2 = 0 := by by_cases q : (rdF b k1).2.2 = 0; exact q; exact absurd q hf
      obtain ⟨f1, f2, f3, f4, f5⟩ := rdF_le hf0
      have f6 := (rdF_inv (b := b) (k := k1) (f := (rdF b k1).1) (nx := (rdF b k1).2.1) (by rw [← hf0])).2.2
      generalize rdF b k1 = F at *
      obtain ⟨f, k2, e2⟩ := F
      simp only at *
      split at h
      · rename_i hw2
        split at h
        · cases h
        · rename_i hr
          have cb2 := cnt_bd b k2 4096
          have hr0 : (cnt b k2 4096).2.2 = 0 := by by_cases q : (cnt b k2 4096).2.2 = 0; exact q; exact absurd q hr
          obtain ⟨_, r2, r3⟩ := rdC_inv (cnt_rdC.1 (show cnt b k2 4096 = ((cnt b k2 4096).1, (cnt b k2 4096).2.1, 0) by rw [← hr0]))
          generalize cnt b k2 4096 = c2 at *
          obtain ⟨r, k3, e3⟩ := c2
          simp only at *
          split at h
          · cases h
          · rename_i hn
            have cb3 := cnt_bd b k3 5
            have hn0 : (cnt b k3 5).2.2 = 0 := by by_cases q : (cnt b k3 5).2.2 = 0; exact q; exact absurd q hn
            obtain ⟨_, n2, n3⟩ := rdC_inv (cnt_rdC.1 (show cnt b k3 5 = ((cnt b k3 5).1, (cnt b k3 5).2.1, 0) by rw [← hn0]))
            generalize cnt b k3 5 = c3 at *
            obtain ⟨n, k4, e4⟩ := c3
            simp only at *
            obtain ⟨s, hs, ht⟩ := Option.bind_eq_some_iff.1 h
            obtain ⟨l, k5⟩ := s
            obtain ⟨l1, l2, l3⟩ := bodyR_inv _ _ _ _ ⟨by omega, by omega⟩ hs
            have l4 := l3.bd
            obtain ⟨t1, t2, t3, t4, t5, t6⟩ := tailR_inv ⟨by simp only; omega, by simp only; omega⟩ ht
            obtain ⟨xf, xw, xr, xb, xt⟩ := x
            simp only at t1 t2 t3 t4 t5 t6
            subst t1; subst t2; subst t3; subst t4
            have hln : ((xb.length : Nat) : Int) = n := by omega
            refine ⟨?_, ⟨⟨t5, ?_, ?_, ?_⟩, ?_⟩, ?_⟩
            · rw [goodX, Bool.and_eq_true]
              have hmx : (1 ≤ (2 : Int) ∧ (2 : Int) ≤ 3) ∧ (0 ≤ xr ∧ xr ≤ 4096) ∧ xb.length ≤ 5 ∧ ((2 : Int) = 2 ∨ xr = 0 ∧ xb.length = 0) := ⟨⟨by omega, by omega⟩, ⟨by omega, by omega⟩, by omega, .inl rfl⟩
              refine ⟨decide_eq_true hmx, ?_⟩
              rw [facX, List.all_cons, f4, Bool.true_and, List.all_eq_true]
              exact fun g hg => (l2 g hg).1
            · exact Nat.le_trans (chkF_iff f4).2.2.2.1 (by decide)
            · simp only; omega
            · exact fun g hg => Nat.le_trans (chkF_iff (l2 g hg).1).2.2.2.1 (by decide)
            · intro g hg
              rcases List.mem_cons.1 hg with rfl | hg
              · exact f5
              · exact (l2 g hg).2
            · simp only [WX, if_true, hln]
              rw [hw2] at i3
              refine i3.app (f6.app ?_)
              rw [List.append_assoc, List.append_assoc]
              exact r3.app (n3.app (l3.app t6))
      · rename_i hw2
        obtain ⟨t1, t2, t3, t4, t5, t6⟩ := tailR_inv ⟨by simp only; omega, by simp only; omega⟩ h
        obtain ⟨xf, xw, xr, xb, xt⟩ := x
        simp only at t1 t2 t3 t4 t5 t6
        subst t1; subst t2; subst t3; subst t4
        refine ⟨?_, ⟨⟨t5, ?_, by simp, by simp⟩, ?_⟩, ?_⟩
        · rw [goodX, Bool.and_eq_true]
          have hmx : (1 ≤ xw ∧ xw ≤ 3) ∧ ((0 : Int) ≤ 0 ∧ (0 : Int) ≤ 4096) ∧ (0 : Nat) ≤ 5 ∧ (xw = 2 ∨ (0 : Int) = 0 ∧ (0 : Nat) = 0) := ⟨⟨by omega, by omega⟩, ⟨by omega, by omega⟩, by omega, .inr ⟨rfl, rfl⟩⟩
          refine ⟨decide_eq_true hmx, ?_⟩
          rw [facX, List.all_cons, f4]; rfl
        · exact Nat.le_trans (chkF_iff f4).2.2.2.1 (by decide)
        · intro g hg
          rcases List.mem_cons.1 hg with rfl | hg
          · exact f5
          · cases hg
        · simp only [WX, if_neg hw2, List.nil_append]
          exact i3.app (f6.app t6)
end Go.Proofs.YtdbicadncccpoaaGreat

set_option linter.unusedVariables false
set_option linter.unusedSimpArgs false
set_option maxRecDepth 100000
namespace Go.Proofs.YtdbicadncccpoaaGreat
open Go Go.ChangeShapes Go.WideShapes
/-! cert.Decode. -/
def decL (b : List UInt8) : Nat → Int → Option (List Ntr × Int)
  | 0, k => some ([], k)
  | n + 1, k => match stepR b k with
    | none => none
    | some s => (decL b n s.2).map fun t => (s.1 :: t.1, t.2)
def decR (b : List UInt8) : Option (List Ntr) := if (cnt b 0 4096).2.2 ≠ 0 then none else (decL b (cnt b 0 4096).1.toNat (cnt b 0 4096).2.1).bind fun t => if t.2 = b.length then some t.1 else none
def decV : Option (List Ntr) → AV
  | none => .tup [.d (.sl 39 0 []), .d (.c (.int .i64 190))]
  | some l => .tup [.d (.sl 39 l.length (flE l)), .d (.c (.int .i64 0))]
def deSt (b : List UInt8) (n : Nat) (k : Int) (acc : List Ntr) (i : Nat) : List (Nat × AV) := [(0, .d (.sl 1 b.length (bD b))), (5, .d (.c (.int .i64 k))), (7, .sl (.own 0) 39 acc.length (flE acc)), (19, .d (.c (.int .i64 (n : Int)))), (20, .d (.c (.int .i64 i)))]
def deRe (acc : List Ntr) : Rs := [some (.tok (flE acc).length)]
set_option maxHeartbeats 800000 in
theorem decode_ac (b : List UInt8) (hb : b.length ≤ 140737488355000) : AC Tryz.prog noG 9 [.d (.sl 1 b.length (bD b))] [] (fun v r' => v = decV (decR b) ∧ r' = []) := by
  refine AC.fit ?_
  refine AC_of_R (N := 42) (res := [.tmp 2, .tmp 3]) ty_ok Tryz.call9 Tryz.func9 rfl rfl rfl (Nat.le_of_ble_eq_true rfl) ?_
  have hz : ([UInt8.ofNat 0, UInt8.ofNat 0, UInt8.ofNat 0, UInt8.ofNat 0, UInt8.ofNat 0, UInt8.ofNat 0, UInt8.ofNat 0, UInt8.ofNat 0, UInt8.ofNat 0, UInt8.ofNat 0, UInt8.ofNat 0, UInt8.ofNat 0, UInt8.ofNat 0, UInt8.ofNat 0, UInt8.ofNat 0, UInt8.ofNat 0, UInt8.ofNat 0, UInt8.ofNat 0, UInt8.ofNat 0, UInt8.ofNat 0, UInt8.ofNat 0, UInt8.ofNat 0, UInt8.ofNat 0, UInt8.ofNat 0, UInt8.ofNat 0, UInt8.ofNat 0, UInt8.ofNat 0, UInt8.ofNat 0, UInt8.ofNat 0, UInt8.ofNat 0, UInt8.ofNat 0, UInt8.ofNat 0] : List UInt8) = tgz := rfl
  obtain ⟨z1, z2, z3, z4, z5, z6⟩ := tg32 tgz rfl
  have z7 : (tA tgz).drop 32 = [] := List.drop_of_length_le (by omega)
  have kc := count_ac b 0 4096 (by decide) (by decide) hb
  have cb := cnt_bd b 0 4096
  have hR : decR b = _ := decR.eq_1 b
  generalize decR b = R at *
  generalize cnt b 0 4096 = c1 at *
  obtain ⟨n, k1, e1⟩ := c1
  simp only at hR cb
  refine rn0 ?_
  refine HO_pureA ty_ok kc ?_
  by_cases he1 : e1 = 0
  · rw [if_neg (fun h => h he1)] at hR
    obtain ⟨nn, hnn⟩ : ∃ nn : Nat, n = nn := ⟨n.toNat, by omega⟩
    subst hnn
    rw [Int.toNat_natCast] at hR
    have hkb : 0 ≤ k1 ∧ k1 ≤ (b.length : Int) := by omega
    have hn5 : nn ≤ 4096 := by omega
    refine rn1 (jn @tri.eq_1 @he1) ?_
    refine HC_loopR (fun z : Nat × List Ntr × Int => deSt b nn z.2.2 z.2.1 z.1) (fun z => deRe z.2.1) (fun z => z.1 ≤ nn ∧ (0 ≤ z.2.2 ∧ z.2.2 ≤ b.length) ∧ z.2.1.length = z.1 ∧ decL b nn k1 = (decL b (nn - z.1) z.2.2).map fun s => (z.2.1 ++ s.1, s.2)) (fun z => nn - z.1) (0, [], k1) [0] [0] ⟨Nat.zero_le _, hkb, rfl, by cases decL b nn k1 <;> rfl⟩ ?_ ?_
    · have e0 : flE [] = [] := rfl
      exact ft1 (jn @e0 (jn @deSt.eq_1 @deRe.eq_1))
    rintro ⟨i, acc, kk⟩ ⟨hi1, ⟨hk0, hk1⟩, hal, hbr⟩
    simp only at hi1 hk0 hk1 hal hbr
    refine HC_of_R ty_ok ?_
    by_cases hlt : i < nn
    · have hi : (i : Int) < nn := by omega
      obtain ⟨m, hm⟩ : ∃ m, nn - i = m + 1 := ⟨nn - i - 1, by omega⟩
      rw [hm, decL] at hbr
      have ks := step_ac b hb kk (by omega) (by omega)
      refine rn1 (jn @deSt.eq_1 (jn @deRe.eq_1 @hi)) ?_
      cases hs : stepR b kk with
      | none =>
        rw [hs] at hbr ks
        rw [hbr] at hR
        have hR : R = none := hR
        subst hR
        refine HO_callX ty_ok [] ks (trivial) rfl ?_
        rintro v r' ⟨x, hxt, rfl, rfl⟩ _
        obtain ⟨t1, t2, t3, t4, t5, t6⟩ := tg32 x.tg hxt
        simp only [entE, fctE, List.cons_append, List.nil_append]
        refine rn1 (jn @hz (jn @z1 (jn @z2 (jn @z3 (jn @z4 (jn @z5 (jn @z6 (jn @z7 (jn @t1 (jn @t2 (jn @t3 (jn @t4 (jn @t5 (jn @t6 @tA_allD)))))))))))))) ?_
        simp only [decV]
        exact fv0 [] []
      | some s =>
        obtain ⟨x, kn⟩ := s
        obtain ⟨hgx, hox, hat⟩ := step_inv hs
        have hbd := hat.bd
        rw [hs] at hbr ks
        refine HO_callX ty_ok [] ks (trivial) rfl ?_
        rintro v r' ⟨rfl, rfl⟩ _
        obtain ⟨t1, t2, t3, t4, t5, t6⟩ := tg32 x.tg hox.1.1
        simp only [entE, fctE, List.cons_append, List.nil_append]
        refine rn1 (jn @hz (jn @z1 (jn @z2 (jn @z3 (jn @z4 (jn @z5 (jn @z6 (jn @z7 (jn @t1 (jn @t2 (jn @t3 (jn @t4 (jn @t5 (jn @t6 @tA_allD)))))))))))))) ?_
        (repeat (refine And.intro (by omega) ?_))
        have h39 : (flE (acc ++ [x])).length = (flE acc).length + 39 := by rw [flE_snoc, List.length_append, entE_len hox.1.1]
        refine ⟨(i + 1, acc ++ [x], kn), ⟨by simp only; omega, ⟨by simp only; omega, by simp only; omega⟩, by simp [hal], ?_⟩, by simp only; omega, [0], [], ?_⟩
        · rw [hbr, show nn - (i + 1) = m by omega]
          show Option.map _ (Option.map _ (decL b m kn)) = Option.map _ (decL b m kn)
          cases decL b m kn <;> simp
        · simp only [deSt, deRe, h39, List.length_append, List.length_singleton]
          simp only [flE_snoc, entE, fctE, List.cons_append, List.nil_append]
          exact ft1 @tA_wf
    · have hi : ¬ (i : Int) < nn := by omega
      rw [show nn - i = 0 by omega, decL] at hbr
      rw [hbr] at hR
      simp only [Option.map_some, Option.bind_some, List.append_nil] at hR
      by_cases hk : kk = (b.length : Int)
      · rw [if_pos hk] at hR
        subst hR
        refine rn1 (jn @deSt.eq_1 (jn @deRe.eq_1 (jn @hi @hk))) ?_
        simp only [decV]
        exact fv0 [] []
      · rw [if_neg hk] at hR
        subst hR
        refine rn1 (jn @deSt.eq_1 (jn @deRe.eq_1 (jn @hi @hk))) ?_
        simp only [decV]
        exact fv0 [] []
  · rw [if_pos he1] at hR
    subst hR
    refine rn1 (jn @tri.eq_1 @he1) ?_
    simp only [decV]
    exact fv0 [] []
end Go.Proofs.YtdbicadncccpoaaGreat

set_option linter.unusedVariables false
set_option linter.unusedSimpArgs false
set_option maxRecDepth 100000
namespace Go.Proofs.YtdbicadncccpoaaGreat
open Go Go.ChangeShapes Go.WideShapes
/-! Certificates laid and read. -/
def catX : List Ntr → List UInt8
  | [] => []
  | x :: l => WX x ++ catX l
theorem foldE_cat : ∀ (l : List Ntr) (b : List UInt8), (∀ x ∈ l, mayX x = true) → l.foldl entB b = b ++ catX l
  | [], b, _ => by rw [catX, List.append_nil]; rfl
  | x :: l, b, h => by
    rw [List.foldl_cons, foldE_cat l _ (fun y hy => h y (by simp [hy])), entB_W b x (h x (by simp)), catX, List.append_assoc]
theorem good_may {x : Ntr} (h : goodX x = true) : mayX x = true := by rw [goodX, Bool.and_eq_true] at h; exact h.1
theorem decL_inv {b : List UInt8} : ∀ (n : Nat) (k nx : Int) (l : List Ntr), (0 ≤ k ∧ k ≤ b.length) → decL b n k = some (l, nx) → l.length = n ∧ (∀ x ∈ l, goodX x = true ∧ okX x) ∧ At b k (catX l) nx
  | 0, k, nx, l, hk, h => by
    rw [decL] at h
    injection h with h
    injection h with h1 h2
    subst h1; subst h2
    exact ⟨rfl, by simp, At.nil hk.1 hk.2⟩
  | n + 1, k, nx, l, hk, h => by
    rw [decL] at h
    cases hs : stepR b k with
    | none => rw [hs] at h; cases h
    | some s =>
      obtain ⟨x, kn⟩ := s
      rw [hs] at h
      obtain ⟨i1, i2, i3⟩ := step_inv hs
      have hbd := i3.bd
      obtain ⟨t, ht, hl⟩ := Option.map_eq_some_iff.1 h
      obtain ⟨l2, nx2⟩ := t
      injection hl with hl hn
      subst hl; subst hn
      obtain ⟨j1, j2, j3⟩ := decL_inv n _ _ _ ⟨by omega, by omega⟩ ht
      refine ⟨by simp [j1], ?_, i3.app j3⟩
      intro y hy
      rcases List.mem_cons.1 hy with rfl | hy
      · exact ⟨i1, i2⟩
      · exact j2 y hy
/-- What is read is laid as the very bytes. -/
theorem decR_inv {b : List UInt8} {l : List Ntr} (h : decR b = some l) : encG l = true ∧ (∀ x ∈ l, okX x) ∧ encB l = b := by
  have cb := cnt_bd b 0 4096
  rw [decR] at h
  split at h
  · cases h
  · rename_i hn
    have hn0 : (cnt b 0 4096).2.2 = 0 := by by_cases q : (cnt b 0 4096).2.2 = 0; exact q; exact absurd q hn
    obtain ⟨_, n2, n3⟩ := rdC_inv (cnt_rdC.1 (show cnt b 0 4096 = ((cnt b 0 4096).1, (cnt b 0 4096).2.1, 0) from Prod.ext rfl (Prod.ext rfl hn0)))
    generalize cnt b 0 4096 = c1 at *
    obtain ⟨n, k1, e1⟩ := c1
    simp only at *
    obtain ⟨t, ht, hl⟩ := Option.bind_eq_some_iff.1 h
    split at hl
    · rename_i hend
      obtain ⟨l2, nx⟩ := t
      injection hl with hl
      simp only at hl hend
      subst hl
      obtain ⟨j1, j2, j3⟩ := decL_inv _ _ _ _ ⟨by omega, by omega⟩ ht
      have hln : ((l2.length : Nat) : Int) = n := by omega
      refine ⟨?_, fun x hx => (j2 x hx).2, ?_⟩
      · rw [encG, Bool.and_eq_true, decide_eq_true_eq, List.all_eq_true]
        exact ⟨by omega, fun x hx => (j2 x hx).1⟩
      · rw [encB, foldE_cat l2 _ (fun x hx => good_may (j2 x hx).1), hln]
        obtain ⟨p, r, hp, hk, hnx⟩ := (n3.app j3).parts
        have hp0 : p = [] := List.eq_nil_of_length_eq_zero (by omega)
        subst hp0
        rw [List.nil_append] at hp hnx
        have hr0 : r = [] := by
          refine List.eq_nil_of_length_eq_zero ?_
          have := congrArg List.length hp
          rw [List.length_append] at this
          omega
        rw [hr0, List.append_nil] at hp
        exact hp.symm
    · cases hl
end Go.Proofs.YtdbicadncccpoaaGreat

set_option linter.unusedVariables false
set_option linter.unusedSimpArgs false
set_option maxRecDepth 100000
namespace Go.Proofs.YtdbicadncccpoaaGreat
open Go Go.ChangeShapes Go.WideShapes
/-- Sizes that a call's data have. -/
def szF (f : Fct) : Prop := f.a.size ≤ 140737488352000 ∧ f.b.size ≤ 140737488352000 ∧ f.p.size ≤ 140737488352000 ∧ f.l.length ≤ 140737488352000 ∧ ∀ c ∈ f.l, c.s.size ≤ 140737488352000
def wfSt1 (l : List Fct) (m : Int) (x : Nat × Int) : List (Nat × AV) := [(0, .d (.sl 4 l.length (flatE fctE l))), (1, .d (.c (.int .i64 m))), (5, .d (.c (.int .i64 x.2))), (6, .d (.c (.int .i64 x.1)))]
def wfSt2 (l : List Fct) (m : Int) (i : Nat) (x : Nat × Int) : List (Nat × AV) := [(0, .d (.sl 4 l.length (flatE fctE l))), (1, .d (.c (.int .i64 m))), (5, .d (.c (.int .i64 x.2))), (6, .d (.c (.int .i64 i))), (7, .d (.c (.int .i64 x.1)))]
end Go.Proofs.YtdbicadncccpoaaGreat
