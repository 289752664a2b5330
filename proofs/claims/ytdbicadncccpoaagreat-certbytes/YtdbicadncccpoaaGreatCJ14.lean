/- Parts of the proof: RStp, RDcd, CSm. -/
import Derived.Test.YtdbicadncccpoaaGreatCJ12
import Derived.Test.YtdbicadncccpoaaGreatCJ10
import Derived.Test.YtdbicadncccpoaaGreatCJ6
import Derived.Test.YtdbicadncccpoaaGreatCJ13
set_option linter.unusedVariables false
set_option linter.unusedSimpArgs false
set_option maxRecDepth 100000
namespace Go.Proofs.YtdbicadncccpoaaGreat
open Go Go.ChangeShapes Go.WideShapes
/-! The document's step. -/
def ldU (T : List UInt8) (i : Nat) : List UInt8 := T.take i ++ List.replicate (32 - i) 0
theorem ldU_len (T : List UInt8) (i : Nat) (hT : T.length = 32) (h : i ≤ 32) : (ldU T i).length = 32 := by
  rw [ldU, List.length_append, List.length_take, List.length_replicate]; omega
theorem ldU_all (T : List UInt8) (hT : T.length = 32) : ldU T 32 = T := by
  rw [ldU, List.take_of_length_le (by omega)]; simp
theorem ldU_set (T : List UInt8) (i : Nat) (hT : T.length = 32) (h : i < 32) : (ldU T i).set i (T.getD i 0) = ldU T (i + 1) := by
  rw [ldU, List.set_append_right _ _ (by rw [List.length_take]; omega), List.length_take, Nat.min_eq_left (by omega), Nat.sub_self, show 32 - i = (32 - (i + 1)) + 1 by omega, List.replicate_succ, List.set_cons_zero, ldU, List.take_succ_eq_append_getElem (by omega), List.append_assoc, List.getD_eq_getElem?_getD, List.getElem?_eq_getElem (by omega)]; rfl
theorem tA_set7 (l : List UInt8) (o : Nat) (x : UInt8) : (tA l).set o (.d (.c (.int .u8 x.toNat))) = tA (l.set o x) := by rw [tA, tA, bD, bD, List.map_set, List.map_set]
theorem set7 {c0 c1 c2 c3 c4 c5 c6 v : AV} {L : List AV} (i : Nat) : (c0 :: c1 :: c2 :: c3 :: c4 :: c5 :: c6 :: L).set (7 + i) v = c0 :: c1 :: c2 :: c3 :: c4 :: c5 :: c6 :: L.set i v := by
  rw [Nat.add_comm]; rfl
def rstepO : Option (Ntr × Int) → AV → Rs → Prop
  | none, v, r' => ∃ x : Ntr, x.tg.length = 32 ∧ v = .tup [.d (.agg (entE x)), .d (.c (.int .i64 (-1)))] ∧ r' = []
  | some s, v, r' => v = .tup [.d (.agg (entE s.1)), .d (.c (.int .i64 s.2))] ∧ r' = []
def sfSt (b : List UInt8) (n : Nat) (k : Int) (i : Nat) : List (Nat × AV) := [(0, .d (.sl 1 b.length (bD b))), (1, .d (.c (.int .i64 k))), (4, .ptr 0 0), (6, .ptr 1 0), (7, .d (.c (.int .i64 (n : Int)))), (9, .d (.c (.int .i64 i)))]
def sgSt (b : List UInt8) (k : Int) (i : Nat) : List (Nat × AV) := [(0, .d (.sl 1 b.length (bD b))), (1, .d (.c (.int .i64 k))), (4, .ptr 0 0), (6, .ptr 1 0), (13, .d (.c (.int .i64 i)))]
def sfRe (f : Fct) (why rule : Int) (acc : List Fct) (T : List UInt8) : Rs := [zB, some (.obj ([.d (.c (.string f.a)), .d (.c (.string f.b)), .d (.c (.string f.p)), .d (.sl 3 f.l.length (flatE cstE f.l)), .d (.c (.int .i64 why)), .d (.c (.int .i64 rule)), .sl (.own 2) 4 acc.length (flatE fctE acc)] ++ tA T)), some (.tok (flatE fctE acc).length)]
theorem rstep_fail {v : AV} {r' : Rs} (f : Fct) (why rule : Int) (body : List Fct) (tg : List UInt8) (ht : tg.length = 32) (h : ∃ v1 r1 L F, (v1 = AV.tup [.d (.agg (.c (.string f.a) :: .c (.string f.b) :: .c (.string f.p) :: .sl 3 f.l.length (flatE cstE f.l) :: .c (.int .i64 why) :: .c (.int .i64 rule) :: .sl 4 body.length (flatE fctE body) :: bD tg)), .d (.c (.int .i64 (-1)))] ∧ r1 = []) ∧ FitV 0 L F v r' v1 r1) : ∃ v1 r1 L F, rstepO none v1 r1 ∧ FitV 0 L F v r' v1 r1 := by
  obtain ⟨v1, r1, L, F, ⟨rfl, rfl⟩, h⟩ := h
  exact ⟨_, _, L, F, ⟨⟨f, why, rule, body, tg⟩, ht, rfl, rfl⟩, h⟩
set_option maxHeartbeats 800000 in
theorem rstep_ac (b : List UInt8) (hb : b.length ≤ 140737488355000) (k : Int) (h0 : -9223372036854775808 ≤ k) (h1 : k ≤ 9223372036854775807) : AC Tryz.prog noG 29 [.d (.sl 1 b.length (bD b)), .d (.c (.int .i64 k))] [] (rstepO (stepR b k)) := by
  refine AC.fit ?_
  refine AC_of_R (N := 109) (res := [.cell 4 43, .tmp 5]) ty_ok Tryz.call29 Tryz.func29 rfl rfl rfl (Nat.le_of_ble_eq_true rfl) ?_
  have hz : ([UInt8.ofNat 0, UInt8.ofNat 0, UInt8.ofNat 0, UInt8.ofNat 0, UInt8.ofNat 0, UInt8.ofNat 0, UInt8.ofNat 0, UInt8.ofNat 0, UInt8.ofNat 0, UInt8.ofNat 0, UInt8.ofNat 0, UInt8.ofNat 0, UInt8.ofNat 0, UInt8.ofNat 0, UInt8.ofNat 0, UInt8.ofNat 0, UInt8.ofNat 0, UInt8.ofNat 0, UInt8.ofNat 0, UInt8.ofNat 0, UInt8.ofNat 0, UInt8.ofNat 0, UInt8.ofNat 0, UInt8.ofNat 0, UInt8.ofNat 0, UInt8.ofNat 0, UInt8.ofNat 0, UInt8.ofNat 0, UInt8.ofNat 0, UInt8.ofNat 0, UInt8.ofNat 0, UInt8.ofNat 0] : List UInt8) = tgz := rfl
  obtain ⟨z1, z2, z3, z4, z5, z6⟩ := tg32 tgz rfl
  have z7 : (tA tgz).drop 32 = [] := List.drop_of_length_le (by omega)
  have kc := rcount_ac b k 3 h0 h1 hb
  have cb := cnt_bd b k 3
  have hR : stepR b k = _ := stepR.eq_1 b k
  generalize stepR b k = R at *
  generalize cnt b k 3 = c1 at *
  obtain ⟨w, k1, e1⟩ := c1
  simp only at hR cb
  refine rn1 (jn @hz (jn @z1 (jn @z2 (jn @z3 (jn @z4 (jn @z5 (jn @z6 @tA_allD))))))) ?_
  refine HO_pureA ty_ok kc ?_
  by_cases he1 : e1 = 0
  · by_cases hw1 : w < 1
    · rw [if_pos (Or.inr hw1)] at hR
      refine rn1 (jn @tri.eq_1 (jn @he1 (jn @hw1 (jn @hz (jn @z1 (jn @z2 (jn @z3 (jn @z4 (jn @z5 (jn @z6 (jn @z7 @tA_allD))))))))))) ?_
      subst hR
      refine rstep_fail zE.zF0 0 0 [] tgz rfl ?_
      simp only [zE.zF0, flatE_nil, List.length_nil]
      exact fv0 [] []
    · rw [if_neg (fun h => h.elim (fun h => h he1) hw1)] at hR
      have kf := rrfact_ac b k1 hb (by omega) (by omega)
      have hle := fun h => rdF_le (b := b) (k := k1) h
      have hf0 := fun h => rdF_0 (b := b) (k := k1) h
      generalize rdF b k1 = F1 at *
      obtain ⟨f, k2, e2⟩ := F1
      simp only at hR hle hf0
      simp only [fcV, fctE, List.cons_append, List.nil_append] at kf
      refine rn1 (jn @tri.eq_1 (jn @he1 (jn @hw1 (jn @hz (jn @z1 (jn @z2 (jn @z3 (jn @z4 (jn @z5 (jn @z6 (jn @z7 @tA_allD))))))))))) ?_
      refine HO_pureA ty_ok kf ?_
      by_cases he2 : e2 = 0
      · rw [if_neg (fun h => h he2)] at hR
        obtain ⟨hl1, hl2, hl3, hl4, hl5⟩ := hle he2
        by_cases hw2 : w = 2
        · rw [if_pos hw2] at hR
          have kc2 := rcount_ac b k2 4096 (by omega) (by omega) hb
          have cb2 := cnt_bd b k2 4096
          generalize cnt b k2 4096 = c2 at *
          obtain ⟨r, k3, e3⟩ := c2
          simp only at hR cb2
          have kc3 := rcount_ac b k3 5 (by omega) (by omega) hb
          have cb3 := cnt_bd b k3 5
          generalize cnt b k3 5 = c3 at *
          obtain ⟨n, k4, e4⟩ := c3
          simp only at hR cb3
          refine rn1 (jn @he2 (jn @hw2 (jn @hz (jn @z1 (jn @z2 (jn @z3 (jn @z4 (jn @z5 (jn @z6 (jn @z7 @tA_allD)))))))))) ?_
          refine HO_pureA ty_ok kc2 ?_
          by_cases he3 : e3 = 0
          · rw [if_neg (fun h => h he3)] at hR
            refine rn1 (jn @tri.eq_1 (jn @he3 (jn @hz (jn @z1 (jn @z2 (jn @z3 (jn @z4 (jn @z5 (jn @z6 (jn @z7 @tA_allD)))))))))) ?_
            refine HO_pureA ty_ok kc3 ?_
            by_cases he4 : e4 = 0
            · rw [if_neg (fun h => h he4)] at hR
              obtain ⟨nn, hnn⟩ : ∃ nn : Nat, n = nn := ⟨n.toNat, by omega⟩
              subst hnn
              simp only [Int.toNat_natCast] at hR
              obtain ⟨kk0, hkk⟩ : ∃ kk0, kk0 = k4 := ⟨_, rfl⟩
              obtain ⟨ww, hww⟩ : ∃ ww : Int, ww = 2 := ⟨_, rfl⟩
              obtain ⟨rr, hrr⟩ : ∃ rr, rr = r := ⟨_, rfl⟩
              rw [← hkk, ← hww, ← hrr] at hR
              have hkb : 0 ≤ kk0 ∧ kk0 ≤ (b.length : Int) := by omega
              have hfx : True := trivial
              refine rn1 (jn @tri.eq_1 (jn @he4 (jn @hz (jn @z1 (jn @z2 (jn @z3 (jn @z4 (jn @z5 (jn @z6 (jn @z7 @tA_allD)))))))))) ?_
              refine HC_loopR (fun z : Nat × List Fct × Int => sfSt b nn z.2.2 z.1) (fun z => sfRe f ww rr z.2.1 tgz) (fun z => z.1 ≤ nn ∧ (0 ≤ z.2.2 ∧ z.2.2 ≤ b.length) ∧ z.2.1.length = z.1 ∧ bodyR b nn kk0 = (bodyR b (nn - z.1) z.2.2).map fun s => (z.2.1 ++ s.1, s.2)) (fun z => nn - z.1) (0, [], kk0) [0, 1, 2] [0] ⟨Nat.zero_le _, hkb, rfl, by cases bodyR b nn kk0 <;> rfl⟩ ?_ ?_
              · exact ft1 (jn @hfx (jn @hkk (jn @hww (jn @hrr (jn @sfSt.eq_1 (jn @sfRe.eq_1 (jn @zB.eq_1 (jn @flatE_nil @tA_wf))))))))
              rintro ⟨i, acc, kk⟩ ⟨hi1, ⟨hk0, hk1⟩, hal, hbr⟩
              simp only at hi1 hk0 hk1 hal hbr
              refine HC_of_R ty_ok ?_
              by_cases hlt : i < nn
              · have hi : (i : Int) < nn := by omega
                obtain ⟨m, hm⟩ : ∃ m, nn - i = m + 1 := ⟨nn - i - 1, by omega⟩
                rw [hm, bodyR] at hbr
                have kg := rrfact_ac b kk hb (by omega) (by omega)
                have hle2 := fun h => rdF_le (b := b) (k := kk) h
                generalize rdF b kk = F2 at *
                obtain ⟨g, kn, e9⟩ := F2
                simp only at hbr hle2
                simp only [fcV, fctE, List.cons_append, List.nil_append] at kg
                refine rn1 (jn @sfSt.eq_1 (jn @sfRe.eq_1 (jn @zB.eq_1 (jn @hi (jn @hz (jn @z1 (jn @z2 (jn @z3 (jn @z4 (jn @z5 (jn @z6 (jn @z7 @tA_allD)))))))))))) ?_
                refine HO_pureA ty_ok kg ?_
                by_cases he9 : e9 = 0
                · rw [if_pos he9] at hbr
                  obtain ⟨q1, q2, q3, q4, q5⟩ := hle2 he9
                  refine rn1 (jn @he9 (jn @hz (jn @z1 (jn @z2 (jn @z3 (jn @z4 (jn @z5 (jn @z6 (jn @z7 @tA_allD))))))))) ?_
                  (repeat (refine And.intro (by omega) ?_))
                  refine ⟨(i + 1, acc ++ [g], kn), ⟨by simp only; omega, ⟨by simp only; omega, by simp only; omega⟩, by simp [hal], ?_⟩, by simp only; omega, [0, 1, 2], [], ?_⟩
                  · rw [hbr, show nn - (i + 1) = m by omega]
                    cases bodyR b m kn <;> simp
                  · exact ft1 (jn @sfSt.eq_1 (jn @sfRe.eq_1 (jn @zB.eq_1 (jn @tA_wf (jn @flatE_app (jn @flatE_cons (jn @flatE_nil @fctE.eq_1)))))))
                · rw [if_neg he9] at hbr
                  rw [hbr] at hR
                  have hR : R = none := hR
                  subst hR
                  refine rn1 (jn @he9 (jn @hz (jn @z1 (jn @z2 (jn @z3 (jn @z4 (jn @z5 (jn @z6 (jn @z7 @tA_allD))))))))) ?_
                  refine rstep_fail f ww rr acc tgz rfl ?_
                  exact fv0 [] []
              · have hi : ¬ (i : Int) < nn := by omega
                rw [show nn - i = 0 by omega, bodyR] at hbr
                rw [hbr] at hR
                simp only [Option.map_some, Option.bind_some, List.append_nil] at hR
                by_cases hn32 : (b.length : Int) - kk < 32
                · rw [tailR, if_pos hn32] at hR
                  subst hR
                  refine rn1 (jn @sfSt.eq_1 (jn @sfRe.eq_1 (jn @zB.eq_1 (jn @hi (jn @hn32 (jn @hz (jn @z1 (jn @z2 (jn @z3 (jn @z4 (jn @z5 (jn @z6 (jn @z7 @tA_allD))))))))))))) ?_
                  refine rstep_fail f ww rr acc tgz rfl ?_
                  exact fv0 [] []
                · rw [tailR, if_neg hn32] at hR
                  subst hR
                  refine rn1 (jn @sfSt.eq_1 (jn @sfRe.eq_1 (jn @zB.eq_1 (jn @hi (jn @hn32 (jn @hz (jn @z1 (jn @z2 (jn @z3 (jn @z4 (jn @z5 (jn @z6 (jn @z7 @tA_allD))))))))))))) ?_
                  obtain ⟨kn, rfl⟩ : ∃ kn : Nat, kk = kn := ⟨kk.toNat, by omega⟩
                  obtain ⟨T, hT⟩ : ∃ T, T = (b.drop kn).take 32 := ⟨_, rfl⟩
                  have hTl : T.length = 32 := by rw [hT, List.length_take, List.length_drop]; omega
                  have l0 : ldU T 0 = tgz := rfl
                  refine HC_loopR (fun i : Nat => sgSt b kn i) (fun i => sfRe f ww rr acc (ldU T i)) (fun i => i ≤ 32) (fun i => 32 - i) 0 [0, 1, 2] [] (by omega) ?_ ?_
                  · exact ft1 (jn @l0 (jn @sgSt.eq_1 (jn @sfRe.eq_1 (jn @zB.eq_1 @tA_wf))))
                  intro i hi32
                  refine HC_of_R ty_ok ?_
                  have hLl := ldU_len T i hTl hi32
                  obtain ⟨y1, y2, y3, y4, y5, y6⟩ := tg32 (ldU T i) hLl
                  by_cases hlt3 : i < 32
                  · have hI : (i : Int) < 32 := by omega
                    have hgT : b.getD (kn + i) 0 = T.getD i 0 := by
                      rw [hT, List.getD_eq_getElem?_getD, List.getD_eq_getElem?_getD, List.getElem?_take, if_pos hlt3, List.getElem?_drop]
                    have e0 : ((kn : Int) + (i : Int)).toNat = kn + i := by omega
                    have hS : (ldU T i).set i (b.getD (kn + i) 0) = ldU T (i + 1) := by rw [hgT]; exact ldU_set T i hTl hlt3
                    refine rn1 (jn @sgSt.eq_1 (jn @sfRe.eq_1 (jn @zB.eq_1 (jn @z1 (jn @z2 (jn @z3 (jn @z4 (jn @z5 (jn @z6 (jn @hI (jn @y1 (jn @y2 (jn @y3 (jn @y4 (jn @y5 (jn @y6 (jn @set7 (jn @e0 (jn @tA_set7 (jn @hS @tA_allD)))))))))))))))))))) ?_
                    (repeat (refine And.intro (by omega) ?_))
                    refine ⟨i + 1, by omega, by omega, [0, 1, 2], [], ?_⟩
                    exact ft1 (jn @sgSt.eq_1 (jn @sfRe.eq_1 (jn @zB.eq_1 @tA_wf)))
                  · have hI : ¬ (i : Int) < 32 := by omega
                    have h32 : i = 32 := by omega
                    subst h32
                    rw [ldU_all T hTl] at y1 y2 y3 y4 y5 y6
                    have hTa := ldU_all T hTl
                    simp only [rstepO, Int.toNat_natCast, ← hT, entE, fctE, List.cons_append, List.nil_append]
                    refine rn1 (jn @sgSt.eq_1 (jn @sfRe.eq_1 (jn @zB.eq_1 (jn @hI (jn @hTa (jn @z1 (jn @z2 (jn @z3 (jn @z4 (jn @z5 (jn @z6 (jn @z7 (jn @y1 (jn @y2 (jn @y3 (jn @y4 (jn @y5 (jn @y6 @tA_allD)))))))))))))))))) ?_
                    (repeat (refine And.intro (by omega) ?_))
                    exact fv0 [] []
            · rw [if_pos he4] at hR
              refine rn1 (jn @tri.eq_1 (jn @he4 (jn @hz (jn @z1 (jn @z2 (jn @z3 (jn @z4 (jn @z5 (jn @z6 (jn @z7 @tA_allD)))))))))) ?_
              subst hR
              refine rstep_fail f 2 r [] tgz rfl ?_
              simp only [zE.zF0, flatE_nil, List.length_nil]
              exact fv0 [] []
          · rw [if_pos he3] at hR
            refine rn1 (jn @tri.eq_1 (jn @he3 (jn @hz (jn @z1 (jn @z2 (jn @z3 (jn @z4 (jn @z5 (jn @z6 (jn @z7 @tA_allD)))))))))) ?_
            subst hR
            refine rstep_fail f 2 r [] tgz rfl ?_
            simp only [zE.zF0, flatE_nil, List.length_nil]
            exact fv0 [] []
        · rw [if_neg hw2] at hR
          obtain ⟨kk0, hkk⟩ : ∃ kk0, kk0 = k2 := ⟨_, rfl⟩
          obtain ⟨ww, hww⟩ : ∃ ww, ww = w := ⟨_, rfl⟩
          obtain ⟨rr, hrr⟩ : ∃ rr : Int, rr = 0 := ⟨_, rfl⟩
          obtain ⟨nn, hnn⟩ : ∃ nn : Nat, nn = 0 := ⟨_, rfl⟩
          have hR : R = (bodyR b nn kk0).bind (tailR b f ww rr) := by rw [hR, hnn, hkk, hww, hrr]; rfl
          have hkb : 0 ≤ kk0 ∧ kk0 ≤ (b.length : Int) := by omega
          have hfx : (nn : Int) = 0 := by omega
          refine rn1 (jn @he2 (jn @hw2 (jn @hz (jn @z1 (jn @z2 (jn @z3 (jn @z4 (jn @z5 (jn @z6 (jn @z7 @tA_allD)))))))))) ?_
          refine HC_loopR (fun z : Nat × List Fct × Int => sfSt b nn z.2.2 z.1) (fun z => sfRe f ww rr z.2.1 tgz) (fun z => z.1 ≤ nn ∧ (0 ≤ z.2.2 ∧ z.2.2 ≤ b.length) ∧ z.2.1.length = z.1 ∧ bodyR b nn kk0 = (bodyR b (nn - z.1) z.2.2).map fun s => (z.2.1 ++ s.1, s.2)) (fun z => nn - z.1) (0, [], kk0) [0, 1, 2] [0] ⟨Nat.zero_le _, hkb, rfl, by cases bodyR b nn kk0 <;> rfl⟩ ?_ ?_
          · exact ft1 (jn @hfx (jn @hkk (jn @hww (jn @hrr (jn @sfSt.eq_1 (jn @sfRe.eq_1 (jn @zB.eq_1 (jn @flatE_nil @tA_wf))))))))
          rintro ⟨i, acc, kk⟩ ⟨hi1, ⟨hk0, hk1⟩, hal, hbr⟩
          simp only at hi1 hk0 hk1 hal hbr
          refine HC_of_R ty_ok ?_
          by_cases hlt : i < nn
          · have hi : (i : Int) < nn := by omega
            obtain ⟨m, hm⟩ : ∃ m, nn - i = m + 1 := ⟨nn - i - 1, by omega⟩
            rw [hm, bodyR] at hbr
            have kg := rrfact_ac b kk hb (by omega) (by omega)
            have hle2 := fun h => rdF_le (b := b) (k := kk) h
            generalize rdF b kk = F2 at *
            obtain ⟨g, kn, e9⟩ := F2
            simp only at hbr hle2
            simp only [fcV, fctE, List.cons_append, List.nil_append] at kg
            refine rn1 (jn @sfSt.eq_1 (jn @sfRe.eq_1 (jn @zB.eq_1 (jn @hi (jn @hz (jn @z1 (jn @z2 (jn @z3 (jn @z4 (jn @z5 (jn @z6 (jn @z7 @tA_allD)))))))))))) ?_
            refine HO_pureA ty_ok kg ?_
            by_cases he9 : e9 = 0
            · rw [if_pos he9] at hbr
              obtain ⟨q1, q2, q3, q4, q5⟩ := hle2 he9
              refine rn1 (jn @he9 (jn @hz (jn @z1 (jn @z2 (jn @z3 (jn @z4 (jn @z5 (jn @z6 (jn @z7 @tA_allD))))))))) ?_
              (repeat (refine And.intro (by omega) ?_))
              refine ⟨(i + 1, acc ++ [g], kn), ⟨by simp only; omega, ⟨by simp only; omega, by simp only; omega⟩, by simp [hal], ?_⟩, by simp only; omega, [0, 1, 2], [], ?_⟩
              · rw [hbr, show nn - (i + 1) = m by omega]
                cases bodyR b m kn <;> simp
              · exact ft1 (jn @sfSt.eq_1 (jn @sfRe.eq_1 (jn @zB.eq_1 (jn @tA_wf (jn @flatE_app (jn @flatE_cons (jn @flatE_nil @fctE.eq_1)))))))
            · rw [if_neg he9] at hbr
              rw [hbr] at hR
              have hR : R = none := hR
              subst hR
              refine rn1 (jn @he9 (jn @hz (jn @z1 (jn @z2 (jn @z3 (jn @z4 (jn @z5 (jn @z6 (jn @z7 @tA_allD))))))))) ?_
              refine rstep_fail f ww rr acc tgz rfl ?_
              exact fv0 [] []
          · have hi : ¬ (i : Int) < nn := by omega
            rw [show nn - i = 0 by omega, bodyR] at hbr
            rw [hbr] at hR
            simp only [Option.map_some, Option.bind_some, List.append_nil] at hR
            by_cases hn32 : (b.length : Int) - kk < 32
            · rw [tailR, if_pos hn32] at hR
              subst hR
              refine rn1 (jn @sfSt.eq_1 (jn @sfRe.eq_1 (jn @zB.eq_1 (jn @hi (jn @hn32 (jn @hz (jn @z1 (jn @z2 (jn @z3 (jn @z4 (jn @z5 (jn @z6 (jn @z7 @tA_allD))))))))))))) ?_
              refine rstep_fail f ww rr acc tgz rfl ?_
              exact fv0 [] []
            · rw [tailR, if_neg hn32] at hR
              subst hR
              refine rn1 (jn @sfSt.eq_1 (jn @sfRe.eq_1 (jn @zB.eq_1 (jn @hi (jn @hn32 (jn @hz (jn @z1 (jn @z2 (jn @z3 (jn @z4 (jn @z5 (jn @z6 (jn @z7 @tA_allD))))))))))))) ?_
              obtain ⟨kn, rfl⟩ : ∃ kn : Nat, kk = kn := ⟨kk.toNat, by omega⟩
              obtain ⟨T, hT⟩ : ∃ T, T = (b.drop kn).take 32 := ⟨_, rfl⟩
              have hTl : T.length = 32 := by rw [hT, List.length_take, List.length_drop]; omega
              have l0 : ldU T 0 = tgz := rfl
              refine HC_loopR (fun i : Nat => sgSt b kn i) (fun i => sfRe f ww rr acc (ldU T i)) (fun i => i ≤ 32) (fun i => 32 - i) 0 [0, 1, 2] [] (by omega) ?_ ?_
              · exact ft1 (jn @l0 (jn @sgSt.eq_1 (jn @sfRe.eq_1 (jn @zB.eq_1 @tA_wf))))
              intro i hi32
              refine HC_of_R ty_ok ?_
              have hLl := ldU_len T i hTl hi32
              obtain ⟨y1, y2, y3, y4, y5, y6⟩ := tg32 (ldU T i) hLl
              by_cases hlt3 : i < 32
              · have hI : (i : Int) < 32 := by omega
                have hgT : b.getD (kn + i) 0 = T.getD i 0 := by
                  rw [hT, List.getD_eq_getElem?_getD, List.getD_eq_getElem?_getD, List.getElem?_take, if_pos hlt3, List.getElem?_drop]
                have e0 : ((kn : Int) + (i : Int)).toNat = kn + i := by omega
                have hS : (ldU T i).set i (b.getD (kn + i) 0) = ldU T (i + 1) := by rw [hgT]; exact ldU_set T i hTl hlt3
                refine rn1 (jn @sgSt.eq_1 (jn @sfRe.eq_1 (jn @zB.eq_1 (jn @z1 (jn @z2 (jn @z3 (jn @z4 (jn @z5 (jn @z6 (jn @hI (jn @y1 (jn @y2 (jn @y3 (jn @y4 (jn @y5 (jn @y6 (jn @set7 (jn @e0 (jn @tA_set7 (jn @hS @tA_allD)))))))))))))))))))) ?_
                (repeat (refine And.intro (by omega) ?_))
                refine ⟨i + 1, by omega, by omega, [0, 1, 2], [], ?_⟩
                exact ft1 (jn @sgSt.eq_1 (jn @sfRe.eq_1 (jn @zB.eq_1 @tA_wf)))
              · have hI : ¬ (i : Int) < 32 := by omega
                have h32 : i = 32 := by omega
                subst h32
                rw [ldU_all T hTl] at y1 y2 y3 y4 y5 y6
                have hTa := ldU_all T hTl
                simp only [rstepO, Int.toNat_natCast, ← hT, entE, fctE, List.cons_append, List.nil_append]
                refine rn1 (jn @sgSt.eq_1 (jn @sfRe.eq_1 (jn @zB.eq_1 (jn @hI (jn @hTa (jn @z1 (jn @z2 (jn @z3 (jn @z4 (jn @z5 (jn @z6 (jn @z7 (jn @y1 (jn @y2 (jn @y3 (jn @y4 (jn @y5 (jn @y6 @tA_allD)))))))))))))))))) ?_
                (repeat (refine And.intro (by omega) ?_))
                exact fv0 [] []
      · rw [if_pos he2] at hR
        refine rn1 (jn @he2 (jn @hz (jn @z1 (jn @z2 (jn @z3 (jn @z4 (jn @z5 (jn @z6 (jn @z7 @tA_allD))))))))) ?_
        subst hR
        refine rstep_fail f w 0 [] tgz rfl ?_
        simp only [zE.zF0, flatE_nil, List.length_nil]
        exact fv0 [] []
  · rw [if_pos (Or.inl he1)] at hR
    refine rn1 (jn @tri.eq_1 (jn @he1 (jn @hz (jn @z1 (jn @z2 (jn @z3 (jn @z4 (jn @z5 (jn @z6 (jn @z7 @tA_allD)))))))))) ?_
    subst hR
    refine rstep_fail zE.zF0 0 0 [] tgz rfl ?_
    simp only [zE.zF0, flatE_nil, List.length_nil]
    exact fv0 [] []
end Go.Proofs.YtdbicadncccpoaaGreat

set_option linter.unusedVariables false
set_option linter.unusedSimpArgs false
set_option maxRecDepth 100000
namespace Go.Proofs.YtdbicadncccpoaaGreat
open Go Go.ChangeShapes Go.WideShapes
/-! The document's Decode. -/
def dfSt (b : List UInt8) (n : Nat) (k : Int) (acc : List Ntr) (i : Nat) : List (Nat × AV) := [(0, .d (.sl 1 b.length (bD b))), (4, .d (.c (.int .i64 (n : Int)))), (5, .d (.c (.int .i64 k))), (7, .sl (.own 0) 39 acc.length (flE acc)), (8, .d (.c (.int .i64 i)))]
def dfRe (acc : List Ntr) : Rs := [some (.tok (flE acc).length)]
set_option maxHeartbeats 800000 in
theorem rdecode_ac (b : List UInt8) (hb : b.length ≤ 140737488355000) : AC Tryz.prog noG 10 [.d (.sl 1 b.length (bD b))] [] (fun v r' => v = decV (decR b) ∧ r' = []) := by
  refine AC.fit ?_
  refine AC_of_R (N := 42) (res := [.tmp 2, .tmp 3]) ty_ok Tryz.call10 Tryz.func10 rfl rfl rfl (Nat.le_of_ble_eq_true rfl) ?_
  have hz : ([UInt8.ofNat 0, UInt8.ofNat 0, UInt8.ofNat 0, UInt8.ofNat 0, UInt8.ofNat 0, UInt8.ofNat 0, UInt8.ofNat 0, UInt8.ofNat 0, UInt8.ofNat 0, UInt8.ofNat 0, UInt8.ofNat 0, UInt8.ofNat 0, UInt8.ofNat 0, UInt8.ofNat 0, UInt8.ofNat 0, UInt8.ofNat 0, UInt8.ofNat 0, UInt8.ofNat 0, UInt8.ofNat 0, UInt8.ofNat 0, UInt8.ofNat 0, UInt8.ofNat 0, UInt8.ofNat 0, UInt8.ofNat 0, UInt8.ofNat 0, UInt8.ofNat 0, UInt8.ofNat 0, UInt8.ofNat 0, UInt8.ofNat 0, UInt8.ofNat 0, UInt8.ofNat 0, UInt8.ofNat 0] : List UInt8) = tgz := rfl
  obtain ⟨z1, z2, z3, z4, z5, z6⟩ := tg32 tgz rfl
  have z7 : (tA tgz).drop 32 = [] := List.drop_of_length_le (by omega)
  have kc := rcount_ac b 0 4096 (by decide) (by decide) hb
  have cb := cnt_bd b 0 4096
  have hR : decR b = _ := decR.eq_1 b
  generalize decR b = R at *
  generalize cnt b 0 4096 = c1 at *
  obtain ⟨n, k1, e1⟩ := c1
  simp only at hR cb
  refine rn0 ?_
  refine HO_pureA ty_ok kc ?_
  by_cases he1 : e1 = 0
  · rw [if_neg (fun h => h he1)] at hR
    obtain ⟨nn, hnn⟩ : ∃ nn : Nat, n = nn := ⟨n.toNat, by omega⟩
    subst hnn
    rw [Int.toNat_natCast] at hR
    have hkb : 0 ≤ k1 ∧ k1 ≤ (b.length : Int) := by omega
    have hn5 : nn ≤ 4096 := by omega
    refine rn1 (jn @tri.eq_1 @he1) ?_
    refine HC_loopR (fun z : Nat × List Ntr × Int => dfSt b nn z.2.2 z.2.1 z.1) (fun z => dfRe z.2.1) (fun z => z.1 ≤ nn ∧ (0 ≤ z.2.2 ∧ z.2.2 ≤ b.length) ∧ z.2.1.length = z.1 ∧ decL b nn k1 = (decL b (nn - z.1) z.2.2).map fun s => (z.2.1 ++ s.1, s.2)) (fun z => nn - z.1) (0, [], k1) [0] [0] ⟨Nat.zero_le _, hkb, rfl, by cases decL b nn k1 <;> rfl⟩ ?_ ?_
    · have e0 : flE [] = [] := rfl
      exact ft1 (jn @e0 (jn @dfSt.eq_1 @dfRe.eq_1))
    rintro ⟨i, acc, kk⟩ ⟨hi1, ⟨hk0, hk1⟩, hal, hbr⟩
    simp only at hi1 hk0 hk1 hal hbr
    refine HC_of_R ty_ok ?_
    by_cases hlt : i < nn
    · have hi : (i : Int) < nn := by omega
      obtain ⟨m, hm⟩ : ∃ m, nn - i = m + 1 := ⟨nn - i - 1, by omega⟩
      rw [hm, decL] at hbr
      have ks := rstep_ac b hb kk (by omega) (by omega)
      refine rn1 (jn @dfSt.eq_1 (jn @dfRe.eq_1 @hi)) ?_
      cases hs : stepR b kk with
      | none =>
        rw [hs] at hbr ks
        rw [hbr] at hR
        have hR : R = none := hR
        subst hR
        refine HO_callX ty_ok [] ks (trivial) rfl ?_
        rintro v r' ⟨x, hxt, rfl, rfl⟩ _
        obtain ⟨t1, t2, t3, t4, t5, t6⟩ := tg32 x.tg hxt
        simp only [entE, fctE, List.cons_append, List.nil_append]
        refine rn1 (jn @hz (jn @z1 (jn @z2 (jn @z3 (jn @z4 (jn @z5 (jn @z6 (jn @z7 (jn @t1 (jn @t2 (jn @t3 (jn @t4 (jn @t5 (jn @t6 @tA_allD)))))))))))))) ?_
        simp only [decV]
        exact fv0 [] []
      | some s =>
        obtain ⟨x, kn⟩ := s
        obtain ⟨hgx, hox, hat⟩ := step_inv hs
        have hbd := hat.bd
        rw [hs] at hbr ks
        refine HO_callX ty_ok [] ks (trivial) rfl ?_
        rintro v r' ⟨rfl, rfl⟩ _
        obtain ⟨t1, t2, t3, t4, t5, t6⟩ := tg32 x.tg hox.1.1
        have hk9 : ¬ kn < 0 := by omega
        simp only [entE, fctE, List.cons_append, List.nil_append]
        refine rn1 (jn @hk9 (jn @hz (jn @z1 (jn @z2 (jn @z3 (jn @z4 (jn @z5 (jn @z6 (jn @z7 (jn @t1 (jn @t2 (jn @t3 (jn @t4 (jn @t5 (jn @t6 @tA_allD))))))))))))))) ?_
        (repeat (refine And.intro (by omega) ?_))
        have h39 : (flE (acc ++ [x])).length = (flE acc).length + 39 := by rw [flE_snoc, List.length_append, entE_len hox.1.1]
        refine ⟨(i + 1, acc ++ [x], kn), ⟨by simp only; omega, ⟨by simp only; omega, by simp only; omega⟩, by simp [hal], ?_⟩, by simp only; omega, [0], [], ?_⟩
        · rw [hbr, show nn - (i + 1) = m by omega]
          show Option.map _ (Option.map _ (decL b m kn)) = Option.map _ (decL b m kn)
          cases decL b m kn <;> simp
        · simp only [dfSt, dfRe, h39, List.length_append, List.length_singleton]
          simp only [flE_snoc, entE, fctE, List.cons_append, List.nil_append]
          exact ft1 @tA_wf
    · have hi : ¬ (i : Int) < nn := by omega
      rw [show nn - i = 0 by omega, decL] at hbr
      rw [hbr] at hR
      simp only [Option.map_some, Option.bind_some, List.append_nil] at hR
      by_cases hk : kk = (b.length : Int)
      · rw [if_pos hk] at hR
        subst hR
        have hkl : ¬ kk < (b.length : Int) := by omega
        refine rn1 (jn @dfSt.eq_1 (jn @dfRe.eq_1 (jn @hi @hkl))) ?_
        simp only [decV]
        exact fv0 [] []
      · rw [if_neg hk] at hR
        subst hR
        have hkl : kk < (b.length : Int) := by omega
        refine rn1 (jn @dfSt.eq_1 (jn @dfRe.eq_1 (jn @hi @hkl))) ?_
        simp only [decV]
        exact fv0 [] []
  · rw [if_pos he1] at hR
    subst hR
    refine rn1 (jn @tri.eq_1 @he1) ?_
    simp only [decV]
    exact fv0 [] []
end Go.Proofs.YtdbicadncccpoaaGreat

set_option linter.unusedVariables false
set_option linter.unusedSimpArgs false
set_option maxRecDepth 100000
namespace Go.Proofs.YtdbicadncccpoaaGreat
open Go Go.ChangeShapes Go.WideShapes
/-! cert.Same. -/
def eqfSt (l m : List Fct) (i : Nat) : List (Nat × AV) := [(1, .d (.sl 4 m.length (flatE fctE m))), (2, .fn (.func 33) [] []), (15, .d (.sl 4 l.length (flatE fctE l))), (16, .d (.c (.int .i64 l.length))), (17, .d (.c (.int .i64 i)))]
set_option maxHeartbeats 400000 in
theorem eqFacts_ac (l m : List Fct) (hl : l.length ≤ 140737488352000) (hm : m.length ≤ 140737488352000) (hsl : ∀ x ∈ l, x.l.length ≤ 1000000) (hsm : ∀ x ∈ m, x.l.length ≤ 1000000) : AC Tryz.prog noG 34
    [.d (.sl 4 l.length (flatE fctE l)), .d (.sl 4 m.length (flatE fctE m)), .fn (.func 33) [] []] [] (fun v r' => v = .d (.c (.bool (decide (l = m)))) ∧ r' = []) := by
  refine AC.pure ?_ (by rintro v rfl; rfl)
  refine AC_of_R (N := 32) (res := [.tmp 6]) ty_ok Tryz.call34 Tryz.func34 rfl rfl rfl (Nat.le_of_ble_eq_true rfl) ?_
  by_cases hlen : l.length = m.length
  · have hlen' : (l.length : Int) = m.length := by omega
    refine rn1 @hlen' ?_
    refine HC_loopR (eqfSt l m) (fun _ => []) (fun i => i ≤ l.length ∧ decide (l.drop i = m.drop i) = decide (l = m)) (fun i => l.length - i) 0 [] [] ⟨by omega, by simp⟩ ?_ ?_
    · rw [← hlen']
      exact ft1 @eqfSt.eq_1
    intro i ⟨hi1, hi2⟩
    refine HC_of_R ty_ok ?_
    by_cases hlt : i < l.length
    · have hi : (i : Int) < l.length := by omega
      have hi' : (i : Int) < m.length := by omega
      have hlt' : i < m.length := by omega
      rw [eq_drop l m i hlt hlt'] at hi2
      have hd := flatE_drop fctE_len l i hlt
      have hle := flatE_len fctE_len l
      have hd2 := flatE_drop fctE_len m i hlt'
      have hle2 := flatE_len fctE_len m
      have hg := sfact_ac l[i] m[i] (Nat.le_trans (hsl _ (List.getElem_mem hlt)) (by decide)) (Nat.le_trans (hsm _ (List.getElem_mem hlt')) (by decide))
      generalize l[i] = c at *
      generalize m[i] = d at *
      simp only [fctE, List.cons_append, List.nil_append] at hd hd2 hg
      refine rn1 (jn @eqfSt.eq_1 (jn @hi (jn @hi' (jn @hd (jn @hle (jn @hd2 @hle2)))))) ?_
      (repeat (refine And.intro (by omega) ?_))
      refine HO_pureA ty_ok hg ?_
      by_cases hc : c = d
      · rw [decide_eq_true hc, Bool.true_and] at hi2
        rw [decide_eq_true hc]
        refine rn0 ?_
        (repeat (refine And.intro (by omega) ?_))
        refine ⟨i + 1, ⟨by omega, hi2⟩, by omega, [], [], ?_⟩
        exact ft1 @eqfSt.eq_1
      · rw [decide_eq_false hc, Bool.false_and] at hi2
        rw [decide_eq_false hc]
        refine rn0 ?_
        rw [hi2]
    · have hi : ¬ (i : Int) < l.length := by omega
      rw [List.drop_of_length_le (by omega), List.drop_of_length_le (by omega)] at hi2
      refine rn1 (jn @eqfSt.eq_1 @hi) ?_
      rw [← hi2]; rfl
  · have hlen' : ¬ (l.length : Int) = m.length := by omega
    refine rn1 @hlen' ?_
    have : ¬ l = m := fun h => hlen (by rw [h])
    simp [this]
set_option maxHeartbeats 400000 in
theorem csame1_ac (x y : Ntr) (hx : okE x) (hy : okE y) : AC Tryz.prog noG 32 [.d (.agg (entE x)), .d (.agg (entE y))] [] (fun v r' => v = .d (.c (.bool (decide (x = y)))) ∧ r' = []) := by
  refine AC.pure ?_ (by rintro v rfl; rfl)
  refine AC_of_R (N := 38) (res := [.tmp 4]) ty_ok Tryz.call32 Tryz.func32 rfl rfl rfl (Nat.le_of_ble_eq_true rfl) ?_
  obtain ⟨t1, t2, t3, t4, t5, t6⟩ := tg32 x.tg hx.1
  obtain ⟨u1, u2, u3, u4, u5, u6⟩ := tg32 y.tg hy.1
  have ko := sfact_ac x.f y.f (Nat.le_trans hx.2.1 (by decide)) (Nat.le_trans hy.2.1 (by decide))
  have kl := eqFacts_ac x.body y.body (Nat.le_trans hx.2.2.1 (by decide)) (Nat.le_trans hy.2.2.1 (by decide)) hx.2.2.2 hy.2.2.2
  obtain ⟨f, w, r, b, tg⟩ := x
  obtain ⟨f2, w2, r2, b2, tg2⟩ := y
  simp only at t1 t2 t3 t4 t5 t6 u1 u2 u3 u4 u5 u6 ko kl
  simp only [fctE] at ko
  by_cases h1 : w = w2
  · by_cases h2 : r = r2
    · by_cases h3 : tg = tg2
      · subst h1 h2 h3
        by_cases h4 : f = f2
        · rw [decide_eq_true h4] at ko
          have e : decide ((⟨f, w, r, b, tg⟩ : Ntr) = ⟨f2, w, r, b2, tg⟩) = decide (b = b2) := by simp [h4]
          rw [e]
          refine rn1 (jn @entE.eq_1 (jn @fctE.eq_1 (jn @t1 (jn @t2 (jn @t3 (jn @t4 (jn @t5 (jn @t6 @tA_allD)))))))) ?_
          refine HO_pureA ty_ok ko ?_
          refine rn1 (jn @t1 (jn @t2 (jn @t3 (jn @t4 (jn @t5 (jn @t6 @tA_allD)))))) ?_
          refine HO_pureA ty_ok kl ?_
          exact rz0
        · rw [decide_eq_false h4] at ko
          have e : decide ((⟨f, w, r, b, tg⟩ : Ntr) = ⟨f2, w, r, b2, tg⟩) = false := by simp [h4]
          rw [e]
          refine rn1 (jn @entE.eq_1 (jn @fctE.eq_1 (jn @t1 (jn @t2 (jn @t3 (jn @t4 (jn @t5 (jn @t6 @tA_allD)))))))) ?_
          refine HO_pureA ty_ok ko ?_
          exact rz0
      · skip
        have e : decide ((⟨f, w, r, b, tg⟩ : Ntr) = ⟨f2, w2, r2, b2, tg2⟩) = false := by simp [h1,h2,h3]
        rw [e]
        exact rz1 (jn @entE.eq_1 (jn @fctE.eq_1 (jn @t1 (jn @t2 (jn @t3 (jn @t4 (jn @t5 (jn @t6 (jn @u1 (jn @u2 (jn @u3 (jn @u4 (jn @u5 (jn @u6 (jn @tA_allD (jn @h1 (jn @h2 @h3)))))))))))))))))
    · skip
      have e : decide ((⟨f, w, r, b, tg⟩ : Ntr) = ⟨f2, w2, r2, b2, tg2⟩) = false := by simp [h1,h2]
      rw [e]
      exact rz1 (jn @entE.eq_1 (jn @fctE.eq_1 (jn @t1 (jn @t2 (jn @t3 (jn @t4 (jn @t5 (jn @t6 (jn @u1 (jn @u2 (jn @u3 (jn @u4 (jn @u5 (jn @u6 (jn @tA_allD (jn @h1 @h2))))))))))))))))
  · skip
    have e : decide ((⟨f, w, r, b, tg⟩ : Ntr) = ⟨f2, w2, r2, b2, tg2⟩) = false := by simp [h1]
    rw [e]
    exact rz1 (jn @entE.eq_1 (jn @fctE.eq_1 (jn @t1 (jn @t2 (jn @t3 (jn @t4 (jn @t5 (jn @t6 (jn @u1 (jn @u2 (jn @u3 (jn @u4 (jn @u5 (jn @u6 (jn @tA_allD @h1)))))))))))))))
def eqeSt (l m : List Ntr) (i : Nat) : List (Nat × AV) := [(1, .d (.sl 39 m.length (flE m))), (2, .fn (.func 32) [] []), (15, .d (.sl 39 l.length (flE l))), (16, .d (.c (.int .i64 l.length))), (17, .d (.c (.int .i64 i)))]
set_option maxHeartbeats 400000 in
theorem eqEnts_ac (l m : List Ntr) (hl : okL l) (hm : okL m) : AC Tryz.prog noG 31
    [.d (.sl 39 l.length (flE l)), .d (.sl 39 m.length (flE m)), .fn (.func 32) [] []] [] (fun v r' => v = .d (.c (.bool (decide (l = m)))) ∧ r' = []) := by
  refine AC.pure ?_ (by rintro v rfl; rfl)
  refine AC_of_R (N := 32) (res := [.tmp 6]) ty_ok Tryz.call31 Tryz.func31 rfl rfl rfl (Nat.le_of_ble_eq_true rfl) ?_
  have hl1 := hl.1
  have hm1 := hm.1
  have hz : ([UInt8.ofNat 0, UInt8.ofNat 0, UInt8.ofNat 0, UInt8.ofNat 0, UInt8.ofNat 0, UInt8.ofNat 0, UInt8.ofNat 0, UInt8.ofNat 0, UInt8.ofNat 0, UInt8.ofNat 0, UInt8.ofNat 0, UInt8.ofNat 0, UInt8.ofNat 0, UInt8.ofNat 0, UInt8.ofNat 0, UInt8.ofNat 0, UInt8.ofNat 0, UInt8.ofNat 0, UInt8.ofNat 0, UInt8.ofNat 0, UInt8.ofNat 0, UInt8.ofNat 0, UInt8.ofNat 0, UInt8.ofNat 0, UInt8.ofNat 0, UInt8.ofNat 0, UInt8.ofNat 0, UInt8.ofNat 0, UInt8.ofNat 0, UInt8.ofNat 0, UInt8.ofNat 0, UInt8.ofNat 0] : List UInt8) = tgz := rfl
  obtain ⟨z1, z2, z3, z4, z5, z6⟩ := tg32 tgz rfl
  have z7 : (tA tgz).drop 32 = [] := List.drop_of_length_le (by omega)
  by_cases hlen : l.length = m.length
  · have hlen' : (l.length : Int) = m.length := by omega
    refine rn1 @hlen' ?_
    refine HC_loopR (eqeSt l m) (fun _ => []) (fun i => i ≤ l.length ∧ decide (l.drop i = m.drop i) = decide (l = m)) (fun i => l.length - i) 0 [] [] ⟨by omega, by simp⟩ ?_ ?_
    · rw [← hlen']
      exact ft1 @eqeSt.eq_1
    intro i ⟨hi1, hi2⟩
    refine HC_of_R ty_ok ?_
    by_cases hlt : i < l.length
    · have hi : (i : Int) < l.length := by omega
      have hi' : (i : Int) < m.length := by omega
      have hlt' : i < m.length := by omega
      rw [eq_drop l m i hlt hlt'] at hi2
      have hd := flE_drop hl i hlt
      have hle := flE_len hl
      have hd2 := flE_drop hm i hlt'
      have hle2 := flE_len hm
      have hox := hl.2 l[i] (List.getElem_mem hlt)
      have hoy := hm.2 m[i] (List.getElem_mem hlt')
      have hg := csame1_ac l[i] m[i] hox hoy
      generalize l[i] = c at *
      generalize m[i] = d at *
      obtain ⟨t1, t2, t3, t4, t5, t6⟩ := tg32 c.tg hox.1
      obtain ⟨u1, u2, u3, u4, u5, u6⟩ := tg32 d.tg hoy.1
      have htk : (bD c.tg ++ flE (l.drop (i + 1))).take 32 = bD c.tg := by rw [← t2]; exact List.take_left
      have htk2 : (bD d.tg ++ flE (m.drop (i + 1))).take 32 = bD d.tg := by rw [← u2]; exact List.take_left
      simp only [entE, fctE, List.cons_append, List.nil_append] at hd hd2 hg
      refine rn1 (jn @eqeSt.eq_1 (jn @hi (jn @hi' (jn @hd (jn @hle (jn @hd2 (jn @hle2 (jn @htk (jn @htk2 (jn @hz (jn @z1 (jn @z2 (jn @z3 (jn @z4 (jn @z5 (jn @z6 (jn @z7 (jn @t1 (jn @t2 (jn @t3 (jn @t4 (jn @t5 (jn @t6 (jn @u1 (jn @u2 (jn @u3 (jn @u4 (jn @u5 (jn @u6 @tA_allD))))))))))))))))))))))))))))) ?_
      (repeat (refine And.intro (by omega) ?_))
      refine HO_pureA ty_ok hg ?_
      by_cases hc : c = d
      · rw [decide_eq_true hc, Bool.true_and] at hi2
        rw [decide_eq_true hc]
        refine rn0 ?_
        (repeat (refine And.intro (by omega) ?_))
        refine ⟨i + 1, ⟨by omega, hi2⟩, by omega, [], [], ?_⟩
        exact ft1 @eqeSt.eq_1
      · rw [decide_eq_false hc, Bool.false_and] at hi2
        rw [decide_eq_false hc]
        refine rn0 ?_
        rw [hi2]
    · have hi : ¬ (i : Int) < l.length := by omega
      rw [List.drop_of_length_le (by omega), List.drop_of_length_le (by omega)] at hi2
      refine rn1 (jn @eqeSt.eq_1 @hi) ?_
      rw [← hi2]; rfl
  · have hlen' : ¬ (l.length : Int) = m.length := by omega
    refine rn1 @hlen' ?_
    have : ¬ l = m := fun h => hlen (by rw [h])
    simp [this]
theorem csame_ac (l m : List Ntr) (hl : okL l) (hm : okL m) : AC Tryz.prog noG 14 [.d (.sl 39 l.length (flE l)), .d (.sl 39 m.length (flE m))] [] (fun v r' => v = .d (.c (.bool (decide (l = m)))) ∧ r' = []) := by
  refine AC.pure ?_ (by rintro v rfl; rfl)
  refine AC_of_R (N := 8) (res := [.tmp 4]) ty_ok Tryz.call14 Tryz.func14 rfl rfl rfl (Nat.le_of_ble_eq_true rfl) ?_
  have k := eqEnts_ac l m hl hm
  refine rn0 ?_
  refine HO_pureA ty_ok k ?_
  exact rz0
end Go.Proofs.YtdbicadncccpoaaGreat
