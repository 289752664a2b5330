import Derived.Test.YtjpjnhljmloofaaDoorCRefPad
set_option linter.unusedVariables false
set_option linter.unusedSimpArgs false
set_option maxRecDepth 100000
namespace Go.Proofs.YtjpjnhljmloofaaDoor
open Go Go.ChangeShapes Go.WideShapes
theorem adds8 (a b c d e f g h a' b' c' d' e' f' g' h' : Int) : adds [a, b, c, d, e, f, g, h] [a', b', c', d', e', f', g', h'] 8 = [IntKind.u32.wrap (a + a'), IntKind.u32.wrap (b + b'), IntKind.u32.wrap (c + c'), IntKind.u32.wrap (d + d'), IntKind.u32.wrap (e + e'), IntKind.u32.wrap (f + f'), IntKind.u32.wrap (g + g'), IntKind.u32.wrap (h + h')] := rfl
theorem adds_comm (ρ s : List Int) (h : ρ.length = 8) (hs : s.length = 8) : adds ρ s 8 = adds s ρ 8 := by
  obtain ⟨a, b, c, d, e, f, g, h2, rfl⟩ := len8 h
  obtain ⟨a', b', c', d', e', f', g', h', rfl⟩ := len8 hs
  rw [adds8, adds8, Int.add_comm a, Int.add_comm b, Int.add_comm c, Int.add_comm d, Int.add_comm e, Int.add_comm f, Int.add_comm g, Int.add_comm h2]
theorem getD_drop_ (p : List UInt8) (k i : Nat) : (p.drop k).getD i 0 = p.getD (k + i) 0 := by
  rw [List.getD_eq_getElem?_getD, List.getElem?_drop, List.getD_eq_getElem?_getD]
theorem sch64_get_t (b : List UInt8) (t : Nat) (h : t < 64) : (sch64 b t).getD t 0 = 0 := by
  rw [sch64, List.getD_eq_getElem?_getD, List.getElem?_append_right (by rw [sch_len]; omega), sch_len, Nat.sub_self, show 64 - t = (64 - t - 1) + 1 by omega, List.replicate_succ]; rfl
theorem sch64_set0 (b : List UInt8) (t : Nat) (h : t < 64) : (sch64 b t).set t 0 = sch64 b t := by
  apply List.ext_getElem?
  intro j
  rw [List.getElem?_set]
  split
  · rename_i hj; subst hj
    have h0 := sch64_get_t b t h
    have hl := sch64_len b t (by omega)
    rw [List.getD_eq_getElem?_getD, List.getElem?_eq_getElem (by omega)] at h0
    simp only [Option.getD_some] at h0
    rw [if_pos (by omega), List.getElem?_eq_getElem (by omega), h0]
  · rfl
theorem getD_set_same (l : List Int) (t : Nat) (x : Int) (h : t < l.length) : (l.set t x).getD t 0 = x := by
  rw [List.getD_eq_getElem?_getD, List.getElem?_set, if_pos rfl, if_pos h]; rfl
theorem dig_get (s : List Int) (i : Nat) (h : i < 32) (hs : s.length = 8) : (dig s).getD i 0 = b8 (ishr .u32 (s.getD (i / 4) 0) (24 - 8 * ((i : Int) % 4))) := by
  obtain ⟨q0, q1, q2, q3, q4, q5, q6, q7, rfl⟩ := len8 hs
  have h0 : ∀ w : Int, ishr .u32 w 0 = w := fun w => Int.fdiv_one w
  have key : ∀ j k : Nat, j < 8 → k < 4 → i = 4 * j + k → (dig [q0, q1, q2, q3, q4, q5, q6, q7]).getD i 0 = b8 (ishr .u32 (([q0, q1, q2, q3, q4, q5, q6, q7] : List Int).getD (i / 4) 0) (24 - 8 * ((i : Int) % 4))) := by
    intro j k hj hk hi
    have e1 : i / 4 = j := by omega
    have e2 : 24 - 8 * ((i : Int) % 4) = 24 - 8 * (k : Int) := by omega
    rw [e1, e2, hi]
    obtain rfl | rfl | rfl | rfl : k = 0 ∨ k = 1 ∨ k = 2 ∨ k = 3 := by omega
    all_goals
      obtain rfl | rfl | rfl | rfl | rfl | rfl | rfl | rfl : j = 0 ∨ j = 1 ∨ j = 2 ∨ j = 3 ∨ j = 4 ∨ j = 5 ∨ j = 6 ∨ j = 7 := by omega
      all_goals first
        | rfl
        | (show b8 _ = b8 (ishr .u32 _ 0); rw [h0]; rfl)
  exact key (i / 4) (i % 4) (by omega) (by omega) (by omega)
def dg2 (s : List Int) (i : Nat) : List UInt8 := (dig s).take i ++ List.replicate (32 - i) 0
theorem dg2_len (s : List Int) (i : Nat) (h : i ≤ 32) (hs : s.length = 8) : (dg2 s i).length = 32 := by
  rw [dg2, List.length_append, List.length_take, dig_len, List.length_replicate, hs]; omega
theorem dg2_step (s : List Int) (i : Nat) (h : i < 32) (hs : s.length = 8) : (dg2 s i).set i ((dig s).getD i 0) = dg2 s (i + 1) := by
  have hl := dig_len s
  rw [hs] at hl
  rw [dg2, List.set_append_right _ _ (by rw [List.length_take]; omega), List.length_take, Nat.min_eq_left (by omega), Nat.sub_self, show 32 - i = (32 - (i + 1)) + 1 by omega, List.replicate_succ, List.set_cons_zero, dg2, List.take_succ_eq_append_getElem (by omega), List.append_assoc, List.getD_eq_getElem?_getD, List.getElem?_eq_getElem (by omega)]
  rfl
theorem dg2_all (s : List Int) (hs : s.length = 8) : dg2 s 32 = dig s := by
  rw [dg2, List.take_of_length_le (by rw [dig_len]; omega)]; simp
def regA (l : List Int) : List (Nat × AV) := [(13, .d (.c (.int .u32 (l.getD 0 0)))), (14, .d (.c (.int .u32 (l.getD 1 0)))), (15, .d (.c (.int .u32 (l.getD 2 0)))), (16, .d (.c (.int .u32 (l.getD 3 0)))), (17, .d (.c (.int .u32 (l.getD 4 0)))), (18, .d (.c (.int .u32 (l.getD 5 0)))), (19, .d (.c (.int .u32 (l.getD 6 0)))), (20, .d (.c (.int .u32 (l.getD 7 0))))]
/-- The reference's names: the sum, the state, the rounds' words. -/
def o0St (p : List UInt8) (i : List Int × Nat) : List (Nat × AV) := [(2, .ptr 0 0), (3, .ptr 1 0), (4, .ptr 2 0), (5, .d (.sl 1 p.length (bD p))), (6, .d (.c (.int .i64 (64 * (i.2 : Int)))))]
def o0Re (i : List Int × Nat) : Rs := [some (.obj (bA z32)), some (.obj (wA i.1)), some (.obj (wA roundsL))]
def o1St (p : List UInt8) (q t : Nat) : List (Nat × AV) := o0St p ([], q) ++ [(7, .ptr 3 0), (8, .d (.c (.int .i64 t)))]
def o1Re (s W : List Int) : Rs := o0Re (s, 0) ++ [some (.obj (wA W))]
def o2St (p : List UInt8) (q t i : Nat) : List (Nat × AV) := o1St p q t ++ [(9, .d (.c (.int .i64 i)))]
def o4St (p : List UInt8) (q t : Nat) : List (Nat × AV) := o0St p ([], q) ++ [(7, .ptr 3 0), (10, .d (.c (.int .i64 t)))]
def o5St (p : List UInt8) (q : Nat) (i : Nat × List Int) : List (Nat × AV) := o0St p ([], q) ++ [(7, .ptr 3 0)] ++ regA i.2 ++ [(21, .d (.c (.int .i64 i.1)))]
def o6St (p : List UInt8) (q : Nat) (ρ : List Int) (i : Nat) : List (Nat × AV) := o0St p ([], q) ++ [(203, .d (.agg (wD ρ))), (204, .d (.c (.int .i64 i)))]
def o7St (i : Nat) : List (Nat × AV) := [(2, .ptr 0 0), (3, .ptr 1 0), (26, .ptr 3 0), (27, .d (.c (.int .i64 i)))]
def o7Re (s : List Int) (i : Nat) : Rs := [some (.obj (bA z32)), some (.obj (wA s)), none, some (.obj (bA (dg2 s i)))]
set_option maxHeartbeats 400000 in
theorem refSum_ac (b : List UInt8) (h : b.length ≤ 140737488352000) : AC Tryd.prog noG 21 [.d (.sl 1 b.length (bD b))] [] (fun v r' => v = .d (.agg (bD (sha b))) ∧ r' = []) := by
  refine AC.pure ?_ (by rintro v rfl; rfl)
  refine AC_of_R (N := 233) (res := [.cell 2 26]) ty_ok Tryd.call21 Tryd.func21 rfl rfl rfl (Nat.le_of_ble_eq_true rfl) ?_
  refine rn0 ?_
  refine HO_pureA ty_ok rounds_ac ?_
  have hw64 : (wD roundsL).map AV.d = wA roundsL := wD_map _
  have hr64 : (wA roundsL).length = 64 := rfl
  have hsp := splice_all [.d (.c (.int .u32 0)), .d (.c (.int .u32 0)), .d (.c (.int .u32 0)), .d (.c (.int .u32 0)), .d (.c (.int .u32 0)), .d (.c (.int .u32 0)), .d (.c (.int .u32 0)), .d (.c (.int .u32 0)), .d (.c (.int .u32 0)), .d (.c (.int .u32 0)), .d (.c (.int .u32 0)), .d (.c (.int .u32 0)), .d (.c (.int .u32 0)), .d (.c (.int .u32 0)), .d (.c (.int .u32 0)), .d (.c (.int .u32 0)), .d (.c (.int .u32 0)), .d (.c (.int .u32 0)), .d (.c (.int .u32 0)), .d (.c (.int .u32 0)), .d (.c (.int .u32 0)), .d (.c (.int .u32 0)), .d (.c (.int .u32 0)), .d (.c (.int .u32 0)), .d (.c (.int .u32 0)), .d (.c (.int .u32 0)), .d (.c (.int .u32 0)), .d (.c (.int .u32 0)), .d (.c (.int .u32 0)), .d (.c (.int .u32 0)), .d (.c (.int .u32 0)), .d (.c (.int .u32 0)), .d (.c (.int .u32 0)), .d (.c (.int .u32 0)), .d (.c (.int .u32 0)), .d (.c (.int .u32 0)), .d (.c (.int .u32 0)), .d (.c (.int .u32 0)), .d (.c (.int .u32 0)), .d (.c (.int .u32 0)), .d (.c (.int .u32 0)), .d (.c (.int .u32 0)), .d (.c (.int .u32 0)), .d (.c (.int .u32 0)), .d (.c (.int .u32 0)), .d (.c (.int .u32 0)), .d (.c (.int .u32 0)), .d (.c (.int .u32 0)), .d (.c (.int .u32 0)), .d (.c (.int .u32 0)), .d (.c (.int .u32 0)), .d (.c (.int .u32 0)), .d (.c (.int .u32 0)), .d (.c (.int .u32 0)), .d (.c (.int .u32 0)), .d (.c (.int .u32 0)), .d (.c (.int .u32 0)), .d (.c (.int .u32 0)), .d (.c (.int .u32 0)), .d (.c (.int .u32 0)), .d (.c (.int .u32 0)), .d (.c (.int .u32 0)), .d (.c (.int .u32 0)), .d (.c (.int .u32 0))] (wA roundsL) rfl (by decide)
  refine rn1 (jn @hw64 (jn @hr64 @hsp)) ?_
  clear hsp
  refine HO_pureA ty_ok (padded_ac b h) ?_
  have hpl : (padL b b.length).length % 64 = 0 ∧ (padL b b.length).length ≤ b.length + 72 := by
    have := zp_len (b ++ [128])
    rw [List.length_append, List.length_singleton] at this
    rw [padL, List.length_append, show (lenB b.length).length = 8 from rfl]; omega
  have hsha : sha b = dig (blkAll firstL (padL b b.length)) := rfl
  rw [hsha]
  generalize padL b b.length = p at *
  refine rn0 ?_
  refine HC_loopR (o0St p) o0Re (fun i => i.1.length = 8 ∧ 64 * i.2 ≤ p.length ∧ blkAll i.1 (p.drop (64 * i.2)) = blkAll firstL p) (fun i => p.length - 64 * i.2) (firstL, 0) [0, 1, 2] [] ⟨rfl, by omega, rfl⟩ ?_ ?_
  · exact ft1 (jn @o0St.eq_1 (jn @o0Re.eq_1 (jn @wA_wf @bA_wf)))
  · intro ⟨s, q⟩ ⟨hs, hq, hb⟩
    simp only at hs hq hb
    refine HC_of_R ty_ok ?_
    by_cases hqp : 64 * q < p.length
    · have hi : 64 * (q : Int) < p.length := by omega
      obtain ⟨B, hB⟩ : ∃ B, B = p.drop (64 * q) := ⟨_, rfl⟩
      have hBl : B.length = p.length - 64 * q := by rw [hB, List.length_drop]
      have hBg : ∀ k, p.getD (64 * q + k) 0 = B.getD k 0 := fun k => by rw [hB, getD_drop_]
      rw [← hB] at hb
      refine rn1 (jn @o0St.eq_1 (jn @o0Re.eq_1 @hi)) ?_
      refine HC_loopR (o1St p q) (fun t => o1Re s (sch64 B t)) (fun t => t ≤ 16) (fun t => 16 - t) 0 [0, 1, 2, 3] [] (by omega) ?_ ?_
      · exact ft1 (jn @o1St.eq_1 (jn @o0St.eq_1 (jn @o1Re.eq_1 (jn @o0Re.eq_1 (jn @wA_wf @bA_wf)))))
      · intro t ht
        refine HC_of_R ty_ok ?_
        have h64 := sch64_len B t (by omega)
        have hwl := wA_len (sch64 B t)
        by_cases ht16 : t < 16
        · have hi : (t : Int) < 16 := by omega
          refine rn1 (jn @o1St.eq_1 (jn @o0St.eq_1 (jn @o1Re.eq_1 (jn @o0Re.eq_1 @hi)))) ?_
          refine HC_loopR (o2St p q t) (fun i => o1Re s ((sch64 B t).set t (acc B t i))) (fun i => i ≤ 4) (fun i => 4 - i) 0 [0, 1, 2, 3] [] (by omega) ?_ ?_
          · exact ft1 (jn @o2St.eq_1 (jn @o1St.eq_1 (jn @o0St.eq_1 (jn @o1Re.eq_1 (jn @o0Re.eq_1 (jn @wA_wf (jn @bA_wf (jn @acc.eq_1 (jn @acc.eq_2 (sch64_set0 B t (by omega)))))))))))
          · intro i hi4
            refine HC_of_R ty_ok ?_
            have hsl : ((sch64 B t).set t (acc B t i)).length = 64 := by rw [List.length_set, h64]
            have hwl2 := wA_len ((sch64 B t).set t (acc B t i))
            by_cases hi4' : i < 4
            · have hi : (i : Int) < 4 := by omega
              refine rn1 (jn @o2St.eq_1 (jn @o1St.eq_1 (jn @o0St.eq_1 (jn @o1Re.eq_1 (jn @o0Re.eq_1 @hi))))) ?_
              refine HC_plan [] ty_ok mix (by kernel_rfl) ?_
              have e1 : (64 * (q : Int) + 4 * (t : Int) + (i : Int)).toNat = 64 * q + (4 * t + i) := by omega
              have hg := getD_set_same (sch64 B t) t (acc B t i) (by omega)
              have c64 : ((64 : Nat) : Int) = 64 := rfl
              refine rn1 (jn @hsl (jn @hwl2 (jn @wA_get (jn @wA_set (jn @wA_splice (jn @u32_u8 (jn @e1 (jn @hg (jn @hBg (jn @c64 @List.set_set.{0})))))))))) ?_
              refine ⟨⟨by omega, by omega⟩, ⟨by omega, by omega⟩, ⟨by omega, by omega⟩, by omega, i + 1, by omega, by omega, [0, 1, 2, 3], [], ?_⟩
              exact ft1 (jn @acc.eq_1 (jn @acc.eq_2 (jn @wA_wf @bA_wf)))
            · have hi : ¬ (i : Int) < 4 := by omega
              have h4e : i = 4 := by omega
              subst h4e
              have hn : (sch64 B t).set t (acc B t 4) = sch64 B (t + 1) := by
                rw [acc_wd, ← sch64_set B t (by omega), nxt, if_pos ht16]
              refine rn1 (jn @o2St.eq_1 (jn @o1St.eq_1 (jn @o0St.eq_1 (jn @o1Re.eq_1 (jn @o0Re.eq_1 @hi))))) ?_
              refine ⟨t + 1, by omega, by omega, [0, 1, 2, 3], [], ?_⟩
              rw [hn]
              exact ft1 (jn @wA_wf @bA_wf)
        · have hi : ¬ (t : Int) < 16 := by omega
          have h16e : t = 16 := by omega
          subst h16e
          refine rn1 (jn @o1St.eq_1 (jn @o0St.eq_1 (jn @o1Re.eq_1 (jn @o0Re.eq_1 @hi)))) ?_
          obtain ⟨W16, hW16⟩ : ∃ W, W = sch64 B 16 := ⟨_, rfl⟩
          rw [← hW16]
          refine HC_loopR (fun i => o4St p q i.1) (fun i => o1Re s i.2) (fun i => 16 ≤ i.1 ∧ i.1 ≤ 64 ∧ i.2 = sch64 B i.1) (fun i => 64 - i.1) (16, W16) [0, 1, 2, 3] [] ⟨by simp only; omega, by simp only; omega, hW16⟩ ?_ ?_
          · exact ft1 (jn @o4St.eq_1 (jn @o0St.eq_1 (jn @o1Re.eq_1 (jn @o0Re.eq_1 (jn @wA_wf @bA_wf)))))
          · intro ⟨t, W⟩ ⟨ht1, ht2, hW⟩
            simp only at ht1 ht2 hW
            refine HC_of_R ty_ok ?_
            have h64 := sch64_len B t (by omega)
            rw [← hW] at h64
            have hwl := wA_len W
            by_cases ht64 : t < 64
            · have hi : (t : Int) < 64 := by omega
              have e1 : ((t : Int) - 15).toNat = t - 15 := by omega
              have e2 : ((t : Int) - 2).toNat = t - 2 := by omega
              have e3 : ((t : Int) - 7).toNat = t - 7 := by omega
              have e4 : ((t : Int) - 16).toNat = t - 16 := by omega
              have c64 : ((64 : Nat) : Int) = 64 := rfl
              refine rn1 (jn @o4St.eq_1 (jn @o0St.eq_1 (jn @o1Re.eq_1 (jn @o0Re.eq_1 @hi)))) ?_
              refine HC_order [4, 9] ty_ok mix [0, 1, 2, 3, 5, 6, 7, 8, 11, 12, 13, 14, 15, 4, 9, 10, 16, 17] (by kernel_rfl) rfl _ rfl ?_
              simp only [opl_nil', opl_cons', oplC_some, List.getElem?_toArray, List.getElem?_cons_zero, List.getElem?_cons_succ]
              refine rn1 (jn @hwl (jn @h64 (jn @wA_get (jn @e1 @c64)))) ?_
              (repeat (refine And.intro (by omega) ?_))
              refine HO_pureA ty_ok (rrot_ac _ 7 (by decide) (by decide)) ?_
              refine rn0 ?_
              refine HO_pureA ty_ok (rrot_ac _ 18 (by decide) (by decide)) ?_
              refine rn0 ?_
              refine HC_order [4, 9] ty_ok mix [0, 1, 2, 3, 5, 6, 7, 8, 11, 12, 13, 14, 15, 4, 9, 10, 16, 17] (by kernel_rfl) rfl _ rfl ?_
              simp only [opl_nil', opl_cons', oplC_some, List.getElem?_toArray, List.getElem?_cons_zero, List.getElem?_cons_succ]
              refine rn1 (jn @hwl (jn @h64 (jn @wA_get (jn @e2 @c64)))) ?_
              (repeat (refine And.intro (by omega) ?_))
              refine HO_pureA ty_ok (rrot_ac _ 17 (by decide) (by decide)) ?_
              refine rn0 ?_
              refine HO_pureA ty_ok (rrot_ac _ 19 (by decide) (by decide)) ?_
              refine rn0 ?_
              refine HC_plan [] ty_ok mix (by kernel_rfl) ?_
              refine rn1 (jn @hwl (jn @h64 (jn @wA_get (jn @wA_set (jn @wA_splice (jn @e3 (jn @e4 @c64))))))) ?_
              have hn : nxt B (sch B t) t = wn (W.getD (t - 2) 0) (W.getD (t - 7) 0) (W.getD (t - 15) 0) (W.getD (t - 16) 0) := by
                rw [nxt, if_neg (by omega), hW, sch64_get _ _ _ (by omega), sch64_get _ _ _ (by omega), sch64_get _ _ _ (by omega), sch64_get _ _ _ (by omega)]
              have hws : W.set t (wn (W.getD (t - 2) 0) (W.getD (t - 7) 0) (W.getD (t - 15) 0) (W.getD (t - 16) 0)) = sch64 B (t + 1) := by
                rw [← sch64_set B t ht64, hn, hW]
              (repeat (refine And.intro (by omega) ?_))
              refine ⟨(t + 1, W.set t (wn (W.getD (t - 2) 0) (W.getD (t - 7) 0) (W.getD (t - 15) 0) (W.getD (t - 16) 0))), ⟨by simp only; omega, by simp only; omega, hws⟩, by simp only; omega, [0, 1, 2, 3], [], ?_⟩
              exact ft1 (jn @wn.eq_1 (jn @wA_wf @bA_wf))
            · have hi : ¬ (t : Int) < 64 := by omega
              have h64e : t = 64 := by omega
              subst h64e
              obtain ⟨q0, q1, q2, q3, q4, q5, q6, q7, rfl⟩ := len8 hs
              refine rn1 (jn @o4St.eq_1 (jn @o0St.eq_1 (jn @o1Re.eq_1 (jn @o0Re.eq_1 (jn @wA_cons (jn @wA_nil @hi)))))) ?_
              have c8 : ((8 : Nat) : Int) = 8 := rfl
              refine HC_plan [] ty_ok mix (by kernel_rfl) ?_
              refine rn1 @c8 ?_
              obtain ⟨s, hse⟩ : ∃ s, s = [q0, q1, q2, q3, q4, q5, q6, q7] := ⟨_, rfl⟩
              refine HC_loopR (o5St p q) (fun _ => o1Re s W) (fun i => i.1 ≤ 64 ∧ i.2 = rnds s W i.1) (fun i => 64 - i.1) (0, s) [0, 1, 2, 3] [] ⟨by simp only; omega, rfl⟩ ?_ ?_
              · rw [hse]
                exact ft1 (jn @o5St.eq_1 (jn @o0St.eq_1 (jn @regA.eq_1 (jn @o1Re.eq_1 (jn @o0Re.eq_1 (jn @wA_wf @bA_wf))))))
              · intro ⟨t, ρ⟩ ⟨ht, hρ⟩
                simp only at ht hρ
                refine HC_of_R ty_ok ?_
                have hρl := rnds_len s W (by rw [hse]; rfl) t
                rw [← hρ] at hρl
                obtain ⟨r0, r1, r2, r3, r4, r5, r6, r7, rfl⟩ := len8 hρl
                by_cases ht4 : t < 64
                · have hi4 : (t : Int) < 64 := by omega
                  have c64 : ((64 : Nat) : Int) = 64 := rfl
                  have hrl : roundsL.length = 64 := rfl
                  refine rn1 (jn @o5St.eq_1 (jn @o0St.eq_1 (jn @regA.eq_1 (jn @o1Re.eq_1 (jn @o0Re.eq_1 (jn @hi4 (jn @List.getD_cons_zero.{0} @List.getD_cons_succ.{0}))))))) ?_
                  refine HC_order [2, 4, 7] ty_ok mix [0, 1, 3, 6, 10, 11, 12, 13, 14, 15, 16, 17, 19, 20, 21, 23, 24, 25, 2, 4, 5, 7, 8, 9, 18, 22, 26, 27] (by kernel_rfl) rfl _ rfl ?_
                  simp only [opl_nil', opl_cons', oplC_some, List.getElem?_toArray, List.getElem?_cons_zero, List.getElem?_cons_succ]
                  refine rn1 (jn @hwl (jn @h64 (jn @hr64 (jn @hrl (jn @wA_get @c64))))) ?_
                  (repeat (refine And.intro (by omega) ?_))
                  refine HO_pureA ty_ok (rrot_ac _ 6 (by decide) (by decide)) ?_
                  refine rn0 ?_
                  refine HO_pureA ty_ok (rrot_ac _ 11 (by decide) (by decide)) ?_
                  refine rn0 ?_
                  refine HO_pureA ty_ok (rrot_ac _ 25 (by decide) (by decide)) ?_
                  refine rn0 ?_
                  refine HO_pureA ty_ok (rrot_ac _ 2 (by decide) (by decide)) ?_
                  refine rn0 ?_
                  refine HO_pureA ty_ok (rrot_ac _ 13 (by decide) (by decide)) ?_
                  refine rn0 ?_
                  refine HO_pureA ty_ok (rrot_ac _ 22 (by decide) (by decide)) ?_
                  refine rn0 ?_
                  refine ⟨(t + 1, rstep (roundsL.getD t 0) (W.getD t 0) [r0, r1, r2, r3, r4, r5, r6, r7]), ⟨by simp only; omega, by rw [rnds, ← hρ]⟩, by simp only; omega, [0, 1, 2, 3], [], ?_⟩
                  exact ft1 (jn @rstep.eq_1 (jn @rstep.eq_2 (jn @one_.eq_1 (jn @two_.eq_1 (jn @List.getD_cons_zero.{0} (jn @List.getD_cons_succ.{0} (jn @wA_wf @bA_wf)))))))
                · have e64 : t = 64 := by omega
                  subst e64
                  have hi4 : ¬ (64 : Int) < 64 := by omega
                  refine rn1 (jn @o5St.eq_1 (jn @o0St.eq_1 (jn @regA.eq_1 (jn @o1Re.eq_1 (jn @o0Re.eq_1 (jn @hi4 (jn @List.getD_cons_zero.{0} @List.getD_cons_succ.{0}))))))) ?_
                  obtain ⟨ρ, hρ2⟩ : ∃ ρ, ρ = [r0, r1, r2, r3, r4, r5, r6, r7] := ⟨_, rfl⟩
                  have hρ8 : ρ.length = 8 := by rw [hρ2]; rfl
                  have hs8 : s.length = 8 := by rw [hse]; rfl
                  rw [← hρ2] at hρ
                  have hbk : blk s B = adds s ρ 8 := by rw [blk, ← hW, ← hρ, adds_comm _ _ hρ8 hs8]
                  refine HC_loopR (o6St p q ρ) (fun i => o0Re (adds s ρ i, 0) ++ [none]) (fun i => i ≤ 8) (fun i => 8 - i) 0 [0, 1, 2] [] (by omega) ?_ ?_
                  · rw [hρ2]
                    exact ft1 (jn @o6St.eq_1 (jn @o0St.eq_1 (jn @o0Re.eq_1 (jn @adds.eq_1 (jn @adds.eq_2 (jn @wA_wf @bA_wf))))))
                  · intro i hi
                    refine HC_of_R ty_ok ?_
                    have hal : (adds s ρ i).length = 8 := by rw [adds_len, hs8]
                    have hwa := wA_len (adds s ρ i)
                    by_cases hi8 : i < 8
                    · have hx : (i : Int) < 8 := by omega
                      refine rn1 (jn @o6St.eq_1 (jn @o0St.eq_1 (jn @o0Re.eq_1 (jn @hx (jn @hwa (jn @hal (jn @hρ8 (jn @wA_get (jn @wD_get (jn @wA_set (jn @wA_splice @c8))))))))))) ?_
                      (repeat (refine And.intro (by omega) ?_))
                      refine ⟨i + 1, by omega, by omega, [0, 1, 2], [], ?_⟩
                      exact ft1 (jn @adds.eq_1 (jn @adds.eq_2 (jn @wA_wf @bA_wf)))
                    · have hx : ¬ (i : Int) < 8 := by omega
                      have e8 : i = 8 := by omega
                      subst e8
                      refine rn1 (jn @o6St.eq_1 (jn @o0St.eq_1 (jn @o0Re.eq_1 @hx))) ?_
                      refine ⟨(adds s ρ 8, q + 1), ⟨hal, by simp only; omega, ?_⟩, by simp only; omega, [0, 1, 2], [], ?_⟩
                      · simp only
                        rw [← hb, blkAll.eq_def _ B, if_pos (by omega), ← hbk, hse, hB, List.drop_drop]
                        rfl
                      · exact ft1 (jn @wA_wf @bA_wf)
    · have hi : ¬ 64 * (q : Int) < p.length := by omega
      have hse : s = blkAll firstL p := by rw [← hb, List.drop_of_length_le (by omega), blkAll]; rfl
      rw [← hse]
      have c8 : ((8 : Nat) : Int) = 8 := rfl
      have c32 : ((32 : Nat) : Int) = 32 := rfl
      refine rn1 (jn @o0St.eq_1 (jn @o0Re.eq_1 @hi)) ?_
      refine HC_loopR o7St (o7Re s) (fun i => i ≤ 32) (fun i => 32 - i) 0 [0, 1, 2, 3] [] (by omega) ?_ ?_
      · exact ft1 (jn @o7St.eq_1 (jn @o7Re.eq_1 (jn @wA_wf @bA_wf)))
      · intro i hi32
        refine HC_of_R ty_ok ?_
        have hdl := dg2_len s i hi32 hs
        have hbl := bA_len (dg2 s i)
        have hws := wA_len s
        by_cases h32 : i < 32
        · have hi : (i : Int) < 32 := by omega
          have e1 : ((i : Int) / 4).toNat = i / 4 := by omega
          have ew : IntKind.u64.wrap (24 - 8 * ((i : Int) % 4)) = 24 - 8 * ((i : Int) % 4) := w_u64 (by omega) (by omega)
          refine rn1 (jn @o7St.eq_1 (jn @o7Re.eq_1 (jn @hi (jn @hdl (jn @hbl (jn @hws (jn @hs (jn @wA_get (jn @b8_wrap (jn @bA_set (jn @e1 (jn @ew (jn @c8 (jn @c32 @splice_one)))))))))))))) ?_
          (repeat (refine And.intro (by omega) ?_))
          refine ⟨i + 1, by omega, by omega, [0, 1, 2, 3], [], ?_⟩
          rw [← dg2_step s i h32 hs, dig_get s i h32 hs]
          exact ft1 (jn @wA_wf @bA_wf)
        · have h32e : i = 32 := by omega
          subst h32e
          have hi : ¬ (32 : Int) < 32 := by omega
          rw [dg2_all s hs] at hdl hbl
          obtain ⟨hl, hb, ht, hm, hsp⟩ := dig32 (dig s) hdl
          have hz32 : (bA z32).length = 32 := rfl
          have hsp2 : splice (bA z32) 0 (bA (dig s)) = bA (dig s) := hsp
          clear hsp
          exact rz1 (jn @o7St.eq_1 (jn @o7Re.eq_1 (jn @dg2_all (jn @hs (jn @hi (jn @hdl (jn @hbl (jn @ht (jn @hm (jn @bA_allD (jn @hz32 @hsp2)))))))))))
end Go.Proofs.YtjpjnhljmloofaaDoor
