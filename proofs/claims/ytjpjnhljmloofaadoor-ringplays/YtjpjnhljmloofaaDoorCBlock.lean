import Derived.Test.YtjpjnhljmloofaaDoorCTurn
set_option linter.unusedVariables false
set_option linter.unusedSimpArgs false
set_option maxRecDepth 100000
namespace Go.Proofs.YtjpjnhljmloofaaDoor
open Go Go.ChangeShapes Go.WideShapes
/-- Words as a memory's cells. -/
def wD (l : List Int) : List D := l.map fun x => .c (.int .u32 x)
def wA (l : List Int) : List AV := (wD l).map .d
def wd (b : List UInt8) (t : Nat) : Int := ibits .or .u32 (ibits .or .u32 (ibits .or .u32 (ishl .u32 (b.getD (4 * t) 0).toNat 24) (ishl .u32 (b.getD (4 * t + 1) 0).toNat 16)) (ishl .u32 (b.getD (4 * t + 2) 0).toNat 8)) (b.getD (4 * t + 3) 0).toNat
def wn (y z x v : Int) : Int := IntKind.u32.wrap (IntKind.u32.wrap (IntKind.u32.wrap (ibits .xor .u32 (ibits .xor .u32 (rot y 17) (rot y 19)) (ishr .u32 y 10) + z) + ibits .xor .u32 (ibits .xor .u32 (rot x 7) (rot x 18)) (ishr .u32 x 3)) + v)
def nxt (b : List UInt8) (w : List Int) (t : Nat) : Int := if t < 16 then wd b t else wn (w.getD (t - 2) 0) (w.getD (t - 7) 0) (w.getD (t - 15) 0) (w.getD (t - 16) 0)
def sch (b : List UInt8) : Nat → List Int
  | 0 => []
  | t + 1 => sch b t ++ [nxt b (sch b t) t]
theorem sch_len (b : List UInt8) : ∀ t, (sch b t).length = t
  | 0 => rfl
  | t + 1 => by rw [sch, List.length_append, sch_len b t]; rfl
def sch64 (b : List UInt8) (t : Nat) : List Int := sch b t ++ List.replicate (64 - t) 0
theorem sch64_len (b : List UInt8) (t : Nat) (h : t ≤ 64) : (sch64 b t).length = 64 := by rw [sch64, List.length_append, sch_len, List.length_replicate]; omega
theorem wA_len (l : List Int) : (wA l).length = l.length := by simp [wA, wD]
def z8 : List Int := List.replicate 8 0
theorem wA_z8 : wA z8 = [.d (.c (.int .u32 0)), .d (.c (.int .u32 0)), .d (.c (.int .u32 0)), .d (.c (.int .u32 0)), .d (.c (.int .u32 0)), .d (.c (.int .u32 0)), .d (.c (.int .u32 0)), .d (.c (.int .u32 0))] := rfl
def blSt (b : List UInt8) (t : Nat) : List (Nat × AV) := [(16, .d (.c (.int .i64 t))), (5, .ptr 2 0), (4, .ptr 1 0), (2, .ptr 0 0), (1, .d (.sl 1 b.length (bD b)))]
def blRe (s : List Int) (b : List UInt8) (t : Nat) : Rs := [some (.obj (wA s)), some (.obj (wA z8)), some (.obj (wA (sch64 b t)))]
theorem wA_wf (n : Nat) (l : List Int) : wfL n (wA l) = true := wfL_map_d n _
theorem wA_set (l : List Int) (o : Nat) (x : Int) : (wA l).set o (.d (.c (.int .u32 x))) = wA (l.set o x) := by rw [wA, wA, wD, wD, List.map_set, List.map_set]
theorem wA_splice (l : List Int) (o : Nat) (x : Int) : splice (wA l) o [.d (.c (.int .u32 x))] = wA (l.set o x) := wA_set l o x
theorem wA_get (l : List Int) (o : Nat) (h : o < l.length) : (wA l)[o]? = some (.d (.c (.int .u32 (l.getD o 0)))) := by
  rw [wA, wD, List.getElem?_map, List.getElem?_map, List.getElem?_eq_getElem h, List.getD_eq_getElem?_getD, List.getElem?_eq_getElem h]; rfl
theorem u32_u8 (c : UInt8) : IntKind.u32.wrap (c.toNat : Int) = c.toNat := by
  have := c.toNat_lt
  rw [w_u32 (by omega)]; omega
theorem sch64_set (b : List UInt8) (t : Nat) (h : t < 64) : (sch64 b t).set t (nxt b (sch b t) t) = sch64 b (t + 1) := by
  rw [sch64, List.set_append_right _ _ (by rw [sch_len]; omega), sch_len, Nat.sub_self, show 64 - t = (64 - (t + 1)) + 1 by omega, List.replicate_succ, List.set_cons_zero, sch64, sch, List.append_assoc]; rfl
theorem sch64_get (b : List UInt8) (t i : Nat) (h : i < t) : (sch64 b t).getD i 0 = (sch b t).getD i 0 := by
  rw [sch64, List.getD_eq_getElem?_getD, List.getD_eq_getElem?_getD, List.getElem?_append_left (by rw [sch_len]; omega)]
theorem wD_map (l : List Int) : (wD l).map AV.d = wA l := rfl
theorem wA_allD (l : List Int) : allD (wA l) = some (wD l) := allD_map _
theorem wA_cons (a : Int) (l : List Int) : wA (a :: l) = .d (.c (.int .u32 a)) :: wA l := rfl
theorem wA_nil : wA [] = [] := rfl
theorem wD_cons (a : Int) (l : List Int) : wD (a :: l) = .c (.int .u32 a) :: wD l := rfl
theorem wD_nil : wD [] = [] := rfl
def one_ (e f g h k w : Int) : Int := IntKind.u32.wrap (IntKind.u32.wrap (IntKind.u32.wrap (IntKind.u32.wrap (h + ibits .xor .u32 (ibits .xor .u32 (rot e 6) (rot e 11)) (rot e 25)) + ibits .xor .u32 (ibits .and .u32 e f) (ibits .and .u32 (ibits .xor .u32 (if IntKind.u32.signed = true then -1 else IntKind.u32.max) e) g)) + k) + w)
def two_ (a b c : Int) : Int := IntKind.u32.wrap (ibits .xor .u32 (ibits .xor .u32 (rot a 2) (rot a 13)) (rot a 22) + ibits .xor .u32 (ibits .xor .u32 (ibits .and .u32 a b) (ibits .and .u32 a c)) (ibits .and .u32 b c))
def rstep (k w : Int) : List Int → List Int
  | [a, b, c, d, e, f, g, h] => [IntKind.u32.wrap (one_ e f g h k w + two_ a b c), a, b, c, IntKind.u32.wrap (d + one_ e f g h k w), e, f, g]
  | l => l
def rnds (s W : List Int) : Nat → List Int
  | 0 => s
  | t + 1 => rstep (roundsL.getD t 0) (W.getD t 0) (rnds s W t)
theorem len8 : ∀ {l : List Int}, l.length = 8 → ∃ a b c d e f g h, l = [a, b, c, d, e, f, g, h]
  | [a, b, c, d, e, f, g, h], _ => ⟨a, b, c, d, e, f, g, h, rfl⟩
theorem rstep_len (k w : Int) {l : List Int} (h : l.length = 8) : (rstep k w l).length = 8 := by
  obtain ⟨a, b, c, d, e, f, g, h, rfl⟩ := len8 h; rfl
theorem rnds_len (s W : List Int) (h : s.length = 8) : ∀ t, (rnds s W t).length = 8
  | 0 => h
  | t + 1 => rstep_len _ _ (rnds_len s W h t)
theorem rnds_zero (s W : List Int) : s = rnds s W 0 := rfl
theorem splice8 (s : List Int) (h : s.length = 8) : splice [.d (.c (.int .u32 0)), .d (.c (.int .u32 0)), .d (.c (.int .u32 0)), .d (.c (.int .u32 0)), .d (.c (.int .u32 0)), .d (.c (.int .u32 0)), .d (.c (.int .u32 0)), .d (.c (.int .u32 0))] 0 (wA s) = wA s := by
  obtain ⟨a, b, c, d, e, f, g, h, rfl⟩ := len8 h; rfl
theorem noG1 (t : Nat) (h : t < 64) : (noG 1).drop t = D.c (.int .u32 (roundsL.getD t 0)) :: (noG 1).drop (t + 1) := by
  have hl : roundsL.length = 64 := rfl
  have hn : noG 1 = roundsL.map fun x => D.c (.int .u32 x) := rfl
  have hm : (roundsL.map fun x => D.c (.int .u32 x)).length = 64 := by rw [List.length_map, hl]
  rw [hn, List.drop_eq_getElem_cons (by omega), List.getElem_map, List.getD_eq_getElem?_getD, List.getElem?_eq_getElem (by omega)]; rfl
def adds (ρ s : List Int) : Nat → List Int
  | 0 => ρ
  | i + 1 => (adds ρ s i).set i (IntKind.u32.wrap ((adds ρ s i).getD i 0 + s.getD i 0))
theorem adds_len (ρ s : List Int) : ∀ i, (adds ρ s i).length = ρ.length
  | 0 => rfl
  | i + 1 => by rw [adds, List.length_set, adds_len ρ s i]
def blk (s : List Int) (b : List UInt8) : List Int := adds (rnds s (sch64 b 64) 64) s 8
def adSt (i : Nat) : List (Nat × AV) := [(169, .d (.c (.int .i64 i))), (9, .ptr 3 0), (4, .ptr 1 0), (2, .ptr 0 0)]
def adRe (s W ρ : List Int) (i : Nat) : Rs := [some (.obj (wA s)), some (.obj (wA z8)), some (.obj (wA W)), some (.obj (wA (adds ρ s i)))]
def rdSt (b : List UInt8) (i : Nat × List Int) : List (Nat × AV) := [(95, .d (.c (.int .i64 i.1))), (9, .ptr 3 0), (5, .ptr 2 0), (4, .ptr 1 0), (2, .ptr 0 0)]
def rdRe (s W : List Int) (i : Nat × List Int) : Rs := [some (.obj (wA s)), some (.obj (wA z8)), some (.obj (wA W)), some (.obj (wA i.2))]
set_option maxHeartbeats 400000 in
theorem block_ac (s : List Int) (b : List UInt8) (hs : s.length = 8) (hb : 64 ≤ b.length) (hb2 : b.length ≤ 140737488355000) :
    AC Tryd.prog noG 53 [.d (.agg (wD s)), .d (.sl 1 b.length (bD b))] [] (fun v r' => v = .d (.agg (wD (blk s b))) ∧ r' = []) := by
  refine AC.pure ?_ (by rintro v rfl; rfl)
  refine AC_of_R (N := 182) (res := [.cell 4 75]) ty_ok Tryd.call53 Tryd.func53 rfl rfl rfl (Nat.le_of_ble_eq_true rfl) ?_
  have hwD := wD_map s
  have hws := wA_len s
  have hwt : (wA s).take 8 = wA s := List.take_of_length_le (by omega)
  refine rn1 @hwD ?_
  refine HC_loop (blSt b) (blRe s b) (fun t => t ≤ 64) (fun t => 64 - t) 0 (by omega) (fun _ => rfl) ?_ ?_
  · simp only [Fit, WkL, wfSt, wfRs, wfA, wfM, wfL, wk_refl, wk_top, wk_sl, wk_nilFull, wk_nilD, wkr_refl, get_mk, ↓lk_cons, ↓reduceIte, Nat.reduceEqDiff, List.length_cons, List.length_nil, List.length_append, decide_true, Bool.and_true, and_true, true_and, Nat.reduceLT, Nat.zero_add, Nat.reduceAdd, blSt, blRe, wA_wf, wfRs, wfM]
    exact ⟨wk_eq rfl, .refl _⟩
  · intro t ht
    refine HC_of_R ty_ok ?_
    have h64 := sch64_len b t ht
    have hwl := wA_len (sch64 b t)
    by_cases ht4 : t < 64
    · have hi4 : (t : Int) < 64 := by omega
      by_cases ht6 : t < 16
      · have hi6 : (t : Int) < 16 := by omega
        refine rn1 (jn @blSt.eq_1 (jn @blRe.eq_1 (jn @hi4 @hi6))) ?_
        refine HC_plan [] ty_ok mix (by kernel_rfl) ?_
        have e0 : (4 * (t : Int)).toNat = 4 * t := by omega
        have e1 : (4 * (t : Int) + 1).toNat = 4 * t + 1 := by omega
        have e2 : (4 * (t : Int) + 2).toNat = 4 * t + 2 := by omega
        have e3 : (4 * (t : Int) + 3).toNat = 4 * t + 3 := by omega
        have hn : nxt b (sch b t) t = wd b t := if_pos ht6
        refine rn1 (jn @hwl (jn @h64 (jn @wA_splice (jn @wA_set (jn @u32_u8 (jn @e0 (jn @e1 (jn @e2 @e3)))))))) ?_
        refine ⟨by omega, by omega, by omega, by omega, by omega, by omega, t + 1, by omega, by omega, ?_⟩
        simp only [Fit, WkL, wfSt, wfRs, wfA, wfM, wfL, wk_refl, wk_top, wk_sl, wk_nilFull, wk_nilD, wkr_refl, get_mk, ↓lk_cons, ↓reduceIte, Nat.reduceEqDiff, List.length_cons, List.length_nil, List.length_append, decide_true, Bool.and_true, and_true, true_and, Nat.reduceLT, Nat.zero_add, Nat.reduceAdd, blSt, blRe, wA_wf, wfRs, wfM]
        rw [← sch64_set b t ht4, hn, wd]
        exact ⟨wk_eq rfl, .refl _⟩
      · have hi6 : ¬ (t : Int) < 16 := by omega
        refine rn1 (jn @blSt.eq_1 (jn @blRe.eq_1 (jn @hi4 @hi6))) ?_
        refine HC_plan [] ty_ok mix (by kernel_rfl) ?_
        have e1 : ((t : Int) - 15).toNat = t - 15 := by omega
        have e2 : ((t : Int) - 2).toNat = t - 2 := by omega
        have e3 : ((t : Int) - 7).toNat = t - 7 := by omega
        have e4 : ((t : Int) - 16).toNat = t - 16 := by omega
        refine rn1 (jn @hwl (jn @h64 (jn @wA_get (jn @e1 @e2)))) ?_
        refine ⟨by omega, by omega, ?_⟩
        refine HC_order [2, 4, 15, 17] ty_ok mix [0, 1, 3, 6, 7, 9, 10, 11, 12, 14, 16, 19, 20, 23, 24, 25, 26, 2, 4, 5, 8, 13, 15, 17, 18, 21, 22, 27, 28, 29] (by kernel_rfl) rfl _ rfl ?_
        simp only [opl_nil', opl_cons', oplC_some, List.getElem?_toArray, List.getElem?_cons_zero, List.getElem?_cons_succ]
        refine rn1 (jn @hwl (jn @h64 (jn @wA_get (jn @e3 @e4)))) ?_
        refine ⟨by omega, by omega, ?_⟩
        refine HO_pureA ty_ok (turn_ac _ 17 (by decide) (by decide)) ?_
        refine rn0 ?_
        refine HO_pureA ty_ok (turn_ac _ 19 (by decide) (by decide)) ?_
        refine rn0 ?_
        refine HO_pureA ty_ok (turn_ac _ 7 (by decide) (by decide)) ?_
        refine rn0 ?_
        refine HO_pureA ty_ok (turn_ac _ 18 (by decide) (by decide)) ?_
        refine rn1 (jn @hwl (jn @h64 (jn @wA_splice @wA_set))) ?_
        have hn : nxt b (sch b t) t = wn ((sch64 b t).getD (t - 2) 0) ((sch64 b t).getD (t - 7) 0) ((sch64 b t).getD (t - 15) 0) ((sch64 b t).getD (t - 16) 0) := by
          rw [nxt, if_neg ht6, sch64_get _ _ _ (by omega), sch64_get _ _ _ (by omega), sch64_get _ _ _ (by omega), sch64_get _ _ _ (by omega)]
        refine ⟨by omega, by omega, t + 1, by omega, by omega, ?_⟩
        simp only [Fit, WkL, wfSt, wfRs, wfA, wfM, wfL, wk_refl, wk_top, wk_sl, wk_nilFull, wk_nilD, wkr_refl, get_mk, ↓lk_cons, ↓reduceIte, Nat.reduceEqDiff, List.length_cons, List.length_nil, List.length_append, decide_true, Bool.and_true, and_true, true_and, Nat.reduceLT, Nat.zero_add, Nat.reduceAdd, blSt, blRe, wA_wf, wfRs, wfM]
        rw [← sch64_set b t ht4, hn, wn]
        exact ⟨wk_eq rfl, .refl _⟩
    · have hi4 : ¬ (t : Int) < 64 := by omega
      have e64 : t = 64 := by omega
      subst e64
      obtain ⟨W, hW⟩ : ∃ W, W = sch64 b 64 := ⟨_, rfl⟩
      have hWl : W.length = 64 := by rw [hW]; exact h64
      have hwW := wA_len W
      refine rn1 (jn @blSt.eq_1 (jn @blRe.eq_1 (jn @hi4 (jn @hws (jn @hs (jn @hwt (jn @wA_allD @hwD))))))) ?_
      rw [splice8 s hs, ← hW]
      refine HC_loop (rdSt b) (rdRe s W) (fun i => i.1 ≤ 64 ∧ i.2 = rnds s W i.1) (fun i => 64 - i.1) (0, s) ⟨Nat.zero_le _, rnds_zero s W⟩ (fun _ => rfl) ?_ ?_
      · simp only [Fit, WkL, wfSt, wfRs, wfA, wfM, wfL, wk_refl, wk_top, wk_sl, wk_nilFull, wk_nilD, wkr_refl, get_mk, ↓lk_cons, ↓reduceIte, Nat.reduceEqDiff, List.length_cons, List.length_nil, List.length_append, decide_true, Bool.and_true, and_true, true_and, Nat.reduceLT, Nat.zero_add, Nat.reduceAdd, rdSt, rdRe, wA_wf, wfRs, wfM]
        exact wk_eq rfl
      · intro ⟨t, ρ⟩ ⟨ht, hρ⟩
        simp only at ht hρ
        refine HC_of_R ty_ok ?_
        have hρl := rnds_len s W hs t
        rw [← hρ] at hρl
        obtain ⟨q0, q1, q2, q3, q4, q5, q6, q7, rfl⟩ := len8 hρl
        by_cases ht4 : t < 64
        · have hi4 : (t : Int) < 64 := by omega
          refine rn1 (jn @rdSt.eq_1 (jn @rdRe.eq_1 (jn @hi4 (jn @wA_cons @wA_nil)))) ?_
          have c8 : ((8 : Nat) : Int) = 8 := rfl
          refine HC_plan [] ty_ok mix (by kernel_rfl) ?_
          refine rn1 @c8 ?_
          refine HC_order [3, 5, 8] ty_ok mix [0, 1, 2, 4, 7, 11, 12, 13, 14, 15, 16, 17, 18, 19, 20, 22, 23, 24, 26, 27, 28, 3, 5, 6, 8, 9, 10, 21, 25, 29, 30] (by kernel_rfl) rfl _ rfl ?_
          simp only [opl_nil', opl_cons', oplC_some, List.getElem?_toArray, List.getElem?_cons_zero, List.getElem?_cons_succ]
          have hG := noG1 t ht4
          refine rn1 (jn @c8 (jn @hwW (jn @hWl (jn @wA_get @hG)))) ?_
          refine ⟨by omega, by omega, ?_⟩
          refine HO_pureA ty_ok (turn_ac _ 6 (by decide) (by decide)) ?_
          refine rn0 ?_
          refine HO_pureA ty_ok (turn_ac _ 11 (by decide) (by decide)) ?_
          refine rn0 ?_
          refine HO_pureA ty_ok (turn_ac _ 25 (by decide) (by decide)) ?_
          refine rn0 ?_
          refine HC_order [1, 3, 6] ty_ok mix [0, 2, 5, 8, 9, 10, 11, 12, 13, 14, 15, 16, 17, 18, 19, 20, 21, 22, 1, 3, 4, 6, 7, 23, 24] (by kernel_rfl) rfl _ rfl ?_
          simp only [opl_nil', opl_cons', oplC_some, List.getElem?_toArray, List.getElem?_cons_zero, List.getElem?_cons_succ]
          refine rn1 @c8 ?_
          refine HO_pureA ty_ok (turn_ac _ 2 (by decide) (by decide)) ?_
          refine rn0 ?_
          refine HO_pureA ty_ok (turn_ac _ 13 (by decide) (by decide)) ?_
          refine rn0 ?_
          refine HO_pureA ty_ok (turn_ac _ 22 (by decide) (by decide)) ?_
          refine rn0 ?_
          refine HC_plan [] ty_ok mix (by kernel_rfl) ?_
          refine rn1 @c8 ?_
          refine HO_copyO (e := 74) (k := 7) ty_ok rfl rfl rfl rfl rfl (by kernel_rfl) ⟨by kernel_rfl, by kernel_rfl⟩ (by decide) (by decide) rfl (by kernel_rfl) rfl ?_
          refine rn1 @c8 ?_
          refine ⟨(t + 1, rstep (roundsL.getD t 0) (W.getD t 0) [q0, q1, q2, q3, q4, q5, q6, q7]), ⟨by simp only; omega, by rw [rnds, ← hρ]⟩, by simp only; omega, ?_⟩
          simp only [Fit, WkL, wfSt, wfRs, wfA, wfM, wfL, wk_refl, wk_top, wk_sl, wk_nilFull, wk_nilD, wkr_refl, get_mk, ↓lk_cons, ↓reduceIte, Nat.reduceEqDiff, List.length_cons, List.length_nil, List.length_append, decide_true, Bool.and_true, and_true, true_and, Nat.reduceLT, Nat.zero_add, Nat.reduceAdd, rdSt, rdRe, rstep, one_, two_, wA_cons, wA_nil, wA_wf, wfRs, wfM, wfL, wfA]
          exact wk_eq rfl
        · have e64 : t = 64 := by omega
          subst e64
          have hi4 : ¬ (64 : Int) < 64 := by omega
          refine rn1 (jn @rdSt.eq_1 (jn @rdRe.eq_1 @hi4)) ?_
          obtain ⟨ρ, hρ2⟩ : ∃ ρ, ρ = [q0, q1, q2, q3, q4, q5, q6, q7] := ⟨_, rfl⟩
          have hρ8 : ρ.length = 8 := by rw [hρ2]; rfl
          rw [← hρ2] at hρ ⊢
          refine HC_loop adSt (adRe s W ρ) (fun i => i ≤ 8) (fun i => 8 - i) 0 (by omega) (fun _ => rfl) ?_ ?_
          · simp only [Fit, WkL, wfSt, wfRs, wfA, wfM, wfL, wk_refl, wk_top, wk_sl, wk_nilFull, wk_nilD, wkr_refl, get_mk, ↓lk_cons, ↓reduceIte, Nat.reduceEqDiff, List.length_cons, List.length_nil, List.length_append, decide_true, Bool.and_true, and_true, true_and, Nat.reduceLT, Nat.zero_add, Nat.reduceAdd, adSt, adRe, adds, wA_wf, wfRs, wfM]
            exact wk_eq rfl
          · intro i hi
            refine HC_of_R ty_ok ?_
            have hal : (adds ρ s i).length = 8 := by rw [adds_len, hρ8]
            have hwa := wA_len (adds ρ s i)
            by_cases hi8 : i < 8
            · have hx : (i : Int) < 8 := by omega
              refine rn1 (jn @adSt.eq_1 (jn @adRe.eq_1 @hx)) ?_
              refine HC_plan [] ty_ok mix (by kernel_rfl) ?_
              refine rn1 (jn @hwa (jn @hal (jn @hws (jn @hs (jn @wA_get (jn @wA_set @wA_splice)))))) ?_
              refine ⟨by omega, by omega, by omega, by omega, i + 1, by omega, by omega, ?_⟩
              simp only [Fit, WkL, wfSt, wfRs, wfA, wfM, wfL, wk_refl, wk_top, wk_sl, wk_nilFull, wk_nilD, wkr_refl, get_mk, ↓lk_cons, ↓reduceIte, Nat.reduceEqDiff, List.length_cons, List.length_nil, List.length_append, decide_true, Bool.and_true, and_true, true_and, Nat.reduceLT, Nat.zero_add, Nat.reduceAdd, adSt, adRe, adds, wA_wf, wfRs, wfM]
              exact wk_eq rfl
            · have hx : ¬ (i : Int) < 8 := by omega
              have e8 : i = 8 := by omega
              subst e8
              have hbl : adds ρ s 8 = blk s b := by rw [blk, ← hW, hρ]
              rw [hbl] at hal hwa
              have hwt2 : (wA (blk s b)).take 8 = wA (blk s b) := List.take_of_length_le (by omega)
              have hs8 := splice8 (blk s b) hal
              exact rz1 (jn @adSt.eq_1 (jn @adRe.eq_1 (jn @hx (jn @hbl (jn @hwa (jn @hal (jn @hwt2 (jn @wA_allD (jn @wA_z8 (jn @hs8 @wD_map))))))))))
end Go.Proofs.YtjpjnhljmloofaaDoor
