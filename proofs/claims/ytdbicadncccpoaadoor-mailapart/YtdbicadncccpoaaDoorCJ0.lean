/- Parts of the proof: Base, Turn, Block, HashOps, HashSum. -/
import Derived.Test.YtdbicadncccpoaaDoorCTs
set_option linter.unusedVariables false
set_option linter.unusedSimpArgs false
set_option maxRecDepth 100000
namespace Go.Proofs.YtdbicadncccpoaaDoor
open Go Go.ChangeShapes Go.WideShapes
def firstL : List Int := [1779033703, 3144134277, 1013904242, 2773480762, 1359893119, 2600822924, 528734635, 1541459225]
def roundsL : List Int := [1116352408, 1899447441, 3049323471, 3921009573, 961987163, 1508970993, 2453635748, 2870763221, 3624381080, 310598401, 607225278, 1426881987, 1925078388, 2162078206, 2614888103, 3248222580, 3835390401, 4022224774, 264347078, 604807628, 770255983, 1249150122, 1555081692, 1996064986, 2554220882, 2821834349, 2952996808, 3210313671, 3336571891, 3584528711, 113926993, 338241895, 666307205, 773529912, 1294757372, 1396182291, 1695183700, 1986661051, 2177026350, 2456956037, 2730485921, 2820302411, 3259730800, 3345764771, 3516065817, 3600352804, 4094571909, 275423344, 430227734, 506948616, 659060556, 883997877, 958139571, 1322822218, 1537002063, 1747873779, 1955562222, 2024104815, 2227730452, 2361852424, 2428436474, 2756734187, 3204031479, 3329325298]
def noG : Nat → List D
  | 0 => firstL.map fun x => .c (.int .u32 x)
  | 1 => roundsL.map fun x => .c (.int .u32 x)
  | _ => []

theorem mix : Tryd.prog.follows .mixedOrders = true := by kernel_rfl
end Go.Proofs.YtdbicadncccpoaaDoor

set_option linter.unusedVariables false
set_option linter.unusedSimpArgs false
set_option maxRecDepth 100000
namespace Go.Proofs.YtdbicadncccpoaaDoor
open Go Go.ChangeShapes Go.WideShapes
def rot (x n : Int) : Int := ibits .or .u32 (ishr .u32 x n) (ishl .u32 x (32 - n))
set_option maxHeartbeats 1000000 in
theorem turn_ac (x n : Int) (h0 : 0 ≤ n) (h1 : n ≤ 32) :
    AC Tryd.prog noG 99 [.d (.c (.int .u32 x)), .d (.c (.int .i64 n))] [] (fun v r' => v = .d (.c (.int .u32 (rot x n))) ∧ r' = []) := by
  refine AC.pure ?_ (by rintro v rfl; rfl)
  refine AC_of_R (N := 13) (res := [.tmp 4]) ty_ok Tryd.call99 Tryd.func99 rfl rfl rfl (Nat.le_of_ble_eq_true rfl) ?_
  refine rn0 ?_
  refine HC_plan [] ty_ok mix (by kernel_rfl) ?_
  refine rn0 ?_
  rfl
theorem rrot_ac (x n : Int) (h0 : 0 ≤ n) (h1 : n ≤ 32) :
    AC Tryd.prog noG 98 [.d (.c (.int .u32 x)), .d (.c (.int .u64 n))] [] (fun v r' => v = .d (.c (.int .u32 (rot x n))) ∧ r' = []) := by
  refine AC.pure ?_ (by rintro v rfl; rfl)
  refine AC_of_R (N := 13) (res := [.tmp 4]) ty_ok Tryd.call98 Tryd.func98 rfl rfl rfl (Nat.le_of_ble_eq_true rfl) ?_
  refine rn0 ?_
  rfl
end Go.Proofs.YtdbicadncccpoaaDoor

set_option linter.unusedVariables false
set_option linter.unusedSimpArgs false
set_option maxRecDepth 100000
namespace Go.Proofs.YtdbicadncccpoaaDoor
open Go Go.ChangeShapes Go.WideShapes
/-- Words as a memory's cells. -/
def wD (l : List Int) : List D := l.map fun x => .c (.int .u32 x)
def wA (l : List Int) : List AV := (wD l).map .d
def wd (b : List UInt8) (t : Nat) : Int := ibits .or .u32 (ibits .or .u32 (ibits .or .u32 (ishl .u32 (b.getD (4 * t) 0).toNat 24) (ishl .u32 (b.getD (4 * t + 1) 0).toNat 16)) (ishl .u32 (b.getD (4 * t + 2) 0).toNat 8)) (b.getD (4 * t + 3) 0).toNat
def wn (y z x v : Int) : Int := IntKind.u32.wrap (IntKind.u32.wrap (IntKind.u32.wrap (ibits .xor .u32 (ibits .xor .u32 (rot y 17) (rot y 19)) (ishr .u32 y 10) + z) + ibits .xor .u32 (ibits .xor .u32 (rot x 7) (rot x 18)) (ishr .u32 x 3)) + v)
def nxt (b : List UInt8) (w : List Int) (t : Nat) : Int := if t < 16 then wd b t else wn (w.getD (t - 2) 0) (w.getD (t - 7) 0) (w.getD (t - 15) 0) (w.getD (t - 16) 0)
def sch (b : List UInt8) : Nat → List Int
  | 0 => []
  | t + 1 => sch b t ++ [nxt b (sch b t) t]
theorem sch_len (b : List UInt8) : ∀ t, (sch b t).length = t
  | 0 => rfl
  | t + 1 => by rw [sch, List.length_append, sch_len b t]; rfl
def sch64 (b : List UInt8) (t : Nat) : List Int := sch b t ++ List.replicate (64 - t) 0
theorem sch64_len (b : List UInt8) (t : Nat) (h : t ≤ 64) : (sch64 b t).length = 64 := by rw [sch64, List.length_append, sch_len, List.length_replicate]; omega
theorem wA_len (l : List Int) : (wA l).length = l.length := by simp [wA, wD]
def z8 : List Int := List.replicate 8 0
theorem wA_z8 : wA z8 = [.d (.c (.int .u32 0)), .d (.c (.int .u32 0)), .d (.c (.int .u32 0)), .d (.c (.int .u32 0)), .d (.c (.int .u32 0)), .d (.c (.int .u32 0)), .d (.c (.int .u32 0)), .d (.c (.int .u32 0))] := rfl
def blSt (b : List UInt8) (t : Nat) : List (Nat × AV) := [(16, .d (.c (.int .i64 t))), (5, .ptr 2 0), (4, .ptr 1 0), (2, .ptr 0 0), (1, .d (.sl 1 b.length (bD b)))]
def blRe (s : List Int) (b : List UInt8) (t : Nat) : Rs := [some (.obj (wA s)), some (.obj (wA z8)), some (.obj (wA (sch64 b t)))]
theorem wA_wf (n : Nat) (l : List Int) : wfL n (wA l) = true := wfL_map_d n _
theorem wA_set (l : List Int) (o : Nat) (x : Int) : (wA l).set o (.d (.c (.int .u32 x))) = wA (l.set o x) := by rw [wA, wA, wD, wD, List.map_set, List.map_set]
theorem wA_splice (l : List Int) (o : Nat) (x : Int) : splice (wA l) o [.d (.c (.int .u32 x))] = wA (l.set o x) := wA_set l o x
theorem wA_get (l : List Int) (o : Nat) (h : o < l.length) : (wA l)[o]? = some (.d (.c (.int .u32 (l.getD o 0)))) := by
  rw [wA, wD, List.getElem?_map, List.getElem?_map, List.getElem?_eq_getElem h, List.getD_eq_getElem?_getD, List.getElem?_eq_getElem h]; rfl
theorem u32_u8 (c : UInt8) : IntKind.u32.wrap (c.toNat : Int) = c.toNat := by
  have := c.toNat_lt
  rw [w_u32 (by omega)]; omega
theorem sch64_set (b : List UInt8) (t : Nat) (h : t < 64) : (sch64 b t).set t (nxt b (sch b t) t) = sch64 b (t + 1) := by
  rw [sch64, List.set_append_right _ _ (by rw [sch_len]; omega), sch_len, Nat.sub_self, show 64 - t = (64 - (t + 1)) + 1 by omega, List.replicate_succ, List.set_cons_zero, sch64, sch, List.append_assoc]; rfl
theorem sch64_get (b : List UInt8) (t i : Nat) (h : i < t) : (sch64 b t).getD i 0 = (sch b t).getD i 0 := by
  rw [sch64, List.getD_eq_getElem?_getD, List.getD_eq_getElem?_getD, List.getElem?_append_left (by rw [sch_len]; omega)]
theorem wD_map (l : List Int) : (wD l).map AV.d = wA l := rfl
theorem wA_allD (l : List Int) : allD (wA l) = some (wD l) := allD_map _
theorem wA_cons (a : Int) (l : List Int) : wA (a :: l) = .d (.c (.int .u32 a)) :: wA l := rfl
theorem wA_nil : wA [] = [] := rfl
theorem wD_cons (a : Int) (l : List Int) : wD (a :: l) = .c (.int .u32 a) :: wD l := rfl
theorem wD_nil : wD [] = [] := rfl
def one_ (e f g h k w : Int) : Int := IntKind.u32.wrap (IntKind.u32.wrap (IntKind.u32.wrap (IntKind.u32.wrap (h + ibits .xor .u32 (ibits .xor .u32 (rot e 6) (rot e 11)) (rot e 25)) + ibits .xor .u32 (ibits .and .u32 e f) (ibits .and .u32 (ibits .xor .u32 (if IntKind.u32.signed = true then -1 else IntKind.u32.max) e) g)) + k) + w)
def two_ (a b c : Int) : Int := IntKind.u32.wrap (ibits .xor .u32 (ibits .xor .u32 (rot a 2) (rot a 13)) (rot a 22) + ibits .xor .u32 (ibits .xor .u32 (ibits .and .u32 a b) (ibits .and .u32 a c)) (ibits .and .u32 b c))
def rstep (k w : Int) : List Int → List Int
  | [a, b, c, d, e, f, g, h] => [IntKind.u32.wrap (one_ e f g h k w + two_ a b c), a, b, c, IntKind.u32.wrap (d + one_ e f g h k w), e, f, g]
  | l => l
def rnds (s W : List Int) : Nat → List Int
  | 0 => s
  | t + 1 => rstep (roundsL.getD t 0) (W.getD t 0) (rnds s W t)
theorem len8 : ∀ {l : List Int}, l.length = 8 → ∃ a b c d e f g h, l = [a, b, c, d, e, f, g, h]
  | [a, b, c, d, e, f, g, h], _ => ⟨a, b, c, d, e, f, g, h, rfl⟩
theorem rstep_len (k w : Int) {l : List Int} (h : l.length = 8) : (rstep k w l).length = 8 := by
  obtain ⟨a, b, c, d, e, f, g, h, rfl⟩ := len8 h; rfl
theorem rnds_len (s W : List Int) (h : s.length = 8) : ∀ t, (rnds s W t).length = 8
  | 0 => h
  | t + 1 => rstep_len _ _ (rnds_len s W h t)
theorem rnds_zero (s W : List Int) : s = rnds s W 0 := rfl
theorem splice8 (s : List Int) (h : s.length = 8) : splice [.d (.c (.int .u32 0)), .d (.c (.int .u32 0)), .d (.c (.int .u32 0)), .d (.c (.int .u32 0)), .d (.c (.int .u32 0)), .d (.c (.int .u32 0)), .d (.c (.int .u32 0)), .d (.c (.int .u32 0))] 0 (wA s) = wA s := by
  obtain ⟨a, b, c, d, e, f, g, h, rfl⟩ := len8 h; rfl
theorem noG1 (t : Nat) (h : t < 64) : (noG 1).drop t = D.c (.int .u32 (roundsL.getD t 0)) :: (noG 1).drop (t + 1) := by
  have hl : roundsL.length = 64 := rfl
  have hn : noG 1 = roundsL.map fun x => D.c (.int .u32 x) := rfl
  have hm : (roundsL.map fun x => D.c (.int .u32 x)).length = 64 := by rw [List.length_map, hl]
  rw [hn, List.drop_eq_getElem_cons (by omega), List.getElem_map, List.getD_eq_getElem?_getD, List.getElem?_eq_getElem (by omega)]; rfl
def adds (ρ s : List Int) : Nat → List Int
  | 0 => ρ
  | i + 1 => (adds ρ s i).set i (IntKind.u32.wrap ((adds ρ s i).getD i 0 + s.getD i 0))
theorem adds_len (ρ s : List Int) : ∀ i, (adds ρ s i).length = ρ.length
  | 0 => rfl
  | i + 1 => by rw [adds, List.length_set, adds_len ρ s i]
def blk (s : List Int) (b : List UInt8) : List Int := adds (rnds s (sch64 b 64) 64) s 8
def adSt (i : Nat) : List (Nat × AV) := [(169, .d (.c (.int .i64 i))), (9, .ptr 3 0), (4, .ptr 1 0), (2, .ptr 0 0)]
def adRe (s W ρ : List Int) (i : Nat) : Rs := [some (.obj (wA s)), some (.obj (wA z8)), some (.obj (wA W)), some (.obj (wA (adds ρ s i)))]
def rdSt (b : List UInt8) (i : Nat × List Int) : List (Nat × AV) := [(95, .d (.c (.int .i64 i.1))), (9, .ptr 3 0), (5, .ptr 2 0), (4, .ptr 1 0), (2, .ptr 0 0)]
def rdRe (s W : List Int) (i : Nat × List Int) : Rs := [some (.obj (wA s)), some (.obj (wA z8)), some (.obj (wA W)), some (.obj (wA i.2))]
set_option maxHeartbeats 400000 in
theorem block_ac (s : List Int) (b : List UInt8) (hs : s.length = 8) (hb : 64 ≤ b.length) (hb2 : b.length ≤ 140737488355000) :
    AC Tryd.prog noG 95 [.d (.agg (wD s)), .d (.sl 1 b.length (bD b))] [] (fun v r' => v = .d (.agg (wD (blk s b))) ∧ r' = []) := by
  refine AC.pure ?_ (by rintro v rfl; rfl)
  refine AC_of_R (N := 182) (res := [.cell 4 135]) ty_ok Tryd.call95 Tryd.func95 rfl rfl rfl (Nat.le_of_ble_eq_true rfl) ?_
  have hwD := wD_map s
  have hws := wA_len s
  have hwt : (wA s).take 8 = wA s := List.take_of_length_le (by omega)
  refine rn1 @hwD ?_
  refine HC_loop (blSt b) (blRe s b) (fun t => t ≤ 64) (fun t => 64 - t) 0 (by omega) (fun _ => rfl) ?_ ?_
  · simp only [Fit, WkL, wfSt, wfRs, wfA, wfM, wfL, wk_refl, wk_top, wk_sl, wk_nilFull, wk_nilD, wkr_refl, get_mk, ↓lk_cons, ↓reduceIte, Nat.reduceEqDiff, List.length_cons, List.length_nil, List.length_append, decide_true, Bool.and_true, and_true, true_and, Nat.reduceLT, Nat.zero_add, Nat.reduceAdd, blSt, blRe, wA_wf, wfRs, wfM]
    exact ⟨wk_eq rfl, .refl _⟩
  · intro t ht
    refine HC_of_R ty_ok ?_
    have h64 := sch64_len b t ht
    have hwl := wA_len (sch64 b t)
    by_cases ht4 : t < 64
    · have hi4 : (t : Int) < 64 := by omega
      by_cases ht6 : t < 16
      · have hi6 : (t : Int) < 16 := by omega
        refine rn1 (jn @blSt.eq_1 (jn @blRe.eq_1 (jn @hi4 @hi6))) ?_
        refine HC_plan [] ty_ok mix (by kernel_rfl) ?_
        have e0 : (4 * (t : Int)).toNat = 4 * t := by omega
        have e1 : (4 * (t : Int) + 1).toNat = 4 * t + 1 := by omega
        have e2 : (4 * (t : Int) + 2).toNat = 4 * t + 2 := by omega
        have e3 : (4 * (t : Int) + 3).toNat = 4 * t + 3 := by omega
        have hn : nxt b (sch b t) t = wd b t := if_pos ht6
        refine rn1 (jn @hwl (jn @h64 (jn @wA_splice (jn @wA_set (jn @u32_u8 (jn @e0 (jn @e1 (jn @e2 @e3)))))))) ?_
        refine ⟨by omega, by omega, by omega, by omega, by omega, by omega, t + 1, by omega, by omega, ?_⟩
        simp only [Fit, WkL, wfSt, wfRs, wfA, wfM, wfL, wk_refl, wk_top, wk_sl, wk_nilFull, wk_nilD, wkr_refl, get_mk, ↓lk_cons, ↓reduceIte, Nat.reduceEqDiff, List.length_cons, List.length_nil, List.length_append, decide_true, Bool.and_true, and_true, true_and, Nat.reduceLT, Nat.zero_add, Nat.reduceAdd, blSt, blRe, wA_wf, wfRs, wfM]
        rw [← sch64_set b t ht4, hn, wd]
        exact ⟨wk_eq rfl, .refl _⟩
      · have hi6 : ¬ (t : Int) < 16 := by omega
        refine rn1 (jn @blSt.eq_1 (jn @blRe.eq_1 (jn @hi4 @hi6))) ?_
        refine HC_plan [] ty_ok mix (by kernel_rfl) ?_
        have e1 : ((t : Int) - 15).toNat = t - 15 := by omega
        have e2 : ((t : Int) - 2).toNat = t - 2 := by omega
        have e3 : ((t : Int) - 7).toNat = t - 7 := by omega
        have e4 : ((t : Int) - 16).toNat = t - 16 := by omega
        refine rn1 (jn @hwl (jn @h64 (jn @wA_get (jn @e1 @e2)))) ?_
        refine ⟨by omega, by omega, ?_⟩
        refine HC_order [2, 4, 15, 17] ty_ok mix [0, 1, 3, 6, 7, 9, 10, 11, 12, 14, 16, 19, 20, 23, 24, 25, 26, 2, 4, 5, 8, 13, 15, 17, 18, 21, 22, 27, 28, 29] (by kernel_rfl) rfl _ rfl ?_
        simp only [opl_nil', opl_cons', oplC_some, List.getElem?_toArray, List.getElem?_cons_zero, List.getElem?_cons_succ]
        refine rn1 (jn @hwl (jn @h64 (jn @wA_get (jn @e3 @e4)))) ?_
        refine ⟨by omega, by omega, ?_⟩
        refine HO_pureA ty_ok (turn_ac _ 17 (by decide) (by decide)) ?_
        refine rn0 ?_
        refine HO_pureA ty_ok (turn_ac _ 19 (by decide) (by decide)) ?_
        refine rn0 ?_
        refine HO_pureA ty_ok (turn_ac _ 7 (by decide) (by decide)) ?_
        refine rn0 ?_
        refine HO_pureA ty_ok (turn_ac _ 18 (by decide) (by decide)) ?_
        refine rn1 (jn @hwl (jn @h64 (jn @wA_splice @wA_set))) ?_
        have hn : nxt b (sch b t) t = wn ((sch64 b t).getD (t - 2) 0) ((sch64 b t).getD (t - 7) 0) ((sch64 b t).getD (t - 15) 0) ((sch64 b t).getD (t - 16) 0) := by
          rw [nxt, if_neg ht6, sch64_get _ _ _ (by omega), sch64_get _ _ _ (by omega), sch64_get _ _ _ (by omega), sch64_get _ _ _ (by omega)]
        refine ⟨by omega, by omega, t + 1, by omega, by omega, ?_⟩
        simp only [Fit, WkL, wfSt, wfRs, wfA, wfM, wfL, wk_refl, wk_top, wk_sl, wk_nilFull, wk_nilD, wkr_refl, get_mk, ↓lk_cons, ↓reduceIte, Nat.reduceEqDiff, List.length_cons, List.length_nil, List.length_append, decide_true, Bool.and_true, and_true, true_and, Nat.reduceLT, Nat.zero_add, Nat.reduceAdd, blSt, blRe, wA_wf, wfRs, wfM]
        rw [← sch64_set b t ht4, hn, wn]
        exact ⟨wk_eq rfl, .refl _⟩
    · have hi4 : ¬ (t : Int) < 64 := by omega
      have e64 : t = 64 := by omega
      subst e64
      obtain ⟨W, hW⟩ : ∃ W, W = sch64 b 64 := ⟨_, rfl⟩
      have hWl : W.length = 64 := by rw [hW]; exact h64
      have hwW := wA_len W
      refine rn1 (jn @blSt.eq_1 (jn @blRe.eq_1 (jn @hi4 (jn @hws (jn @hs (jn @hwt (jn @wA_allD @hwD))))))) ?_
      rw [splice8 s hs, ← hW]
      refine HC_loop (rdSt b) (rdRe s W) (fun i => i.1 ≤ 64 ∧ i.2 = rnds s W i.1) (fun i => 64 - i.1) (0, s) ⟨Nat.zero_le _, rnds_zero s W⟩ (fun _ => rfl) ?_ ?_
      · simp only [Fit, WkL, wfSt, wfRs, wfA, wfM, wfL, wk_refl, wk_top, wk_sl, wk_nilFull, wk_nilD, wkr_refl, get_mk, ↓lk_cons, ↓reduceIte, Nat.reduceEqDiff, List.length_cons, List.length_nil, List.length_append, decide_true, Bool.and_true, and_true, true_and, Nat.reduceLT, Nat.zero_add, Nat.reduceAdd, rdSt, rdRe, wA_wf, wfRs, wfM]
        exact wk_eq rfl
      · intro ⟨t, ρ⟩ ⟨ht, hρ⟩
        simp only at ht hρ
        refine HC_of_R ty_ok ?_
        have hρl := rnds_len s W hs t
        rw [← hρ] at hρl
        obtain ⟨q0, q1, q2, q3, q4, q5, q6, q7, rfl⟩ := len8 hρl
        by_cases ht4 : t < 64
        · have hi4 : (t : Int) < 64 := by omega
          refine rn1 (jn @rdSt.eq_1 (jn @rdRe.eq_1 (jn @hi4 (jn @wA_cons @wA_nil)))) ?_
          have c8 : ((8 : Nat) : Int) = 8 := rfl
          refine HC_plan [] ty_ok mix (by kernel_rfl) ?_
          refine rn1 @c8 ?_
          refine HC_order [3, 5, 8] ty_ok mix [0, 1, 2, 4, 7, 11, 12, 13, 14, 15, 16, 17, 18, 19, 20, 22, 23, 24, 26, 27, 28, 3, 5, 6, 8, 9, 10, 21, 25, 29, 30] (by kernel_rfl) rfl _ rfl ?_
          simp only [opl_nil', opl_cons', oplC_some, List.getElem?_toArray, List.getElem?_cons_zero, List.getElem?_cons_succ]
          have hG := noG1 t ht4
          refine rn1 (jn @c8 (jn @hwW (jn @hWl (jn @wA_get @hG)))) ?_
          refine ⟨by omega, by omega, ?_⟩
          refine HO_pureA ty_ok (turn_ac _ 6 (by decide) (by decide)) ?_
          refine rn0 ?_
          refine HO_pureA ty_ok (turn_ac _ 11 (by decide) (by decide)) ?_
          refine rn0 ?_
          refine HO_pureA ty_ok (turn_ac _ 25 (by decide) (by decide)) ?_
          refine rn0 ?_
          refine HC_order [1, 3, 6] ty_ok mix [0, 2, 5, 8, 9, 10, 11, 12, 13, 14, 15, 16, 17, 18, 19, 20, 21, 22, 1, 3, 4, 6, 7, 23, 24] (by kernel_rfl) rfl _ rfl ?_
          simp only [opl_nil', opl_cons', oplC_some, List.getElem?_toArray, List.getElem?_cons_zero, List.getElem?_cons_succ]
          refine rn1 @c8 ?_
          refine HO_pureA ty_ok (turn_ac _ 2 (by decide) (by decide)) ?_
          refine rn0 ?_
          refine HO_pureA ty_ok (turn_ac _ 13 (by decide) (by decide)) ?_
          refine rn0 ?_
          refine HO_pureA ty_ok (turn_ac _ 22 (by decide) (by decide)) ?_
          refine rn0 ?_
          refine HC_plan [] ty_ok mix (by kernel_rfl) ?_
          refine rn1 @c8 ?_
          refine HO_copyO (e := 134) (k := 7) ty_ok rfl rfl rfl rfl rfl (by kernel_rfl) ⟨by kernel_rfl, by kernel_rfl⟩ (by decide) (by decide) rfl (by kernel_rfl) rfl ?_
          refine rn1 @c8 ?_
          refine ⟨(t + 1, rstep (roundsL.getD t 0) (W.getD t 0) [q0, q1, q2, q3, q4, q5, q6, q7]), ⟨by simp only; omega, by rw [rnds, ← hρ]⟩, by simp only; omega, ?_⟩
          simp only [Fit, WkL, wfSt, wfRs, wfA, wfM, wfL, wk_refl, wk_top, wk_sl, wk_nilFull, wk_nilD, wkr_refl, get_mk, ↓lk_cons, ↓reduceIte, Nat.reduceEqDiff, List.length_cons, List.length_nil, List.length_append, decide_true, Bool.and_true, and_true, true_and, Nat.reduceLT, Nat.zero_add, Nat.reduceAdd, rdSt, rdRe, rstep, one_, two_, wA_cons, wA_nil, wA_wf, wfRs, wfM, wfL, wfA]
          exact wk_eq rfl
        · have e64 : t = 64 := by omega
          subst e64
          have hi4 : ¬ (64 : Int) < 64 := by omega
          refine rn1 (jn @rdSt.eq_1 (jn @rdRe.eq_1 @hi4)) ?_
          obtain ⟨ρ, hρ2⟩ : ∃ ρ, ρ = [q0, q1, q2, q3, q4, q5, q6, q7] := ⟨_, rfl⟩
          have hρ8 : ρ.length = 8 := by rw [hρ2]; rfl
          rw [← hρ2] at hρ ⊢
          refine HC_loop adSt (adRe s W ρ) (fun i => i ≤ 8) (fun i => 8 - i) 0 (by omega) (fun _ => rfl) ?_ ?_
          · simp only [Fit, WkL, wfSt, wfRs, wfA, wfM, wfL, wk_refl, wk_top, wk_sl, wk_nilFull, wk_nilD, wkr_refl, get_mk, ↓lk_cons, ↓reduceIte, Nat.reduceEqDiff, List.length_cons, List.length_nil, List.length_append, decide_true, Bool.and_true, and_true, true_and, Nat.reduceLT, Nat.zero_add, Nat.reduceAdd, adSt, adRe, adds, wA_wf, wfRs, wfM]
            exact wk_eq rfl
          · intro i hi
            refine HC_of_R ty_ok ?_
            have hal : (adds ρ s i).length = 8 := by rw [adds_len, hρ8]
            have hwa := wA_len (adds ρ s i)
            by_cases hi8 : i < 8
            · have hx : (i : Int) < 8 := by omega
              refine rn1 (jn @adSt.eq_1 (jn @adRe.eq_1 @hx)) ?_
              refine HC_plan [] ty_ok mix (by kernel_rfl) ?_
              refine rn1 (jn @hwa (jn @hal (jn @hws (jn @hs (jn @wA_get (jn @wA_set @wA_splice)))))) ?_
              refine ⟨by omega, by omega, by omega, by omega, i + 1, by omega, by omega, ?_⟩
              simp only [Fit, WkL, wfSt, wfRs, wfA, wfM, wfL, wk_refl, wk_top, wk_sl, wk_nilFull, wk_nilD, wkr_refl, get_mk, ↓lk_cons, ↓reduceIte, Nat.reduceEqDiff, List.length_cons, List.length_nil, List.length_append, decide_true, Bool.and_true, and_true, true_and, Nat.reduceLT, Nat.zero_add, Nat.reduceAdd, adSt, adRe, adds, wA_wf, wfRs, wfM]
              exact wk_eq rfl
            · have hx : ¬ (i : Int) < 8 := by omega
              have e8 : i = 8 := by omega
              subst e8
              have hbl : adds ρ s 8 = blk s b := by rw [blk, ← hW, hρ]
              rw [hbl] at hal hwa
              have hwt2 : (wA (blk s b)).take 8 = wA (blk s b) := List.take_of_length_le (by omega)
              have hs8 := splice8 (blk s b) hal
              exact rz1 (jn @adSt.eq_1 (jn @adRe.eq_1 (jn @hx (jn @hbl (jn @hwa (jn @hal (jn @hwt2 (jn @wA_allD (jn @wA_z8 (jn @hs8 @wD_map))))))))))
end Go.Proofs.YtdbicadncccpoaaDoor

set_option linter.unusedVariables false
set_option linter.unusedSimpArgs false
set_option maxRecDepth 100000
namespace Go.Proofs.YtdbicadncccpoaaDoor
open Go Go.ChangeShapes Go.WideShapes
def blkAll (s : List Int) (b : List UInt8) : List Int := if 64 ≤ b.length then blkAll (blk s b) (b.drop 64) else s
termination_by b.length
decreasing_by simp only [List.length_drop]; omega
def tailB (b : List UInt8) : List UInt8 := if 64 ≤ b.length then tailB (b.drop 64) else b
termination_by b.length
decreasing_by simp only [List.length_drop]; omega
def hashC (s : List Int) (rest : List UInt8) (n : Int) (k : Nat) : List AV := wA s ++ [.sl (.own k) 1 rest.length (bD rest), .d (.c (.int .i64 n)), .d (.c (.bool true))]
set_option maxHeartbeats 400000 in
theorem new_ac : AC Tryd.prog noG 85 [] [] (fun v r' => v = .ptr 0 0 ∧ r' = [some (.obj (hashC firstL [] 0 1)), some (.tok 0)]) := by
  refine AC.fit ?_
  refine AC_of_R (N := 4) (res := [.tmp 0]) ty_ok Tryd.call85 Tryd.func85 rfl rfl rfl (Nat.le_of_ble_eq_true rfl) ?_
  have h0 : (noG 0).take 8 = [.c (.int .u32 1779033703), .c (.int .u32 3144134277), .c (.int .u32 1013904242), .c (.int .u32 2773480762), .c (.int .u32 1359893119), .c (.int .u32 2600822924), .c (.int .u32 528734635), .c (.int .u32 1541459225)] := rfl
  have h1 : (noG 0).length = 8 := rfl
  refine rn1 (jn @h0 @h1) ?_
  exact fv0 [0,1] [0]
theorem blk_len (s : List Int) (b : List UInt8) (h : s.length = 8) : (blk s b).length = 8 := by rw [blk, adds_len, rnds_len _ _ h]
def addSt (b : List UInt8) (i : List Int × List UInt8) : List (Nat × AV) := [(0, .ptr 0 0), (1, .d (.sl 1 b.length (bD b)))]
def addRe (n : Int) (m : Nat) (i : List Int × List UInt8) : Rs := [some (.obj (wA i.1 ++ [.d (.sl 1 i.2.length (bD i.2)), .d (.c (.int .i64 n)), .d (.c (.bool true))])), some (.tok m)]
set_option maxHeartbeats 400000 in
theorem add_ac (s : List Int) (rest b : List UInt8) (n : Int) (hs : s.length = 8) (hn : 0 ≤ n ∧ n + b.length ≤ 140737488355000) (hr : rest.length + b.length ≤ 140737488355000) :
    AC Tryd.prog noG 86 [.ptr 0 0, .d (.sl 1 b.length (bD b))] [some (.obj (hashC s rest n 1)), some (.tok rest.length)]
      (fun v r' => v = .tup [] ∧ r' = [some (.obj (hashC (blkAll s (rest ++ b)) (tailB (rest ++ b)) (n + b.length) 2)), none, some (.tok (tailB (rest ++ b)).length)]) := by
  refine AC.fit ?_
  obtain ⟨q0, q1, q2, q3, q4, q5, q6, q7, rfl⟩ := len8 hs
  refine AC_of_R (N := 65) (res := []) ty_ok Tryd.call86 Tryd.func86 rfl rfl rfl (Nat.le_of_ble_eq_true rfl) ?_
  refine rn1 (jn @hashC.eq_1 (jn @wA_cons @wA_nil)) ?_
  refine ⟨⟨by omega, by omega⟩, HC_loopR (addSt b) (addRe (n + b.length) (rest.length + b.length)) (fun i => i.1.length = 8 ∧ i.2.length ≤ rest.length + b.length ∧ blkAll i.1 i.2 = blkAll [q0, q1, q2, q3, q4, q5, q6, q7] (rest ++ b) ∧ tailB i.2 = tailB (rest ++ b)) (fun i => i.2.length) ([q0, q1, q2, q3, q4, q5, q6, q7], rest ++ b) [0, 1] [] ⟨rfl, by simp, rfl, rfl⟩ ?_ ?_⟩
  · simp only [FitR, WkLR, get_mk, ↓lk_cons, ↓reduceIte, Nat.reduceEqDiff, addSt, addRe, wA_cons, wA_nil, List.cons_append, List.nil_append, List.length_append]
    refine ⟨?_, rfl, ?_, rfl, rfl, rfl⟩ <;> (repeat' (first | exact WkFs.data _ | exact trivial | exact WkF.refl _ | exact WkFs.refl _ | exact rfl | exact WkF.top _ | exact WkF.nil rfl rfl | exact WkF.full rfl rfl | exact .inl (WeakA.toD rfl) | exact .inl (WeakA.nilD _) | exact .inl (WeakA.nilFull _) | exact WkFT.one (WkF.refl _) | exact WkFT.one (.inl (WeakA.toD rfl)) | exact WkFT.one (.inl (WeakA.nilD _)) | exact WkFT.one (.inl (WeakA.nilFull _)) | exact WkFT.one (WkF.nil rfl rfl) | exact WkFT.one (WkF.full rfl rfl) | exact .inl (WeakA.nils rfl (by repeat' (first | exact trivial | exact .inl rfl | exact .inr ⟨rfl, _, rfl⟩ | refine ⟨?_, ?_⟩))) | exact WkFT.one (.inl (WeakA.nils rfl (by repeat' (first | exact trivial | exact .inl rfl | exact .inr ⟨rfl, _, rfl⟩ | refine ⟨?_, ?_⟩)))) | refine ⟨_, rfl, ?_⟩ | refine ⟨?_, ?_⟩ | refine WkFT.tup ?_))
  · intro ⟨s, x⟩ ⟨hs, hx, hb1, hb2⟩
    simp only at hs hx hb1 hb2
    refine HC_of_R ty_ok ?_
    obtain ⟨p0, p1, p2, p3, p4, p5, p6, p7, rfl⟩ := len8 hs
    by_cases h64 : 64 ≤ x.length
    · have hi : (64 : Int) ≤ x.length := by omega
      refine rn1 (jn @addSt.eq_1 (jn @addRe.eq_1 (jn @wA_cons (jn @wA_nil @hi)))) ?_
      refine HC_plan [] ty_ok mix (by kernel_rfl) ?_
      refine rn0 ?_
      refine HO_pureA ty_ok (block_ac [p0, p1, p2, p3, p4, p5, p6, p7] x rfl h64 (by omega)) ?_
      have hbl := blk_len [p0, p1, p2, p3, p4, p5, p6, p7] x rfl
      have hbb : blkAll (blk [p0, p1, p2, p3, p4, p5, p6, p7] x) (x.drop 64) = blkAll [q0, q1, q2, q3, q4, q5, q6, q7] (rest ++ b) := by rw [← hb1, blkAll.eq_def [p0, p1, p2, p3, p4, p5, p6, p7] x, if_pos h64]
      have htt : tailB (x.drop 64) = tailB (rest ++ b) := by rw [← hb2, tailB.eq_def x, if_pos h64]
      generalize blk [p0, p1, p2, p3, p4, p5, p6, p7] x = s2 at *
      obtain ⟨o0, o1, o2, o3, o4, o5, o6, o7, rfl⟩ := len8 hbl
      have hwd : wD [o0, o1, o2, o3, o4, o5, o6, o7] = [.c (.int .u32 o0), .c (.int .u32 o1), .c (.int .u32 o2), .c (.int .u32 o3), .c (.int .u32 o4), .c (.int .u32 o5), .c (.int .u32 o6), .c (.int .u32 o7)] := rfl
      refine rn1 (jn @hwd @hi) ?_
      refine ⟨([o0, o1, o2, o3, o4, o5, o6, o7], x.drop 64), ⟨rfl, by simp only [List.length_drop]; omega, hbb, htt⟩, by simp only [List.length_drop]; omega, [0, 1], [], ?_⟩
      simp only [FitR, WkLR, get_mk, ↓lk_cons, ↓reduceIte, Nat.reduceEqDiff, wA_cons, wA_nil, List.cons_append, List.nil_append, List.length_drop]
      refine ⟨?_, rfl, ?_, rfl, rfl, rfl⟩ <;> (repeat' (first | exact WkFs.data _ | exact trivial | exact WkF.refl _ | exact WkFs.refl _ | exact rfl | exact WkF.top _ | exact WkF.nil rfl rfl | exact WkF.full rfl rfl | exact .inl (WeakA.toD rfl) | exact .inl (WeakA.nilD _) | exact .inl (WeakA.nilFull _) | exact WkFT.one (WkF.refl _) | exact WkFT.one (.inl (WeakA.toD rfl)) | exact WkFT.one (.inl (WeakA.nilD _)) | exact WkFT.one (.inl (WeakA.nilFull _)) | exact WkFT.one (WkF.nil rfl rfl) | exact WkFT.one (WkF.full rfl rfl) | exact .inl (WeakA.nils rfl (by repeat' (first | exact trivial | exact .inl rfl | exact .inr ⟨rfl, _, rfl⟩ | refine ⟨?_, ?_⟩))) | exact WkFT.one (.inl (WeakA.nils rfl (by repeat' (first | exact trivial | exact .inl rfl | exact .inr ⟨rfl, _, rfl⟩ | refine ⟨?_, ?_⟩)))) | refine ⟨_, rfl, ?_⟩ | refine ⟨?_, ?_⟩ | refine WkFT.tup ?_))
    · have hi : ¬ (64 : Int) ≤ x.length := by omega
      refine rn1 (jn @addSt.eq_1 (jn @addRe.eq_1 (jn @wA_cons (jn @wA_nil @hi)))) ?_
      rw [blkAll.eq_def, if_neg h64] at hb1
      rw [tailB.eq_def, if_neg h64] at hb2
      rw [← hb1, ← hb2]
      refine ⟨⟨by omega, by omega⟩, ?_⟩
      exact fv0 [0,1,2] []
end Go.Proofs.YtdbicadncccpoaaDoor

set_option linter.unusedVariables false
set_option linter.unusedSimpArgs false
set_option maxRecDepth 100000
namespace Go.Proofs.YtdbicadncccpoaaDoor
open Go Go.ChangeShapes Go.WideShapes
def zp (l : List UInt8) : List UInt8 := if l.length % 64 = 56 then l else zp (l ++ [0])
termination_by (120 - l.length % 64) % 64
decreasing_by simp only [List.length_append, List.length_cons, List.length_nil]; omega
def b8 (x : Int) : UInt8 := UInt8.ofNat (x % 256).toNat
theorem b8_wrap (x : Int) : IntKind.u8.wrap x = ((b8 x).toNat : Int) := by
  rw [wrap_u8, b8, u8_toNat]
  omega
def lenK (n k : Nat) : UInt8 := b8 (8 * (n : Int) / 256 ^ k)
def lenB (n : Nat) : List UInt8 := [lenK n 7, lenK n 6, lenK n 5, lenK n 4, lenK n 3, lenK n 2, lenK n 1, lenK n 0]
def lenT (n : Nat) (j : Nat) : List UInt8 := (lenB n).take j
theorem lenT_succ (n j : Nat) (h : j < 8) : lenT n (j + 1) = lenT n j ++ [lenK n (7 - j)] := by
  obtain rfl | rfl | rfl | rfl | rfl | rfl | rfl | rfl : j = 0 ∨ j = 1 ∨ j = 2 ∨ j = 3 ∨ j = 4 ∨ j = 5 ∨ j = 6 ∨ j = 7 := by omega
  all_goals rfl
theorem ishr_div (k : IntKind) (x : Int) (m : Nat) (hx : 0 ≤ x) (hm : m ≤ k.bits) : ishr k x m = x / 2 ^ m := by
  rw [ishr, Int.toNat_natCast, Nat.min_eq_left hm, Int.fdiv_eq_ediv_of_nonneg _ (Int.le_of_lt (Int.pow_pos (by decide)))]
theorem pow256 (k : Nat) : (2 : Int) ^ (8 * k) = 256 ^ k := by
  rw [Int.pow_mul]; rfl
theorem lenK_prog (n j : Nat) (h : j < 8) (hn : n ≤ 140737488355000) : IntKind.u8.wrap (ishr .u64 (ishl .u64 (n : Int) 3) (8 * (7 - (j : Int)))) = ((lenK n (7 - j)).toNat : Int) := by
  have e1 : ishl .u64 (n : Int) 3 = 8 * (n : Int) := by
    show IntKind.u64.wrap ((n : Int) * 8) = _
    rw [w_u64 (by omega) (by omega)]; omega
  have e2 : (8 : Int) * (7 - (j : Int)) = ((8 * (7 - j) : Nat) : Int) := by omega
  rw [e1, e2, ishr_div _ _ _ (by omega) (by simp only [IntKind.bits]; omega), pow256, b8_wrap, lenK]
theorem lenK_ref (n k : Nat) (h : k < 8) (hn : n ≤ 140737488355000) : IntKind.u8.wrap (ishr .u64 (8 * (n : Int)) (8 * (k : Int))) = ((lenK n k).toNat : Int) := by
  have e2 : (8 : Int) * (k : Int) = ((8 * k : Nat) : Int) := by omega
  rw [e2, ishr_div _ _ _ (by omega) (by simp only [IntKind.bits]; omega), pow256, b8_wrap, lenK]
def padL (l : List UInt8) (n : Nat) : List UInt8 := zp (l ++ [128]) ++ lenB n
def wB (w : Int) : List UInt8 := [b8 (ishr .u32 w 24), b8 (ishr .u32 w 16), b8 (ishr .u32 w 8), b8 w]
def dig (s : List Int) : List UInt8 := s.flatMap wB
theorem zp_eq (l : List UInt8) : (zp l).length = l.length + (120 - l.length % 64) % 64 := by
  rw [zp]
  split
  · rename_i h; omega
  · rename_i h
    have := zp_eq (l ++ [0])
    rw [this]
    simp only [List.length_append, List.length_cons, List.length_nil]
    omega
termination_by (120 - l.length % 64) % 64
decreasing_by simp only [List.length_append, List.length_cons, List.length_nil]; omega
theorem zp_len (l : List UInt8) : (zp l).length % 64 = 56 ∧ l.length ≤ (zp l).length ∧ (zp l).length ≤ l.length + 63 := by
  have := zp_eq l; omega
def bA (l : List UInt8) : List AV := (bD l).map .d
theorem bA_len (l : List UInt8) : (bA l).length = l.length := by simp [bA, bD]
theorem bA_wf (n : Nat) (l : List UInt8) : wfL n (bA l) = true := wfL_map_d n _
theorem bA_set (l : List UInt8) (k : Nat) (b : UInt8) : (bA l).set k (.d (.c (.int .u8 (b.toNat : Int)))) = bA (l.set k b) := by
  rw [bA, bA, bD, bD, List.map_set, List.map_set]
theorem bA_allD (l : List UInt8) : allD (bA l) = some (bD l) := allD_map _
theorem splice_all (l cs : List AV) (h : l.length = cs.length) (h2 : cs.length ≠ 1) : splice l 0 cs = cs := by
  match cs, h2 with
  | [], _ => rw [List.eq_nil_of_length_eq_zero h]; rfl
  | x :: y :: cs, _ => rw [splice_two, List.take_zero, List.nil_append, Nat.zero_add, ← h, List.drop_length, List.append_nil]
theorem wD_get (l : List Int) (o : Nat) (h : o < l.length) : (wD l)[o]? = some (.c (.int .u32 (l.getD o 0))) := by
  rw [wD, List.getElem?_map, List.getElem?_eq_getElem h, List.getD_eq_getElem?_getD, List.getElem?_eq_getElem h]; rfl
theorem wB_len (w : Int) : (wB w).length = 4 := rfl
theorem dig_len : ∀ s : List Int, (dig s).length = 4 * s.length
  | [] => rfl
  | a :: s => by
    have := dig_len s
    rw [dig] at this ⊢
    rw [List.flatMap_cons, List.length_append, this, wB_len, List.length_cons]; omega
def dgl (s : List Int) (i : Nat) : List UInt8 := dig (s.take i) ++ List.replicate (32 - 4 * i) 0
theorem dgl_len (s : List Int) (i : Nat) (h : i ≤ 8) (hs : s.length = 8) : (dgl s i).length = 32 := by
  rw [dgl, List.length_append, dig_len, List.length_take, List.length_replicate, hs]; omega
theorem dgl_step (s : List Int) (i : Nat) (h : i < 8) (hs : s.length = 8) : ((((dgl s i).set (4 * i) (b8 (ishr .u32 (s.getD i 0) 24))).set (4 * i + 1) (b8 (ishr .u32 (s.getD i 0) 16))).set (4 * i + 2) (b8 (ishr .u32 (s.getD i 0) 8))).set (4 * i + 3) (b8 (s.getD i 0)) = dgl s (i + 1) := by
  obtain ⟨q0, q1, q2, q3, q4, q5, q6, q7, rfl⟩ := len8 hs
  obtain rfl | rfl | rfl | rfl | rfl | rfl | rfl | rfl : i = 0 ∨ i = 1 ∨ i = 2 ∨ i = 3 ∨ i = 4 ∨ i = 5 ∨ i = 6 ∨ i = 7 := by omega
  all_goals rfl
theorem dgl_all (s : List Int) (hs : s.length = 8) : dgl s 8 = dig s := by
  rw [dgl, List.take_of_length_le (by omega)]; simp
theorem blkAll_len (s : List Int) (b : List UInt8) (hs : s.length = 8) : (blkAll s b).length = 8 := by
  rw [blkAll]
  split
  · exact blkAll_len _ _ (blk_len s b hs)
  · exact hs
termination_by b.length
decreasing_by simp only [List.length_drop]; omega
def z32 : List UInt8 := List.replicate 32 0
/-- A hash's struct, as data. -/
def hD (s : List Int) (rest : List UInt8) (n : Int) : List D := wD s ++ [.sl 1 rest.length (bD rest), .c (.int .i64 n), .c (.bool true)]
def s1St (H : List D) (l : List UInt8) : List (Nat × AV) := [(0, .el H), (2, .ptr 0 0), (3, .ptr 1 0), (4, .sl (.own 2) 1 l.length (bD l))]
def s1Re (l : List UInt8) : Rs := [some (.obj (bA z32)), some (.obj (bA z32)), some (.tok l.length)]
def s2St (H : List D) (Z : List UInt8) (n j : Nat) : List (Nat × AV) := [(0, .el H), (2, .ptr 0 0), (3, .ptr 1 0), (4, .sl (.own 2) 1 (Z ++ lenT n j).length (bD (Z ++ lenT n j))), (5, .d (.c (.int .i64 (7 - (j : Int)))))]
def s2Re (n : Nat) (Z : List UInt8) (j : Nat) : Rs := [some (.obj (bA z32)), some (.obj (bA z32)), some (.tok (Z ++ lenT n j).length)]
def s3St (H : List D) (i : List Int × List UInt8) : List (Nat × AV) := [(0, .el H), (2, .ptr 0 0), (3, .ptr 1 0), (4, .d (.sl 1 i.2.length (bD i.2))), (6, .ptr 3 0)]
def s3Re (m : Nat) (i : List Int × List UInt8) : Rs := [some (.obj (bA z32)), some (.obj (bA z32)), some (.tok m), some (.obj (wA i.1))]
def s4St (S : List Int) (i : Nat) : List (Nat × AV) := [(2, .ptr 0 0), (3, .ptr 1 0), (63, .d (.agg (wD S))), (64, .d (.c (.int .i64 i)))]
def s4Re (S : List Int) (i : Nat) : Rs := [some (.obj (bA z32)), some (.obj (bA (dgl S i))), none, none]
set_option maxHeartbeats 400000 in
theorem sum_ac (s : List Int) (rest : List UInt8) (n : Nat) (hs : s.length = 8) (hn : n ≤ 140737488355000) (hr : rest.length ≤ 64) :
    AC Tryd.prog noG 87 [.el (hD s rest n)] [] (fun v r' => v = .d (.agg (bD (dig (blkAll s (padL rest n))))) ∧ r' = []) := by
  refine AC.pure ?_ (by rintro v rfl; rfl)
  obtain ⟨q0, q1, q2, q3, q4, q5, q6, q7, rfl⟩ := len8 hs
  refine AC_of_R (N := 96) (res := [.cell 2 27]) ty_ok Tryd.call87 Tryd.func87 rfl rfl rfl (Nat.le_of_ble_eq_true rfl) ?_
  refine rn1 (jn @hD.eq_1 (jn @wD_cons (jn @wD_nil (jn @wA_cons @wA_nil)))) ?_
  have hz := zp_len (rest ++ [128])
  rw [List.length_append, List.length_singleton] at hz
  refine ⟨⟨by omega, by omega⟩, ⟨by omega, by omega⟩, HC_loopR (s1St (hD [q0, q1, q2, q3, q4, q5, q6, q7] rest n)) s1Re (fun l => zp l = zp (rest ++ [128])) (fun l => (120 - l.length % 64) % 64) (rest ++ [128]) [0, 1, 2] [] rfl ?_ ?_⟩
  · exact ft1 (jn @s1St.eq_1 (jn @s1Re.eq_1 (jn @hD.eq_1 (jn @wA_cons @wA_nil))))
  · intro l hzl
    refine HC_of_R ty_ok ?_
    have hzz := zp_len l
    rw [hzl] at hzz
    by_cases h56 : l.length % 64 = 56
    · have hi : (l.length : Int) % 64 = 56 := by omega
      have hzl2 : l = zp (rest ++ [128]) := by rw [← hzl, zp, if_pos h56]
      refine rn1 (jn @s1St.eq_1 (jn @s1Re.eq_1 (jn @hD.eq_1 (jn @wD_cons (jn @wD_nil (jn @wA_cons (jn @wA_nil @hi))))))) ?_
      obtain ⟨Z, hZ⟩ : ∃ Z, Z = zp (rest ++ [128]) := ⟨_, rfl⟩
      rw [← hZ] at hz hzz
      rw [hzl2, ← hZ]
      refine HC_loopR (s2St (hD [q0, q1, q2, q3, q4, q5, q6, q7] rest n) Z n) (s2Re n Z) (fun j => j ≤ 8) (fun j => 8 - j) 0 [0, 1, 2] [] (by omega) ?_ ?_
      · exact ft1 (jn @s2St.eq_1 (jn @s2Re.eq_1 (jn @hD.eq_1 (jn @wA_cons (jn @wA_nil (jn @lenT.eq_1 @List.take_zero.{0}))))))
      · intro j hj
        refine HC_of_R ty_ok ?_
        have hlt : (lenT n j).length ≤ 8 := by rw [lenT, List.length_take]; exact Nat.min_le_right _ _
        by_cases h8 : j < 8
        · have hi : (0 : Int) ≤ 7 - (j : Int) := by omega
          have hk := lenK_prog n j h8 hn
          refine rn1 (jn @s2St.eq_1 (jn @s2Re.eq_1 (jn @hD.eq_1 (jn @wD_cons (jn @wD_nil (jn @wA_cons (jn @wA_nil (jn @hi @hk)))))))) ?_
          have hln := congrArg List.length (lenT_succ n j h8)
          rw [List.length_append, List.length_singleton] at hln
          refine ⟨⟨by omega, by omega⟩, j + 1, by omega, by omega, [0, 1, 2], [], ?_⟩
          have e7 : (7 : Int) - (j : Int) - 1 = 7 - ((j + 1 : Nat) : Int) := by omega
          simp only [FitR, WkLR, get_mk, ↓lk_cons, ↓reduceIte, Nat.reduceEqDiff, List.cons_append, List.nil_append, List.append_nil, List.length_append, List.length_cons, List.length_nil, Nat.zero_add, lenT_succ n j h8, hln, e7, ← Nat.add_assoc, List.append_assoc]
          refine ⟨?_, (by first | (simp only [wfSt, wfRs, wfL, wfA, wfM, wfL_append, wfL_map_d, Bool.and_true, Bool.and_self, decide_true, Nat.reduceLT, Nat.reduceAdd, List.length_cons, List.length_nil, Nat.zero_add, lenT_succ n j h8, hln, e7, ← Nat.add_assoc, List.append_assoc]; done) | rfl), ?_, (by first | (simp only [wfSt, wfRs, wfL, wfA, wfM, wfL_append, wfL_map_d, Bool.and_true, Bool.and_self, decide_true, Nat.reduceLT, Nat.reduceAdd, List.length_cons, List.length_nil, Nat.zero_add, lenT_succ n j h8, hln, e7, ← Nat.add_assoc, List.append_assoc]; done) | rfl), rfl, rfl⟩ <;> (repeat' (first | exact WkFs.data _ | exact trivial | exact WkF.refl _ | exact WkFs.refl _ | exact rfl | exact WkF.top _ | exact WkF.nil rfl rfl | exact WkF.full rfl rfl | exact .inl (WeakA.toD rfl) | exact .inl (WeakA.nilD _) | exact .inl (WeakA.nilFull _) | exact WkFT.one (WkF.refl _) | exact WkFT.one (.inl (WeakA.toD rfl)) | exact WkFT.one (.inl (WeakA.nilD _)) | exact WkFT.one (.inl (WeakA.nilFull _)) | exact WkFT.one (WkF.nil rfl rfl) | exact WkFT.one (WkF.full rfl rfl) | exact .inl (WeakA.nils rfl (by repeat' (first | exact trivial | exact .inl rfl | exact .inr ⟨rfl, _, rfl⟩ | refine ⟨?_, ?_⟩))) | exact WkFT.one (.inl (WeakA.nils rfl (by repeat' (first | exact trivial | exact .inl rfl | exact .inr ⟨rfl, _, rfl⟩ | refine ⟨?_, ?_⟩)))) | refine ⟨_, rfl, ?_⟩ | refine ⟨?_, ?_⟩ | refine WkFT.tup ?_))
        · have hi : ¬ (0 : Int) ≤ 7 - (j : Int) := by omega
          have h8e : j = 8 := by omega
          subst h8e
          refine rn1 (jn @s2St.eq_1 (jn @s2Re.eq_1 (jn @hD.eq_1 (jn @wD_cons (jn @wD_nil (jn @wA_cons (jn @wA_nil @hi))))))) ?_
          obtain ⟨P, hP⟩ : ∃ P, P = Z ++ lenT n 8 := ⟨_, rfl⟩
          have hPp : P = padL rest n := by rw [hP, hZ]; rfl
          have hlB : (lenT n 8).length = 8 := rfl
          have hPl : P.length = Z.length + 8 := by rw [hP, List.length_append, hlB]
          have hPe : Z.length + (lenT n 8).length = P.length := by omega
          rw [← hP, hPe, ← hPp]
          refine HC_loopR (s3St (hD [q0, q1, q2, q3, q4, q5, q6, q7] rest n)) (s3Re P.length) (fun i => i.1.length = 8 ∧ i.2.length % 64 = 0 ∧ i.2.length ≤ P.length ∧ blkAll i.1 i.2 = blkAll [q0, q1, q2, q3, q4, q5, q6, q7] P) (fun i => i.2.length) ([q0, q1, q2, q3, q4, q5, q6, q7], P) [0, 1, 2, 3] [] ⟨rfl, by simp only; omega, Nat.le_refl _, rfl⟩ ?_ ?_
          · exact ft1 (jn @s3St.eq_1 (jn @s3Re.eq_1 (jn @hD.eq_1 (jn @wA_cons @wA_nil))))
          · intro ⟨s, x⟩ ⟨hs, hx64, hxP, hbx⟩
            simp only at hs hx64 hxP hbx
            refine HC_of_R ty_ok ?_
            by_cases hx0 : 0 < x.length
            · have hi : (0 : Int) < x.length := by omega
              have h64i : (64 : Int) ≤ x.length := by omega
              obtain ⟨p0, p1, p2, p3, p4, p5, p6, p7, rfl⟩ := len8 hs
              refine rn1 (jn @s3St.eq_1 (jn @s3Re.eq_1 (jn @hD.eq_1 (jn @wD_cons (jn @wD_nil (jn @wA_cons (jn @wA_nil @hi))))))) ?_
              refine HO_pureA ty_ok (block_ac [p0, p1, p2, p3, p4, p5, p6, p7] x rfl (by omega) (by omega)) ?_
              have hbl := blk_len [p0, p1, p2, p3, p4, p5, p6, p7] x rfl
              rw [blkAll.eq_def, if_pos (by omega)] at hbx
              generalize blk [p0, p1, p2, p3, p4, p5, p6, p7] x = s2 at *
              obtain ⟨o0, o1, o2, o3, o4, o5, o6, o7, rfl⟩ := len8 hbl
              have hwd : wD [o0, o1, o2, o3, o4, o5, o6, o7] = [.c (.int .u32 o0), .c (.int .u32 o1), .c (.int .u32 o2), .c (.int .u32 o3), .c (.int .u32 o4), .c (.int .u32 o5), .c (.int .u32 o6), .c (.int .u32 o7)] := rfl
              refine rn1 (jn @hwd @h64i) ?_
              refine ⟨([o0, o1, o2, o3, o4, o5, o6, o7], x.drop 64), ⟨rfl, by simp only [List.length_drop]; omega, by simp only [List.length_drop]; omega, hbx⟩, by simp only [List.length_drop]; omega, [0, 1, 2, 3], [], ?_⟩
              exact ft1 (jn @wA_cons (jn @wA_nil @List.length_drop.{0}))
            · have hi : ¬ (0 : Int) < x.length := by omega
              have hS : s = blkAll [q0, q1, q2, q3, q4, q5, q6, q7] P := by rw [← hbx, blkAll, if_neg (by omega)]
              rw [← hS]
              have hws := wA_len s
              have hwt : (wA s).take 8 = wA s := List.take_of_length_le (by omega)
              refine rn1 (jn @s3St.eq_1 (jn @s3Re.eq_1 (jn @hD.eq_1 (jn @wD_cons (jn @wD_nil (jn @wA_cons (jn @wA_nil (jn @hi (jn @hs (jn @hws (jn @hwt @wA_allD))))))))))) ?_
              refine HC_loopR (s4St s) (s4Re s) (fun i => i ≤ 8) (fun i => 8 - i) 0 [0, 1, 2, 3] [] (by omega) ?_ ?_
              · exact ft1 (jn @s4St.eq_1 (jn @s4Re.eq_1 (jn @hD.eq_1 (jn @wA_cons @wA_nil))))
              · intro i hi8
                refine HC_of_R ty_ok ?_
                have hdl := dgl_len s i hi8 hs
                have hbl := bA_len (dgl s i)
                by_cases h8 : i < 8
                · have hi : (i : Int) < 8 := by omega
                  have e0 : (4 * (i : Int)).toNat = 4 * i := by omega
                  have e1 : (4 * (i : Int) + 1).toNat = 4 * i + 1 := by omega
                  have e2 : (4 * (i : Int) + 2).toNat = 4 * i + 2 := by omega
                  have e3 : (4 * (i : Int) + 3).toNat = 4 * i + 3 := by omega
                  have c8 : ((8 : Nat) : Int) = 8 := rfl
                  have c32 : ((32 : Nat) : Int) = 32 := rfl
                  refine rn1 (jn @s4St.eq_1 (jn @s4Re.eq_1 (jn @hD.eq_1 (jn @wD_cons (jn @wD_nil (jn @wA_cons (jn @wA_nil (jn @hi (jn @hdl (jn @hbl (jn @b8_wrap (jn @bA_set (jn @wD_get (jn @hs (jn @e0 (jn @e1 (jn @e2 (jn @e3 (jn @c8 (jn @c32 (jn @List.length_set.{0} (jn @bA_len @splice_one)))))))))))))))))))))) ?_
                  refine ⟨by omega, by omega, by omega, by omega, by omega, by omega, by omega, by omega, by omega, i + 1, by omega, by omega, [0, 1, 2, 3], [], ?_⟩
                  rw [← dgl_step s i h8 hs]
                  exact ft1 @bA.eq_1
                · have h8e : i = 8 := by omega
                  subst h8e
                  have hi : ¬ (8 : Int) < 8 := by omega
                  rw [dgl_all s hs] at hdl hbl
                  have hbt : (bA (dig s)).take 32 = bA (dig s) := List.take_of_length_le (by omega)
                  have hz32 : (bA z32).length = 32 := rfl
                  have hsp := splice_all (bA z32) (bA (dig s)) (by omega) (by omega)
                  have hdm : (bD (dig s)).map AV.d = bA (dig s) := rfl
                  exact rz1 (jn @s4St.eq_1 (jn @s4Re.eq_1 (jn @hD.eq_1 (jn @wD_cons (jn @wD_nil (jn @wA_cons (jn @wA_nil (jn @hi (jn @dgl_all (jn @hs (jn @hdl (jn @hbl (jn @hbt (jn @bA_allD (jn @hz32 (jn @hsp @hdm))))))))))))))))
    · have hi : ¬ (l.length : Int) % 64 = 56 := by omega
      refine rn1 (jn @s1St.eq_1 (jn @s1Re.eq_1 (jn @hD.eq_1 (jn @wD_cons (jn @wD_nil (jn @wA_cons (jn @wA_nil @hi))))))) ?_
      refine ⟨⟨by omega, by omega⟩, l ++ [0], by rw [← hzl, zp.eq_def l, if_neg h56], by simp only [List.length_append, List.length_cons, List.length_nil]; omega, [0, 1, 2], [], ?_⟩
      exact ft0
end Go.Proofs.YtdbicadncccpoaaDoor
