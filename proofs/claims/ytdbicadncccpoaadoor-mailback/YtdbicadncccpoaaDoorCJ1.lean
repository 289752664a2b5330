/- Parts of the proof: HashSpec, RefPad, RefSum, Lent. -/
import Derived.Test.YtdbicadncccpoaaDoorCJ0
set_option linter.unusedVariables false
set_option linter.unusedSimpArgs false
set_option maxRecDepth 100000
namespace Go.Proofs.YtdbicadncccpoaaDoor
open Go Go.ChangeShapes Go.WideShapes
theorem getD_app (b y : List UInt8) (k : Nat) (h : k < b.length) : (b ++ y).getD k 0 = b.getD k 0 := by
  rw [List.getD_eq_getElem?_getD, List.getElem?_append_left h, List.getD_eq_getElem?_getD]
theorem sch_app (b y : List UInt8) (h : 64 ≤ b.length) : ∀ t, sch (b ++ y) t = sch b t
  | 0 => rfl
  | t + 1 => by
    have hn : nxt (b ++ y) (sch b t) t = nxt b (sch b t) t := by
      unfold nxt
      split
      · unfold wd
        rw [getD_app _ _ _ (by omega), getD_app _ _ _ (by omega), getD_app _ _ _ (by omega), getD_app _ _ _ (by omega)]
      · rfl
    rw [sch, sch, sch_app b y h t, hn]
theorem blk_app (s : List Int) (b y : List UInt8) (h : 64 ≤ b.length) : blk s (b ++ y) = blk s b := by
  unfold blk sch64; rw [sch_app b y h]
theorem blkAll_app (s : List Int) (x y : List UInt8) : blkAll (blkAll s x) (tailB x ++ y) = blkAll s (x ++ y) := by
  by_cases h : 64 ≤ x.length
  · rw [blkAll.eq_def s x, if_pos h, tailB.eq_def x, if_pos h, blkAll_app (blk s x) (x.drop 64) y]
    rw [blkAll.eq_def s (x ++ y), if_pos (by rw [List.length_append]; omega), blk_app s x y h, List.drop_append_of_le_length h]
  · rw [blkAll.eq_def s x, if_neg h, tailB.eq_def x, if_neg h]
termination_by x.length
decreasing_by simp only [List.length_drop]; omega
theorem tailB_app (x y : List UInt8) : tailB (tailB x ++ y) = tailB (x ++ y) := by
  by_cases h : 64 ≤ x.length
  · rw [tailB.eq_def x, if_pos h, tailB_app (x.drop 64) y]
    rw [tailB.eq_def (x ++ y), if_pos (by rw [List.length_append]; omega), List.drop_append_of_le_length h]
  · rw [tailB.eq_def x, if_neg h]
termination_by x.length
decreasing_by simp only [List.length_drop]; omega
theorem tailB_len (x : List UInt8) : (tailB x).length = x.length % 64 := by
  by_cases h : 64 ≤ x.length
  · rw [tailB.eq_def x, if_pos h, tailB_len (x.drop 64), List.length_drop]; omega
  · rw [tailB.eq_def x, if_neg h]; omega
termination_by x.length
decreasing_by simp only [List.length_drop]; omega
theorem zp_rep (l : List UInt8) : zp l = l ++ List.replicate ((120 - l.length % 64) % 64) 0 := by
  rw [zp]
  split
  · rename_i h; rw [show (120 - l.length % 64) % 64 = 0 by omega]; simp
  · rename_i h
    rw [zp_rep (l ++ [0]), List.length_append, List.length_singleton, List.append_assoc]
    congr 1
    rw [show (120 - l.length % 64) % 64 = (120 - (l.length + 1) % 64) % 64 + 1 by omega]
    rfl
termination_by (120 - l.length % 64) % 64
decreasing_by simp only [List.length_append, List.length_cons, List.length_nil]; omega
theorem padL_tail (x : List UInt8) (n : Nat) : ∃ y, padL (tailB x) n = tailB x ++ y ∧ padL x n = x ++ y := by
  refine ⟨[128] ++ List.replicate ((120 - (x.length + 1) % 64) % 64) 0 ++ lenB n, ?_, ?_⟩
  · have := tailB_len x
    rw [padL, zp_rep, List.length_append, List.length_singleton, show (120 - ((tailB x).length + 1) % 64) % 64 = (120 - (x.length + 1) % 64) % 64 by omega]
    simp only [List.append_assoc]
  · rw [padL, zp_rep, List.length_append, List.length_singleton]
    simp only [List.append_assoc]
/-- The sum, as the reference has it. -/
def sha (b : List UInt8) : List UInt8 := dig (blkAll firstL (padL b b.length))
theorem sha_len (b : List UInt8) : (sha b).length = 32 := by rw [sha, dig_len, blkAll_len _ _ rfl]
theorem sha_of (x : List UInt8) : dig (blkAll (blkAll firstL x) (padL (tailB x) x.length)) = sha x := by
  obtain ⟨y, h1, h2⟩ := padL_tail x x.length
  rw [h1, blkAll_app, sha, h2]
def hObj (x : List UInt8) (k : Nat) : List AV := hashC (blkAll firstL x) (tailB x) x.length k
/-- A hash of bytes: its struct, and its row of rest. -/
def hRs (x : List UInt8) : Rs := [some (.obj (hObj x 1)), some (.tok (tailB x).length)]
theorem ren_wA (g : Nat → Nat) (l : List Int) : renL g (wA l) = wA l := by rw [← wD_map]; exact renL_map_d g _
theorem ren_hObj (g : Nat → Nat) (x : List UInt8) (k : Nat) : renL g (hObj x k) = hObj x (g k) := by
  rw [hObj, hObj, hashC, hashC, renL_append, ren_wA]; rfl
theorem wf_hObj (n k : Nat) (x : List UInt8) (h : k < n) : wfL n (hObj x k) = true := by
  rw [hObj, hashC, wfL_append, wA_wf, Bool.true_and]
  simp [wfL, wfA, wfM, h]
theorem hRs_wf (x : List UInt8) : wfRs (hRs x).length (hRs x) = true := by
  show (wfL 2 (hObj x 1) && true) = true
  rw [wf_hObj _ _ _ (by decide)]; rfl
theorem hRs_hand (x : List UInt8) (rc : Rs) (i j : Nat) (hi : rc[i]? = some (some (.obj (hObj x j)))) (hj : rc[j]? = some (some (.tok (tailB x).length))) : HandOK (nm [i, j] rc.length) rc (hRs x) [i, j] := by
  refine ⟨fun y h => ?_, fun y h => ?_, trivial⟩
  · injection h with h; subst h
    rw [hi, renRes, ren_hObj]; rfl
  · injection h with h; subst h
    rw [hj]; rfl
theorem hNew_ac : AC Tryd.prog noG 85 [] [] (fun v r' => v = .ptr 0 0 ∧ r' = hRs []) := by
  refine new_ac.mono fun v r' ⟨h1, h2⟩ => ⟨h1, ?_⟩
  rw [h2]
  have e1 : blkAll firstL [] = firstL := by rw [blkAll]; rfl
  have e2 : tailB [] = [] := by rw [tailB]; rfl
  rw [hRs, hObj, e1, e2]; rfl
theorem hAdd_ac (x b : List UInt8) (h : x.length + b.length ≤ 140737488355000) : AC Tryd.prog noG 86 [.ptr 0 0, .d (.sl 1 b.length (bD b))] (hRs x)
    (fun v r' => v = .tup [] ∧ r' = [some (.obj (hObj (x ++ b) 2)), none, some (.tok (tailB (x ++ b)).length)]) := by
  have hl := tailB_len x
  refine (add_ac (blkAll firstL x) (tailB x) b x.length (blkAll_len _ _ rfl) (by omega) (by omega)).mono fun v r' ⟨h1, h2⟩ => ⟨h1, ?_⟩
  rw [h2, hObj, blkAll_app, tailB_app, List.length_append]; rfl
def hDat (x : List UInt8) : List D := hD (blkAll firstL x) (tailB x) x.length
theorem hObj_allD (x : List UInt8) (k : Nat) : allD (hObj x k) = some (hDat x) := by
  have hs := blkAll_len firstL x rfl
  unfold hObj hDat hashC hD
  generalize blkAll firstL x = s at *
  obtain ⟨q0, q1, q2, q3, q4, q5, q6, q7, rfl⟩ := len8 hs
  rfl
theorem hSum_ac (x : List UInt8) (h : x.length ≤ 140737488355000) : AC Tryd.prog noG 87 [.el (hDat x)] [] (fun v r' => v = .d (.agg (bD (sha x))) ∧ r' = []) := by
  have hl := tailB_len x
  refine (sum_ac (blkAll firstL x) (tailB x) x.length (blkAll_len _ _ rfl) h (by omega)).mono fun v r' ⟨h1, h2⟩ => ⟨?_, h2⟩
  rw [h1, sha_of]
theorem dig32 (d : List UInt8) (h : d.length = 32) : d.length = 32 ∧ (bA d).length = 32 ∧ (bA d).take 32 = bA d ∧ (bD d).map AV.d = bA d ∧ splice [.d (.c (.int .u8 0)), .d (.c (.int .u8 0)), .d (.c (.int .u8 0)), .d (.c (.int .u8 0)), .d (.c (.int .u8 0)), .d (.c (.int .u8 0)), .d (.c (.int .u8 0)), .d (.c (.int .u8 0)), .d (.c (.int .u8 0)), .d (.c (.int .u8 0)), .d (.c (.int .u8 0)), .d (.c (.int .u8 0)), .d (.c (.int .u8 0)), .d (.c (.int .u8 0)), .d (.c (.int .u8 0)), .d (.c (.int .u8 0)), .d (.c (.int .u8 0)), .d (.c (.int .u8 0)), .d (.c (.int .u8 0)), .d (.c (.int .u8 0)), .d (.c (.int .u8 0)), .d (.c (.int .u8 0)), .d (.c (.int .u8 0)), .d (.c (.int .u8 0)), .d (.c (.int .u8 0)), .d (.c (.int .u8 0)), .d (.c (.int .u8 0)), .d (.c (.int .u8 0)), .d (.c (.int .u8 0)), .d (.c (.int .u8 0)), .d (.c (.int .u8 0)), .d (.c (.int .u8 0))] 0 (bA d) = bA d := by
  have hb : (bA d).length = 32 := by rw [bA_len, h]
  exact ⟨h, hb, List.take_of_length_le (by omega), rfl, splice_all _ _ (by rw [hb]; rfl) (by omega)⟩
set_option maxHeartbeats 400000 in
theorem hashSum_ac (b : List UInt8) (h : b.length ≤ 140737488355000) : AC Tryd.prog noG 66 [.d (.sl 1 b.length (bD b))] [] (fun v r' => v = .d (.agg (bD (sha b))) ∧ r' = []) := by
  refine AC.pure ?_ (by rintro v rfl; rfl)
  refine AC_of_R (N := 10) (res := [.cell 2 27]) ty_ok Tryd.call66 Tryd.func66 rfl rfl rfl (Nat.le_of_ble_eq_true rfl) ?_
  refine rn0 ?_
  refine HO_callX ty_ok [] hNew_ac (trivial) rfl ?_
  rintro v r' ⟨rfl, rfl⟩ _
  refine rn1 (jn @hRs.eq_1 @ren_hObj) ?_
  refine HO_callX ty_ok [1, 2] (hAdd_ac [] b (by simpa using h)) (hRs_hand _ _ _ _ rfl rfl) (hRs_wf _) ?_
  rintro v r' ⟨rfl, rfl⟩ _
  refine rn1 @ren_hObj ?_
  refine HO_lend ty_ok (hSum_ac b h) (scal_bD _) rfl rfl rfl (by kernel_rfl) ⟨BwA.ptr0 rfl (hObj_allD _ _), trivial⟩ ?_
  obtain ⟨hl, hb, ht, hm, hsp⟩ := dig32 (sha b) (sha_len b)
  exact rz1 (jn @hm (jn @hl (jn @hb (jn @ht (jn @hsp @bA_allD)))))
end Go.Proofs.YtdbicadncccpoaaDoor

set_option linter.unusedVariables false
set_option linter.unusedSimpArgs false
set_option maxRecDepth 100000
namespace Go.Proofs.YtdbicadncccpoaaDoor
open Go Go.ChangeShapes Go.WideShapes
/-- A word, byte by byte. -/
def acc (b : List UInt8) (t : Nat) : Nat → Int
  | 0 => 0
  | i + 1 => ibits .or .u32 (ishl .u32 (acc b t i) 8) (b.getD (4 * t + i) 0).toNat
end Go.Proofs.YtdbicadncccpoaaDoor

set_option linter.unusedVariables false
set_option linter.unusedSimpArgs false
set_option maxRecDepth 100000
namespace Go.Proofs.YtdbicadncccpoaaDoor
open Go Go.ChangeShapes Go.WideShapes
end Go.Proofs.YtdbicadncccpoaaDoor

set_option linter.unusedVariables false
set_option linter.unusedSimpArgs false
set_option maxRecDepth 100000
namespace Go.Proofs.YtdbicadncccpoaaDoor
open Go Go.ChangeShapes Go.WideShapes
end Go.Proofs.YtdbicadncccpoaaDoor
