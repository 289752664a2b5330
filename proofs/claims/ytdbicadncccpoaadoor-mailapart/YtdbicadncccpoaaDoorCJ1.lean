/- Parts of the proof: HashSpec, RefPad, RefSum, Lent. -/
import Derived.Test.YtdbicadncccpoaaDoorCJ0
set_option linter.unusedVariables false
set_option linter.unusedSimpArgs false
set_option maxRecDepth 100000
namespace Go.Proofs.YtdbicadncccpoaaDoor
open Go Go.ChangeShapes Go.WideShapes
theorem getD_app (b y : List UInt8) (k : Nat) (h : k < b.length) : (b ++ y).getD k 0 = b.getD k 0 := by
  rw [List.getD_eq_getElem?_getD, List.getElem?_append_left h, List.getD_eq_getElem?_getD]
theorem sch_app (b y : List UInt8) (h : 64 ≤ b.length) : ∀ t, sch (b ++ y) t = sch b t
  | 0 => rfl
  | t + 1 => by
    have hn : nxt (b ++ y) (sch b t) t = nxt b (sch b t) t := by
      unfold nxt
      split
      · unfold wd
        rw [getD_app _ _ _ (by omega), getD_app _ _ _ (by omega), getD_app _ _ _ (by omega), getD_app _ _ _ (by omega)]
      · rfl
    rw [sch, sch, sch_app b y h t, hn]
theorem blk_app (s : List Int) (b y : List UInt8) (h : 64 ≤ b.length) : blk s (b ++ y) = blk s b := by
  unfold blk sch64; rw [sch_app b y h]
theorem blkAll_app (s : List Int) (x y : List UInt8) : blkAll (blkAll s x) (tailB x ++ y) = blkAll s (x ++ y) := by
  by_cases h : 64 ≤ x.length
  · rw [blkAll.eq_def s x, if_pos h, tailB.eq_def x, if_pos h, blkAll_app (blk s x) (x.drop 64) y]
    rw [blkAll.eq_def s (x ++ y), if_pos (by rw [List.length_append]; omega), blk_app s x y h, List.drop_append_of_le_length h]
  · rw [blkAll.eq_def s x, if_neg h, tailB.eq_def x, if_neg h]
termination_by x.length
decreasing_by simp only [List.length_drop]; omega
theorem tailB_app (x y : List UInt8) : tailB (tailB x ++ y) = tailB (x ++ y) := by
  by_cases h : 64 ≤ x.length
  · rw [tailB.eq_def x, if_pos h, tailB_app (x.drop 64) y]
    rw [tailB.eq_def (x ++ y), if_pos (by rw [List.length_append]; omega), List.drop_append_of_le_length h]
  · rw [tailB.eq_def x, if_neg h]
termination_by x.length
decreasing_by simp only [List.length_drop]; omega
theorem tailB_len (x : List UInt8) : (tailB x).length = x.length % 64 := by
  by_cases h : 64 ≤ x.length
  · rw [tailB.eq_def x, if_pos h, tailB_len (x.drop 64), List.length_drop]; omega
  · rw [tailB.eq_def x, if_neg h]; omega
termination_by x.length
decreasing_by simp only [List.length_drop]; omega
theorem zp_rep (l : List UInt8) : zp l = l ++ List.replicate ((120 - l.length % 64) % 64) 0 := by
  rw [zp]
  split
  · rename_i h; rw [show (120 - l.length % 64) % 64 = 0 by omega]; simp
  · rename_i h
    rw [zp_rep (l ++ [0]), List.length_append, List.length_singleton, List.append_assoc]
    congr 1
    rw [show (120 - l.length % 64) % 64 = (120 - (l.length + 1) % 64) % 64 + 1 by omega]
    rfl
termination_by (120 - l.length % 64) % 64
decreasing_by simp only [List.length_append, List.length_cons, List.length_nil]; omega
theorem padL_tail (x : List UInt8) (n : Nat) : ∃ y, padL (tailB x) n = tailB x ++ y ∧ padL x n = x ++ y := by
  refine ⟨[128] ++ List.replicate ((120 - (x.length + 1) % 64) % 64) 0 ++ lenB n, ?_, ?_⟩
  · have := tailB_len x
    rw [padL, zp_rep, List.length_append, List.length_singleton, show (120 - ((tailB x).length + 1) % 64) % 64 = (120 - (x.length + 1) % 64) % 64 by omega]
    simp only [List.append_assoc]
  · rw [padL, zp_rep, List.length_append, List.length_singleton]
    simp only [List.append_assoc]
/-- The sum, as the reference has it. -/
def sha (b : List UInt8) : List UInt8 := dig (blkAll firstL (padL b b.length))
theorem sha_len (b : List UInt8) : (sha b).length = 32 := by rw [sha, dig_len, blkAll_len _ _ rfl]
theorem sha_of (x : List UInt8) : dig (blkAll (blkAll firstL x) (padL (tailB x) x.length)) = sha x := by
  obtain ⟨y, h1, h2⟩ := padL_tail x x.length
  rw [h1, blkAll_app, sha, h2]
def hObj (x : List UInt8) (k : Nat) : List AV := hashC (blkAll firstL x) (tailB x) x.length k
/-- A hash of bytes: its struct, and its row of rest. -/
def hRs (x : List UInt8) : Rs := [some (.obj (hObj x 1)), some (.tok (tailB x).length)]
theorem ren_wA (g : Nat → Nat) (l : List Int) : renL g (wA l) = wA l := by rw [← wD_map]; exact renL_map_d g _
theorem ren_hObj (g : Nat → Nat) (x : List UInt8) (k : Nat) : renL g (hObj x k) = hObj x (g k) := by
  rw [hObj, hObj, hashC, hashC, renL_append, ren_wA]; rfl
theorem wf_hObj (n k : Nat) (x : List UInt8) (h : k < n) : wfL n (hObj x k) = true := by
  rw [hObj, hashC, wfL_append, wA_wf, Bool.true_and]
  simp [wfL, wfA, wfM, h]
theorem hRs_wf (x : List UInt8) : wfRs (hRs x).length (hRs x) = true := by
  show (wfL 2 (hObj x 1) && true) = true
  rw [wf_hObj _ _ _ (by decide)]; rfl
theorem hRs_hand (x : List UInt8) (rc : Rs) (i j : Nat) (hi : rc[i]? = some (some (.obj (hObj x j)))) (hj : rc[j]? = some (some (.tok (tailB x).length))) : HandOK (nm [i, j] rc.length) rc (hRs x) [i, j] := by
  refine ⟨fun y h => ?_, fun y h => ?_, trivial⟩
  · injection h with h; subst h
    rw [hi, renRes, ren_hObj]; rfl
  · injection h with h; subst h
    rw [hj]; rfl
theorem hNew_ac : AC Tryd.prog noG 85 [] [] (fun v r' => v = .ptr 0 0 ∧ r' = hRs []) := by
  refine new_ac.mono fun v r' ⟨h1, h2⟩ => ⟨h1, ?_⟩
  rw [h2]
  have e1 : blkAll firstL [] = firstL := by rw [blkAll]; rfl
  have e2 : tailB [] = [] := by rw [tailB]; rfl
  rw [hRs, hObj, e1, e2]; rfl
theorem hAdd_ac (x b : List UInt8) (h : x.length + b.length ≤ 140737488355000) : AC Tryd.prog noG 86 [.ptr 0 0, .d (.sl 1 b.length (bD b))] (hRs x)
    (fun v r' => v = .tup [] ∧ r' = [some (.obj (hObj (x ++ b) 2)), none, some (.tok (tailB (x ++ b)).length)]) := by
  have hl := tailB_len x
  refine (add_ac (blkAll firstL x) (tailB x) b x.length (blkAll_len _ _ rfl) (by omega) (by omega)).mono fun v r' ⟨h1, h2⟩ => ⟨h1, ?_⟩
  rw [h2, hObj, blkAll_app, tailB_app, List.length_append]; rfl
def hDat (x : List UInt8) : List D := hD (blkAll firstL x) (tailB x) x.length
theorem hObj_allD (x : List UInt8) (k : Nat) : allD (hObj x k) = some (hDat x) := by
  have hs := blkAll_len firstL x rfl
  unfold hObj hDat hashC hD
  generalize blkAll firstL x = s at *
  obtain ⟨q0, q1, q2, q3, q4, q5, q6, q7, rfl⟩ := len8 hs
  rfl
theorem hSum_ac (x : List UInt8) (h : x.length ≤ 140737488355000) : AC Tryd.prog noG 87 [.el (hDat x)] [] (fun v r' => v = .d (.agg (bD (sha x))) ∧ r' = []) := by
  have hl := tailB_len x
  refine (sum_ac (blkAll firstL x) (tailB x) x.length (blkAll_len _ _ rfl) h (by omega)).mono fun v r' ⟨h1, h2⟩ => ⟨?_, h2⟩
  rw [h1, sha_of]
theorem dig32 (d : List UInt8) (h : d.length = 32) : d.length = 32 ∧ (bA d).length = 32 ∧ (bA d).take 32 = bA d ∧ (bD d).map AV.d = bA d ∧ splice [.d (.c (.int .u8 0)), .d (.c (.int .u8 0)), .d (.c (.int .u8 0)), .d (.c (.int .u8 0)), .d (.c (.int .u8 0)), .d (.c (.int .u8 0)), .d (.c (.int .u8 0)), .d (.c (.int .u8 0)), .d (.c (.int .u8 0)), .d (.c (.int .u8 0)), .d (.c (.int .u8 0)), .d (.c (.int .u8 0)), .d (.c (.int .u8 0)), .d (.c (.int .u8 0)), .d (.c (.int .u8 0)), .d (.c (.int .u8 0)), .d (.c (.int .u8 0)), .d (.c (.int .u8 0)), .d (.c (.int .u8 0)), .d (.c (.int .u8 0)), .d (.c (.int .u8 0)), .d (.c (.int .u8 0)), .d (.c (.int .u8 0)), .d (.c (.int .u8 0)), .d (.c (.int .u8 0)), .d (.c (.int .u8 0)), .d (.c (.int .u8 0)), .d (.c (.int .u8 0)), .d (.c (.int .u8 0)), .d (.c (.int .u8 0)), .d (.c (.int .u8 0)), .d (.c (.int .u8 0))] 0 (bA d) = bA d := by
  have hb : (bA d).length = 32 := by rw [bA_len, h]
  exact ⟨h, hb, List.take_of_length_le (by omega), rfl, splice_all _ _ (by rw [hb]; rfl) (by omega)⟩
set_option maxHeartbeats 400000 in
theorem hashSum_ac (b : List UInt8) (h : b.length ≤ 140737488355000) : AC Tryd.prog noG 66 [.d (.sl 1 b.length (bD b))] [] (fun v r' => v = .d (.agg (bD (sha b))) ∧ r' = []) := by
  refine AC.pure ?_ (by rintro v rfl; rfl)
  refine AC_of_R (N := 10) (res := [.cell 2 27]) ty_ok Tryd.call66 Tryd.func66 rfl rfl rfl (Nat.le_of_ble_eq_true rfl) ?_
  refine rn0 ?_
  refine HO_callX ty_ok [] hNew_ac (trivial) rfl ?_
  rintro v r' ⟨rfl, rfl⟩ _
  refine rn1 (jn @hRs.eq_1 @ren_hObj) ?_
  refine HO_callX ty_ok [1, 2] (hAdd_ac [] b (by simpa using h)) (hRs_hand _ _ _ _ rfl rfl) (hRs_wf _) ?_
  rintro v r' ⟨rfl, rfl⟩ _
  refine rn1 @ren_hObj ?_
  refine HO_lend ty_ok (hSum_ac b h) (scal_bD _) rfl rfl rfl (by kernel_rfl) ⟨BwA.ptr0 rfl (hObj_allD _ _), trivial⟩ ?_
  obtain ⟨hl, hb, ht, hm, hsp⟩ := dig32 (sha b) (sha_len b)
  exact rz1 (jn @hm (jn @hl (jn @hb (jn @ht (jn @hsp @bA_allD)))))
end Go.Proofs.YtdbicadncccpoaaDoor

set_option linter.unusedVariables false
set_option linter.unusedSimpArgs false
set_option maxRecDepth 100000
namespace Go.Proofs.YtdbicadncccpoaaDoor
open Go Go.ChangeShapes Go.WideShapes
theorem of32 {a : Int} (h0 : 0 ≤ a) (h1 : a < 4294967296) : (BitVec.ofInt 32 a).toNat = a.toNat := by
  rw [BitVec.toNat_ofInt]; omega
theorem or32_add {a b : Int} (n : Nat) (h0 : 0 ≤ a) (hb : 0 ≤ b) (hb2 : b < 2 ^ n) (hab : a * 2 ^ n + b < 4294967296) : ibits .or .u32 (a * 2 ^ n) b = a * 2 ^ n + b := by
  have hp : (0 : Int) < 2 ^ n := Int.pow_pos (by decide)
  have ha : 0 ≤ a * 2 ^ n := Int.mul_nonneg h0 (Int.le_of_lt hp)
  have : ibits .or .u32 (a * 2 ^ n) b = IntKind.u32.wrap ((BitVec.ofInt 32 (a * 2 ^ n) ||| BitVec.ofInt 32 b).toNat : Int) := rfl
  rw [this, BitVec.toNat_or, of32 ha (by omega), of32 hb (by omega)]
  have e1 : (a * 2 ^ n).toNat = a.toNat <<< n := by
    rw [Nat.shiftLeft_eq]
    obtain ⟨m, rfl⟩ := Int.eq_ofNat_of_zero_le h0
    have : ((m : Int) * 2 ^ n).toNat = m * 2 ^ n := by
      have h2 : (m : Int) * 2 ^ n = ((m * 2 ^ n : Nat) : Int) := by push_cast; rfl
      rw [h2, Int.toNat_natCast]
    exact this
  have hlt : b.toNat < 2 ^ n := by
    have : ((2 : Int) ^ n) = ((2 ^ n : Nat) : Int) := by push_cast; rfl
    omega
  rw [e1, ← Nat.shiftLeft_add_eq_or_of_lt hlt, ← e1, w_u32 (by omega) (by omega)]
  omega
theorem ishl32 (x : Int) (m : Nat) (h : m ≤ 32) : ishl .u32 x m = IntKind.u32.wrap (x * 2 ^ m) := by
  rw [ishl, Int.toNat_natCast, show min m IntKind.u32.bits = m from Nat.min_eq_left h]
theorem wd_val (b : List UInt8) (t : Nat) : wd b t = (((b.getD (4 * t) 0).toNat * 256 + (b.getD (4 * t + 1) 0).toNat) * 256 + (b.getD (4 * t + 2) 0).toNat) * 256 + (b.getD (4 * t + 3) 0).toNat := by
  unfold wd
  have h0 := (b.getD (4 * t) 0).toNat_lt
  have h1 := (b.getD (4 * t + 1) 0).toNat_lt
  have h2 := (b.getD (4 * t + 2) 0).toNat_lt
  have h3 := (b.getD (4 * t + 3) 0).toNat_lt
  generalize (b.getD (4 * t) 0).toNat = p0 at *
  generalize (b.getD (4 * t + 1) 0).toNat = p1 at *
  generalize (b.getD (4 * t + 2) 0).toNat = p2 at *
  generalize (b.getD (4 * t + 3) 0).toNat = p3 at *
  have e0 : ishl .u32 (p0 : Int) 24 = (p0 : Int) * 2 ^ 24 := by
    have := ishl32 p0 24 (by decide)
    rw [show ((24 : Nat) : Int) = 24 from rfl, w_u32 (by omega) (by omega)] at this
    exact this
  have e1 : ishl .u32 (p1 : Int) 16 = (p1 : Int) * 2 ^ 16 := by
    have := ishl32 p1 16 (by decide)
    rw [show ((16 : Nat) : Int) = 16 from rfl, w_u32 (by omega) (by omega)] at this
    exact this
  have e2 : ishl .u32 (p2 : Int) 8 = (p2 : Int) * 2 ^ 8 := by
    have := ishl32 p2 8 (by decide)
    rw [show ((8 : Nat) : Int) = 8 from rfl, w_u32 (by omega) (by omega)] at this
    exact this
  rw [e0, e1, e2, or32_add 24 (by omega) (by omega) (by omega) (by omega)]
  rw [show (p0 : Int) * 2 ^ 24 + (p1 : Int) * 2 ^ 16 = ((p0 : Int) * 2 ^ 8 + p1) * 2 ^ 16 by omega, or32_add 16 (by omega) (by omega) (by omega) (by omega)]
  rw [show ((p0 : Int) * 2 ^ 8 + p1) * 2 ^ 16 + (p2 : Int) * 2 ^ 8 = (((p0 : Int) * 2 ^ 8 + p1) * 2 ^ 8 + p2) * 2 ^ 8 by omega, or32_add 8 (by omega) (by omega) (by omega) (by omega)]
  omega
/-- A word, byte by byte. -/
def acc (b : List UInt8) (t : Nat) : Nat → Int
  | 0 => 0
  | i + 1 => ibits .or .u32 (ishl .u32 (acc b t i) 8) (b.getD (4 * t + i) 0).toNat
theorem acc_step (x : Int) (c : UInt8) (h0 : 0 ≤ x) (h1 : x < 16777216) : ibits .or .u32 (ishl .u32 x 8) c.toNat = x * 256 + c.toNat := by
  have hc := c.toNat_lt
  have := ishl32 x 8 (by decide)
  rw [show ((8 : Nat) : Int) = 8 from rfl, w_u32 (by omega) (by omega)] at this
  rw [this, or32_add 8 h0 (by omega) (by omega) (by omega)]; rfl
theorem acc_wd (b : List UInt8) (t : Nat) : acc b t 4 = wd b t := by
  rw [wd_val]
  have h0 := (b.getD (4 * t) 0).toNat_lt
  have h1 := (b.getD (4 * t + 1) 0).toNat_lt
  have h2 := (b.getD (4 * t + 2) 0).toNat_lt
  have h3 := (b.getD (4 * t + 3) 0).toNat_lt
  have a1 : acc b t 1 = (b.getD (4 * t) 0).toNat := by
    rw [acc, acc, acc_step _ _ (by omega) (by omega), Nat.add_zero]; omega
  have a2 : acc b t 2 = (b.getD (4 * t) 0).toNat * 256 + (b.getD (4 * t + 1) 0).toNat := by
    rw [acc, a1, acc_step _ _ (by omega) (by omega)]
  have a3 : acc b t 3 = ((b.getD (4 * t) 0).toNat * 256 + (b.getD (4 * t + 1) 0).toNat) * 256 + (b.getD (4 * t + 2) 0).toNat := by
    rw [acc, a2, acc_step _ _ (by omega) (by omega)]
  rw [acc, a3, acc_step _ _ (by omega) (by omega)]
def p1St (b l : List UInt8) : List (Nat × AV) := [(0, .d (.sl 1 b.length (bD b))), (3, .sl (.own 0) 1 l.length (bD l))]
def p1Re (l : List UInt8) : Rs := [some (.tok l.length)]
def p2St (b Z : List UInt8) (n j : Nat) : List (Nat × AV) := [(3, .sl (.own 0) 1 (Z ++ lenT n j).length (bD (Z ++ lenT n j))), (4, .d (.c (.int .u64 (8 * (n : Int))))), (5, .d (.c (.int .i64 (7 - (j : Int)))))]
def p2Re (Z : List UInt8) (n j : Nat) : Rs := [some (.tok (Z ++ lenT n j).length)]
set_option maxHeartbeats 400000 in
theorem padded_ac (b : List UInt8) (h : b.length ≤ 140737488352000) : AC Tryd.prog noG 97 [.d (.sl 1 b.length (bD b))] [] (fun v r' => v = .d (.sl 1 (padL b b.length).length (bD (padL b b.length))) ∧ r' = []) := by
  refine AC.dat ?_
  refine AC_of_R (N := 37) (res := [.tmp 2]) ty_ok Tryd.call97 Tryd.func97 rfl rfl rfl (Nat.le_of_ble_eq_true rfl) ?_
  refine rn0 ?_
  have hz := zp_len (b ++ [128])
  rw [List.length_append, List.length_singleton] at hz
  refine ⟨⟨by omega, by omega⟩, ⟨by omega, by omega⟩, HC_loopR (p1St b) p1Re (fun l => zp l = zp (b ++ [128])) (fun l => (120 - l.length % 64) % 64) (b ++ [128]) [0] [] rfl ?_ ?_⟩
  · exact ft1 (jn @p1St.eq_1 @p1Re.eq_1)
  · intro l hzl
    refine HC_of_R ty_ok ?_
    have hzz := zp_len l
    rw [hzl] at hzz
    by_cases h56 : l.length % 64 = 56
    · have hi : (l.length : Int) % 64 = 56 := by omega
      have hzl2 : l = zp (b ++ [128]) := by rw [← hzl, zp, if_pos h56]
      refine rn1 (jn @p1St.eq_1 (jn @p1Re.eq_1 @hi)) ?_
      obtain ⟨Z, hZ⟩ : ∃ Z, Z = zp (b ++ [128]) := ⟨_, rfl⟩
      rw [← hZ] at hz hzz
      rw [hzl2, ← hZ]
      have e8 : IntKind.u64.wrap (IntKind.u64.wrap (b.length : Int) * 8) = 8 * (b.length : Int) := by
        rw [w_u64 (n := (b.length : Int)) (by omega) (by omega), w_u64 (by omega) (by omega)]; omega
      refine HC_loopR (p2St b Z b.length) (p2Re Z b.length) (fun j => j ≤ 8) (fun j => 8 - j) 0 [0] [] (by omega) ?_ ?_
      · simp only [FitR, WkLR, get_mk, ↓lk_cons, ↓reduceIte, Nat.reduceEqDiff, List.cons_append, List.nil_append, List.append_nil, List.length_append, List.length_cons, List.length_nil, Nat.zero_add, p2St, p2Re, lenT, List.take_zero]
        refine ⟨?_, (by first | (simp only [wfSt, wfRs, wfL, wfA, wfM, wfL_append, wfL_map_d, Bool.and_true, Bool.and_self, decide_true, Nat.reduceLT, Nat.reduceAdd, List.length_cons, List.length_nil, Nat.zero_add, p2St, p2Re, lenT, List.take_zero]; done) | rfl), ?_, (by first | (simp only [wfSt, wfRs, wfL, wfA, wfM, wfL_append, wfL_map_d, Bool.and_true, Bool.and_self, decide_true, Nat.reduceLT, Nat.reduceAdd, List.length_cons, List.length_nil, Nat.zero_add, p2St, p2Re, lenT, List.take_zero]; done) | rfl), rfl, rfl⟩ <;> (repeat' (first | exact WkFs.data _ | exact trivial | exact WkF.refl _ | exact WkFs.refl _ | exact rfl | exact WkF.top _ | exact WkF.nil rfl rfl | exact WkF.full rfl rfl | exact .inl (WeakA.toD rfl) | exact .inl (WeakA.nilD _) | exact .inl (WeakA.nilFull _) | exact WkFT.one (WkF.refl _) | exact WkFT.one (.inl (WeakA.toD rfl)) | exact WkFT.one (.inl (WeakA.nilD _)) | exact WkFT.one (.inl (WeakA.nilFull _)) | exact WkFT.one (WkF.nil rfl rfl) | exact WkFT.one (WkF.full rfl rfl) | exact .inl (WeakA.nils rfl (by repeat' (first | exact trivial | exact .inl rfl | exact .inr ⟨rfl, _, rfl⟩ | refine ⟨?_, ?_⟩))) | exact WkFT.one (.inl (WeakA.nils rfl (by repeat' (first | exact trivial | exact .inl rfl | exact .inr ⟨rfl, _, rfl⟩ | refine ⟨?_, ?_⟩)))) | refine ⟨_, rfl, ?_⟩ | refine ⟨?_, ?_⟩ | refine WkFT.tup ?_))
        exact .inl (wk_eq (by congr 3; omega))
      · intro j hj
        refine HC_of_R ty_ok ?_
        have hlt : (lenT b.length j).length ≤ 8 := by rw [lenT, List.length_take]; exact Nat.min_le_right _ _
        by_cases h8 : j < 8
        · have hi : (0 : Int) ≤ 7 - (j : Int) := by omega
          have hk := lenK_ref b.length (7 - j) (by omega) (by omega)
          have hw : ((7 - j : Nat) : Int) = 7 - (j : Int) := by omega
          rw [hw] at hk
          refine rn1 (jn @p2St.eq_1 (jn @p2Re.eq_1 (jn @hi @hk))) ?_
          have hln := congrArg List.length (lenT_succ b.length j h8)
          rw [List.length_append, List.length_singleton] at hln
          refine ⟨⟨by omega, by omega⟩, j + 1, by omega, by omega, [0], [], ?_⟩
          have e7 : (7 : Int) - (j : Int) - 1 = 7 - ((j + 1 : Nat) : Int) := by omega
          simp only [FitR, WkLR, get_mk, ↓lk_cons, ↓reduceIte, Nat.reduceEqDiff, List.cons_append, List.nil_append, List.append_nil, List.length_append, List.length_cons, List.length_nil, Nat.zero_add, lenT_succ b.length j h8, hln, e7, ← Nat.add_assoc, List.append_assoc]
          refine ⟨?_, (by first | (simp only [wfSt, wfRs, wfL, wfA, wfM, wfL_append, wfL_map_d, Bool.and_true, Bool.and_self, decide_true, Nat.reduceLT, Nat.reduceAdd, List.length_cons, List.length_nil, Nat.zero_add, lenT_succ b.length j h8, hln, e7, ← Nat.add_assoc, List.append_assoc]; done) | rfl), ?_, (by first | (simp only [wfSt, wfRs, wfL, wfA, wfM, wfL_append, wfL_map_d, Bool.and_true, Bool.and_self, decide_true, Nat.reduceLT, Nat.reduceAdd, List.length_cons, List.length_nil, Nat.zero_add, lenT_succ b.length j h8, hln, e7, ← Nat.add_assoc, List.append_assoc]; done) | rfl), rfl, rfl⟩ <;> (repeat' (first | exact WkFs.data _ | exact trivial | exact WkF.refl _ | exact WkFs.refl _ | exact rfl | exact WkF.top _ | exact WkF.nil rfl rfl | exact WkF.full rfl rfl | exact .inl (WeakA.toD rfl) | exact .inl (WeakA.nilD _) | exact .inl (WeakA.nilFull _) | exact WkFT.one (WkF.refl _) | exact WkFT.one (.inl (WeakA.toD rfl)) | exact WkFT.one (.inl (WeakA.nilD _)) | exact WkFT.one (.inl (WeakA.nilFull _)) | exact WkFT.one (WkF.nil rfl rfl) | exact WkFT.one (WkF.full rfl rfl) | exact .inl (WeakA.nils rfl (by repeat' (first | exact trivial | exact .inl rfl | exact .inr ⟨rfl, _, rfl⟩ | refine ⟨?_, ?_⟩))) | exact WkFT.one (.inl (WeakA.nils rfl (by repeat' (first | exact trivial | exact .inl rfl | exact .inr ⟨rfl, _, rfl⟩ | refine ⟨?_, ?_⟩)))) | refine ⟨_, rfl, ?_⟩ | refine ⟨?_, ?_⟩ | refine WkFT.tup ?_))
        · have hi : ¬ (0 : Int) ≤ 7 - (j : Int) := by omega
          have h8e : j = 8 := by omega
          subst h8e
          have hlB : lenT b.length 8 = lenB b.length := rfl
          refine rn1 (jn @p2St.eq_1 (jn @p2Re.eq_1 (jn @hi @hlB))) ?_
          rw [padL, ← hZ]
          simp
    · have hi : ¬ (l.length : Int) % 64 = 56 := by omega
      refine rn1 (jn @p1St.eq_1 (jn @p1Re.eq_1 @hi)) ?_
      refine ⟨⟨by omega, by omega⟩, l ++ [0], by rw [← hzl, zp.eq_def l, if_neg h56], by simp only [List.length_append, List.length_cons, List.length_nil]; omega, [0], [], ?_⟩
      exact ft0
set_option maxHeartbeats 400000 in
theorem rounds_ac : AC Tryd.prog noG 96 [] [] (fun v r' => v = .d (.agg (wD roundsL)) ∧ r' = []) := by
  refine AC.pure ?_ (by rintro v rfl; rfl)
  refine AC_of_R (N := 2) (res := [.cell 0 139]) ty_ok Tryd.call96 Tryd.func96 rfl rfl rfl (Nat.le_of_ble_eq_true rfl) ?_
  refine rn0 ?_
  rfl
end Go.Proofs.YtdbicadncccpoaaDoor

set_option linter.unusedVariables false
set_option linter.unusedSimpArgs false
set_option maxRecDepth 100000
namespace Go.Proofs.YtdbicadncccpoaaDoor
open Go Go.ChangeShapes Go.WideShapes
theorem adds8 (a b c d e f g h a' b' c' d' e' f' g' h' : Int) : adds [a, b, c, d, e, f, g, h] [a', b', c', d', e', f', g', h'] 8 = [IntKind.u32.wrap (a + a'), IntKind.u32.wrap (b + b'), IntKind.u32.wrap (c + c'), IntKind.u32.wrap (d + d'), IntKind.u32.wrap (e + e'), IntKind.u32.wrap (f + f'), IntKind.u32.wrap (g + g'), IntKind.u32.wrap (h + h')] := rfl
theorem adds_comm (ρ s : List Int) (h : ρ.length = 8) (hs : s.length = 8) : adds ρ s 8 = adds s ρ 8 := by
  obtain ⟨a, b, c, d, e, f, g, h2, rfl⟩ := len8 h
  obtain ⟨a', b', c', d', e', f', g', h', rfl⟩ := len8 hs
  rw [adds8, adds8, Int.add_comm a, Int.add_comm b, Int.add_comm c, Int.add_comm d, Int.add_comm e, Int.add_comm f, Int.add_comm g, Int.add_comm h2]
theorem getD_drop_ (p : List UInt8) (k i : Nat) : (p.drop k).getD i 0 = p.getD (k + i) 0 := by
  rw [List.getD_eq_getElem?_getD, List.getElem?_drop, List.getD_eq_getElem?_getD]
theorem sch64_get_t (b : List UInt8) (t : Nat) (h : t < 64) : (sch64 b t).getD t 0 = 0 := by
  rw [sch64, List.getD_eq_getElem?_getD, List.getElem?_append_right (by rw [sch_len]; omega), sch_len, Nat.sub_self, show 64 - t = (64 - t - 1) + 1 by omega, List.replicate_succ]; rfl
theorem sch64_set0 (b : List UInt8) (t : Nat) (h : t < 64) : (sch64 b t).set t 0 = sch64 b t := by
  apply List.ext_getElem?
  intro j
  rw [List.getElem?_set]
  split
  · rename_i hj; subst hj
    have h0 := sch64_get_t b t h
    have hl := sch64_len b t (by omega)
    rw [List.getD_eq_getElem?_getD, List.getElem?_eq_getElem (by omega)] at h0
    simp only [Option.getD_some] at h0
    rw [if_pos (by omega), List.getElem?_eq_getElem (by omega), h0]
  · rfl
theorem getD_set_same (l : List Int) (t : Nat) (x : Int) (h : t < l.length) : (l.set t x).getD t 0 = x := by
  rw [List.getD_eq_getElem?_getD, List.getElem?_set, if_pos rfl, if_pos h]; rfl
theorem dig_get (s : List Int) (i : Nat) (h : i < 32) (hs : s.length = 8) : (dig s).getD i 0 = b8 (ishr .u32 (s.getD (i / 4) 0) (24 - 8 * ((i : Int) % 4))) := by
  obtain ⟨q0, q1, q2, q3, q4, q5, q6, q7, rfl⟩ := len8 hs
  have h0 : ∀ w : Int, ishr .u32 w 0 = w := fun w => Int.fdiv_one w
  have key : ∀ j k : Nat, j < 8 → k < 4 → i = 4 * j + k → (dig [q0, q1, q2, q3, q4, q5, q6, q7]).getD i 0 = b8 (ishr .u32 (([q0, q1, q2, q3, q4, q5, q6, q7] : List Int).getD (i / 4) 0) (24 - 8 * ((i : Int) % 4))) := by
    intro j k hj hk hi
    have e1 : i / 4 = j := by omega
    have e2 : 24 - 8 * ((i : Int) % 4) = 24 - 8 * (k : Int) := by omega
    rw [e1, e2, hi]
    obtain rfl | rfl | rfl | rfl : k = 0 ∨ k = 1 ∨ k = 2 ∨ k = 3 := by omega
    all_goals
      obtain rfl | rfl | rfl | rfl | rfl | rfl | rfl | rfl : j = 0 ∨ j = 1 ∨ j = 2 ∨ j = 3 ∨ j = 4 ∨ j = 5 ∨ j = 6 ∨ j = 7 := by omega
      all_goals first
        | rfl
        | (show b8 _ = b8 (ishr .u32 _ 0); rw [h0]; rfl)
  exact key (i / 4) (i % 4) (by omega) (by omega) (by omega)
def dg2 (s : List Int) (i : Nat) : List UInt8 := (dig s).take i ++ List.replicate (32 - i) 0
theorem dg2_len (s : List Int) (i : Nat) (h : i ≤ 32) (hs : s.length = 8) : (dg2 s i).length = 32 := by
  rw [dg2, List.length_append, List.length_take, dig_len, List.length_replicate, hs]; omega
theorem dg2_step (s : List Int) (i : Nat) (h : i < 32) (hs : s.length = 8) : (dg2 s i).set i ((dig s).getD i 0) = dg2 s (i + 1) := by
  have hl := dig_len s
  rw [hs] at hl
  rw [dg2, List.set_append_right _ _ (by rw [List.length_take]; omega), List.length_take, Nat.min_eq_left (by omega), Nat.sub_self, show 32 - i = (32 - (i + 1)) + 1 by omega, List.replicate_succ, List.set_cons_zero, dg2, List.take_succ_eq_append_getElem (by omega), List.append_assoc, List.getD_eq_getElem?_getD, List.getElem?_eq_getElem (by omega)]
  rfl
theorem dg2_all (s : List Int) (hs : s.length = 8) : dg2 s 32 = dig s := by
  rw [dg2, List.take_of_length_le (by rw [dig_len]; omega)]; simp
def regA (l : List Int) : List (Nat × AV) := [(13, .d (.c (.int .u32 (l.getD 0 0)))), (14, .d (.c (.int .u32 (l.getD 1 0)))), (15, .d (.c (.int .u32 (l.getD 2 0)))), (16, .d (.c (.int .u32 (l.getD 3 0)))), (17, .d (.c (.int .u32 (l.getD 4 0)))), (18, .d (.c (.int .u32 (l.getD 5 0)))), (19, .d (.c (.int .u32 (l.getD 6 0)))), (20, .d (.c (.int .u32 (l.getD 7 0))))]
/-- The reference's names: the sum, the state, the rounds' words. -/
def o0St (p : List UInt8) (i : List Int × Nat) : List (Nat × AV) := [(2, .ptr 0 0), (3, .ptr 1 0), (4, .ptr 2 0), (5, .d (.sl 1 p.length (bD p))), (6, .d (.c (.int .i64 (64 * (i.2 : Int)))))]
def o0Re (i : List Int × Nat) : Rs := [some (.obj (bA z32)), some (.obj (wA i.1)), some (.obj (wA roundsL))]
def o1St (p : List UInt8) (q t : Nat) : List (Nat × AV) := o0St p ([], q) ++ [(7, .ptr 3 0), (8, .d (.c (.int .i64 t)))]
def o1Re (s W : List Int) : Rs := o0Re (s, 0) ++ [some (.obj (wA W))]
def o2St (p : List UInt8) (q t i : Nat) : List (Nat × AV) := o1St p q t ++ [(9, .d (.c (.int .i64 i)))]
def o4St (p : List UInt8) (q t : Nat) : List (Nat × AV) := o0St p ([], q) ++ [(7, .ptr 3 0), (10, .d (.c (.int .i64 t)))]
def o5St (p : List UInt8) (q : Nat) (i : Nat × List Int) : List (Nat × AV) := o0St p ([], q) ++ [(7, .ptr 3 0)] ++ regA i.2 ++ [(21, .d (.c (.int .i64 i.1)))]
def o6St (p : List UInt8) (q : Nat) (ρ : List Int) (i : Nat) : List (Nat × AV) := o0St p ([], q) ++ [(203, .d (.agg (wD ρ))), (204, .d (.c (.int .i64 i)))]
def o7St (i : Nat) : List (Nat × AV) := [(2, .ptr 0 0), (3, .ptr 1 0), (26, .ptr 3 0), (27, .d (.c (.int .i64 i)))]
def o7Re (s : List Int) (i : Nat) : Rs := [some (.obj (bA z32)), some (.obj (wA s)), none, some (.obj (bA (dg2 s i)))]
set_option maxHeartbeats 400000 in
theorem refSum_ac (b : List UInt8) (h : b.length ≤ 140737488352000) : AC Tryd.prog noG 91 [.d (.sl 1 b.length (bD b))] [] (fun v r' => v = .d (.agg (bD (sha b))) ∧ r' = []) := by
  refine AC.pure ?_ (by rintro v rfl; rfl)
  refine AC_of_R (N := 233) (res := [.cell 2 27]) ty_ok Tryd.call91 Tryd.func91 rfl rfl rfl (Nat.le_of_ble_eq_true rfl) ?_
  refine rn0 ?_
  refine HO_pureA ty_ok rounds_ac ?_
  have hw64 : (wD roundsL).map AV.d = wA roundsL := wD_map _
  have hr64 : (wA roundsL).length = 64 := rfl
  have hsp := splice_all [.d (.c (.int .u32 0)), .d (.c (.int .u32 0)), .d (.c (.int .u32 0)), .d (.c (.int .u32 0)), .d (.c (.int .u32 0)), .d (.c (.int .u32 0)), .d (.c (.int .u32 0)), .d (.c (.int .u32 0)), .d (.c (.int .u32 0)), .d (.c (.int .u32 0)), .d (.c (.int .u32 0)), .d (.c (.int .u32 0)), .d (.c (.int .u32 0)), .d (.c (.int .u32 0)), .d (.c (.int .u32 0)), .d (.c (.int .u32 0)), .d (.c (.int .u32 0)), .d (.c (.int .u32 0)), .d (.c (.int .u32 0)), .d (.c (.int .u32 0)), .d (.c (.int .u32 0)), .d (.c (.int .u32 0)), .d (.c (.int .u32 0)), .d (.c (.int .u32 0)), .d (.c (.int .u32 0)), .d (.c (.int .u32 0)), .d (.c (.int .u32 0)), .d (.c (.int .u32 0)), .d (.c (.int .u32 0)), .d (.c (.int .u32 0)), .d (.c (.int .u32 0)), .d (.c (.int .u32 0)), .d (.c (.int .u32 0)), .d (.c (.int .u32 0)), .d (.c (.int .u32 0)), .d (.c (.int .u32 0)), .d (.c (.int .u32 0)), .d (.c (.int .u32 0)), .d (.c (.int .u32 0)), .d (.c (.int .u32 0)), .d (.c (.int .u32 0)), .d (.c (.int .u32 0)), .d (.c (.int .u32 0)), .d (.c (.int .u32 0)), .d (.c (.int .u32 0)), .d (.c (.int .u32 0)), .d (.c (.int .u32 0)), .d (.c (.int .u32 0)), .d (.c (.int .u32 0)), .d (.c (.int .u32 0)), .d (.c (.int .u32 0)), .d (.c (.int .u32 0)), .d (.c (.int .u32 0)), .d (.c (.int .u32 0)), .d (.c (.int .u32 0)), .d (.c (.int .u32 0)), .d (.c (.int .u32 0)), .d (.c (.int .u32 0)), .d (.c (.int .u32 0)), .d (.c (.int .u32 0)), .d (.c (.int .u32 0)), .d (.c (.int .u32 0)), .d (.c (.int .u32 0)), .d (.c (.int .u32 0))] (wA roundsL) rfl (by decide)
  refine rn1 (jn @hw64 (jn @hr64 @hsp)) ?_
  clear hsp
  refine HO_pureA ty_ok (padded_ac b h) ?_
  have hpl : (padL b b.length).length % 64 = 0 ∧ (padL b b.length).length ≤ b.length + 72 := by
    have := zp_len (b ++ [128])
    rw [List.length_append, List.length_singleton] at this
    rw [padL, List.length_append, show (lenB b.length).length = 8 from rfl]; omega
  have hsha : sha b = dig (blkAll firstL (padL b b.length)) := rfl
  rw [hsha]
  generalize padL b b.length = p at *
  refine rn0 ?_
  refine HC_loopR (o0St p) o0Re (fun i => i.1.length = 8 ∧ 64 * i.2 ≤ p.length ∧ blkAll i.1 (p.drop (64 * i.2)) = blkAll firstL p) (fun i => p.length - 64 * i.2) (firstL, 0) [0, 1, 2] [] ⟨rfl, by omega, rfl⟩ ?_ ?_
  · exact ft1 (jn @o0St.eq_1 (jn @o0Re.eq_1 (jn @wA_wf @bA_wf)))
  · intro ⟨s, q⟩ ⟨hs, hq, hb⟩
    simp only at hs hq hb
    refine HC_of_R ty_ok ?_
    by_cases hqp : 64 * q < p.length
    · have hi : 64 * (q : Int) < p.length := by omega
      obtain ⟨B, hB⟩ : ∃ B, B = p.drop (64 * q) := ⟨_, rfl⟩
      have hBl : B.length = p.length - 64 * q := by rw [hB, List.length_drop]
      have hBg : ∀ k, p.getD (64 * q + k) 0 = B.getD k 0 := fun k => by rw [hB, getD_drop_]
      rw [← hB] at hb
      refine rn1 (jn @o0St.eq_1 (jn @o0Re.eq_1 @hi)) ?_
      refine HC_loopR (o1St p q) (fun t => o1Re s (sch64 B t)) (fun t => t ≤ 16) (fun t => 16 - t) 0 [0, 1, 2, 3] [] (by omega) ?_ ?_
      · exact ft1 (jn @o1St.eq_1 (jn @o0St.eq_1 (jn @o1Re.eq_1 (jn @o0Re.eq_1 (jn @wA_wf @bA_wf)))))
      · intro t ht
        refine HC_of_R ty_ok ?_
        have h64 := sch64_len B t (by omega)
        have hwl := wA_len (sch64 B t)
        by_cases ht16 : t < 16
        · have hi : (t : Int) < 16 := by omega
          refine rn1 (jn @o1St.eq_1 (jn @o0St.eq_1 (jn @o1Re.eq_1 (jn @o0Re.eq_1 @hi)))) ?_
          refine HC_loopR (o2St p q t) (fun i => o1Re s ((sch64 B t).set t (acc B t i))) (fun i => i ≤ 4) (fun i => 4 - i) 0 [0, 1, 2, 3] [] (by omega) ?_ ?_
          · exact ft1 (jn @o2St.eq_1 (jn @o1St.eq_1 (jn @o0St.eq_1 (jn @o1Re.eq_1 (jn @o0Re.eq_1 (jn @wA_wf (jn @bA_wf (jn @acc.eq_1 (jn @acc.eq_2 (sch64_set0 B t (by omega)))))))))))
          · intro i hi4
            refine HC_of_R ty_ok ?_
            have hsl : ((sch64 B t).set t (acc B t i)).length = 64 := by rw [List.length_set, h64]
            have hwl2 := wA_len ((sch64 B t).set t (acc B t i))
            by_cases hi4' : i < 4
            · have hi : (i : Int) < 4 := by omega
              refine rn1 (jn @o2St.eq_1 (jn @o1St.eq_1 (jn @o0St.eq_1 (jn @o1Re.eq_1 (jn @o0Re.eq_1 @hi))))) ?_
              refine HC_plan [] ty_ok mix (by kernel_rfl) ?_
              have e1 : (64 * (q : Int) + 4 * (t : Int) + (i : Int)).toNat = 64 * q + (4 * t + i) := by omega
              have hg := getD_set_same (sch64 B t) t (acc B t i) (by omega)
              have c64 : ((64 : Nat) : Int) = 64 := rfl
              refine rn1 (jn @hsl (jn @hwl2 (jn @wA_get (jn @wA_set (jn @wA_splice (jn @u32_u8 (jn @e1 (jn @hg (jn @hBg (jn @c64 @List.set_set.{0})))))))))) ?_
              refine ⟨⟨by omega, by omega⟩, ⟨by omega, by omega⟩, ⟨by omega, by omega⟩, by omega, i + 1, by omega, by omega, [0, 1, 2, 3], [], ?_⟩
              exact ft1 (jn @acc.eq_1 (jn @acc.eq_2 (jn @wA_wf @bA_wf)))
            · have hi : ¬ (i : Int) < 4 := by omega
              have h4e : i = 4 := by omega
              subst h4e
              have hn : (sch64 B t).set t (acc B t 4) = sch64 B (t + 1) := by
                rw [acc_wd, ← sch64_set B t (by omega), nxt, if_pos ht16]
              refine rn1 (jn @o2St.eq_1 (jn @o1St.eq_1 (jn @o0St.eq_1 (jn @o1Re.eq_1 (jn @o0Re.eq_1 @hi))))) ?_
              refine ⟨t + 1, by omega, by omega, [0, 1, 2, 3], [], ?_⟩
              rw [hn]
              exact ft1 (jn @wA_wf @bA_wf)
        · have hi : ¬ (t : Int) < 16 := by omega
          have h16e : t = 16 := by omega
          subst h16e
          refine rn1 (jn @o1St.eq_1 (jn @o0St.eq_1 (jn @o1Re.eq_1 (jn @o0Re.eq_1 @hi)))) ?_
          obtain ⟨W16, hW16⟩ : ∃ W, W = sch64 B 16 := ⟨_, rfl⟩
          rw [← hW16]
          refine HC_loopR (fun i => o4St p q i.1) (fun i => o1Re s i.2) (fun i => 16 ≤ i.1 ∧ i.1 ≤ 64 ∧ i.2 = sch64 B i.1) (fun i => 64 - i.1) (16, W16) [0, 1, 2, 3] [] ⟨by simp only; omega, by simp only; omega, hW16⟩ ?_ ?_
          · exact ft1 (jn @o4St.eq_1 (jn @o0St.eq_1 (jn @o1Re.eq_1 (jn @o0Re.eq_1 (jn @wA_wf @bA_wf)))))
          · intro ⟨t, W⟩ ⟨ht1, ht2, hW⟩
            simp only at ht1 ht2 hW
            refine HC_of_R ty_ok ?_
            have h64 := sch64_len B t (by omega)
            rw [← hW] at h64
            have hwl := wA_len W
            by_cases ht64 : t < 64
            · have hi : (t : Int) < 64 := by omega
              have e1 : ((t : Int) - 15).toNat = t - 15 := by omega
              have e2 : ((t : Int) - 2).toNat = t - 2 := by omega
              have e3 : ((t : Int) - 7).toNat = t - 7 := by omega
              have e4 : ((t : Int) - 16).toNat = t - 16 := by omega
              have c64 : ((64 : Nat) : Int) = 64 := rfl
              refine rn1 (jn @o4St.eq_1 (jn @o0St.eq_1 (jn @o1Re.eq_1 (jn @o0Re.eq_1 @hi)))) ?_
              refine HC_order [4, 9] ty_ok mix [0, 1, 2, 3, 5, 6, 7, 8, 11, 12, 13, 14, 15, 4, 9, 10, 16, 17] (by kernel_rfl) rfl _ rfl ?_
              simp only [opl_nil', opl_cons', oplC_some, List.getElem?_toArray, List.getElem?_cons_zero, List.getElem?_cons_succ]
              refine rn1 (jn @hwl (jn @h64 (jn @wA_get (jn @e1 @c64)))) ?_
              (repeat (refine And.intro (by omega) ?_))
              refine HO_pureA ty_ok (rrot_ac _ 7 (by decide) (by decide)) ?_
              refine rn0 ?_
              refine HO_pureA ty_ok (rrot_ac _ 18 (by decide) (by decide)) ?_
              refine rn0 ?_
              refine HC_order [4, 9] ty_ok mix [0, 1, 2, 3, 5, 6, 7, 8, 11, 12, 13, 14, 15, 4, 9, 10, 16, 17] (by kernel_rfl) rfl _ rfl ?_
              simp only [opl_nil', opl_cons', oplC_some, List.getElem?_toArray, List.getElem?_cons_zero, List.getElem?_cons_succ]
              refine rn1 (jn @hwl (jn @h64 (jn @wA_get (jn @e2 @c64)))) ?_
              (repeat (refine And.intro (by omega) ?_))
              refine HO_pureA ty_ok (rrot_ac _ 17 (by decide) (by decide)) ?_
              refine rn0 ?_
              refine HO_pureA ty_ok (rrot_ac _ 19 (by decide) (by decide)) ?_
              refine rn0 ?_
              refine HC_plan [] ty_ok mix (by kernel_rfl) ?_
              refine rn1 (jn @hwl (jn @h64 (jn @wA_get (jn @wA_set (jn @wA_splice (jn @e3 (jn @e4 @c64))))))) ?_
              have hn : nxt B (sch B t) t = wn (W.getD (t - 2) 0) (W.getD (t - 7) 0) (W.getD (t - 15) 0) (W.getD (t - 16) 0) := by
                rw [nxt, if_neg (by omega), hW, sch64_get _ _ _ (by omega), sch64_get _ _ _ (by omega), sch64_get _ _ _ (by omega), sch64_get _ _ _ (by omega)]
              have hws : W.set t (wn (W.getD (t - 2) 0) (W.getD (t - 7) 0) (W.getD (t - 15) 0) (W.getD (t - 16) 0)) = sch64 B (t + 1) := by
                rw [← sch64_set B t ht64, hn, hW]
              (repeat (refine And.intro (by omega) ?_))
              refine ⟨(t + 1, W.set t (wn (W.getD (t - 2) 0) (W.getD (t - 7) 0) (W.getD (t - 15) 0) (W.getD (t - 16) 0))), ⟨by simp only; omega, by simp only; omega, hws⟩, by simp only; omega, [0, 1, 2, 3], [], ?_⟩
              exact ft1 (jn @wn.eq_1 (jn @wA_wf @bA_wf))
            · have hi : ¬ (t : Int) < 64 := by omega
              have h64e : t = 64 := by omega
              subst h64e
              obtain ⟨q0, q1, q2, q3, q4, q5, q6, q7, rfl⟩ := len8 hs
              refine rn1 (jn @o4St.eq_1 (jn @o0St.eq_1 (jn @o1Re.eq_1 (jn @o0Re.eq_1 (jn @wA_cons (jn @wA_nil @hi)))))) ?_
              have c8 : ((8 : Nat) : Int) = 8 := rfl
              refine HC_plan [] ty_ok mix (by kernel_rfl) ?_
              refine rn1 @c8 ?_
              obtain ⟨s, hse⟩ : ∃ s, s = [q0, q1, q2, q3, q4, q5, q6, q7] := ⟨_, rfl⟩
              refine HC_loopR (o5St p q) (fun _ => o1Re s W) (fun i => i.1 ≤ 64 ∧ i.2 = rnds s W i.1) (fun i => 64 - i.1) (0, s) [0, 1, 2, 3] [] ⟨by simp only; omega, rfl⟩ ?_ ?_
              · rw [hse]
                exact ft1 (jn @o5St.eq_1 (jn @o0St.eq_1 (jn @regA.eq_1 (jn @o1Re.eq_1 (jn @o0Re.eq_1 (jn @wA_wf @bA_wf))))))
              · intro ⟨t, ρ⟩ ⟨ht, hρ⟩
                simp only at ht hρ
                refine HC_of_R ty_ok ?_
                have hρl := rnds_len s W (by rw [hse]; rfl) t
                rw [← hρ] at hρl
                obtain ⟨r0, r1, r2, r3, r4, r5, r6, r7, rfl⟩ := len8 hρl
                by_cases ht4 : t < 64
                · have hi4 : (t : Int) < 64 := by omega
                  have c64 : ((64 : Nat) : Int) = 64 := rfl
                  have hrl : roundsL.length = 64 := rfl
                  refine rn1 (jn @o5St.eq_1 (jn @o0St.eq_1 (jn @regA.eq_1 (jn @o1Re.eq_1 (jn @o0Re.eq_1 (jn @hi4 (jn @List.getD_cons_zero.{0} @List.getD_cons_succ.{0}))))))) ?_
                  refine HC_order [2, 4, 7] ty_ok mix [0, 1, 3, 6, 10, 11, 12, 13, 14, 15, 16, 17, 19, 20, 21, 23, 24, 25, 2, 4, 5, 7, 8, 9, 18, 22, 26, 27] (by kernel_rfl) rfl _ rfl ?_
                  simp only [opl_nil', opl_cons', oplC_some, List.getElem?_toArray, List.getElem?_cons_zero, List.getElem?_cons_succ]
                  refine rn1 (jn @hwl (jn @h64 (jn @hr64 (jn @hrl (jn @wA_get @c64))))) ?_
                  (repeat (refine And.intro (by omega) ?_))
                  refine HO_pureA ty_ok (rrot_ac _ 6 (by decide) (by decide)) ?_
                  refine rn0 ?_
                  refine HO_pureA ty_ok (rrot_ac _ 11 (by decide) (by decide)) ?_
                  refine rn0 ?_
                  refine HO_pureA ty_ok (rrot_ac _ 25 (by decide) (by decide)) ?_
                  refine rn0 ?_
                  refine HO_pureA ty_ok (rrot_ac _ 2 (by decide) (by decide)) ?_
                  refine rn0 ?_
                  refine HO_pureA ty_ok (rrot_ac _ 13 (by decide) (by decide)) ?_
                  refine rn0 ?_
                  refine HO_pureA ty_ok (rrot_ac _ 22 (by decide) (by decide)) ?_
                  refine rn0 ?_
                  refine ⟨(t + 1, rstep (roundsL.getD t 0) (W.getD t 0) [r0, r1, r2, r3, r4, r5, r6, r7]), ⟨by simp only; omega, by rw [rnds, ← hρ]⟩, by simp only; omega, [0, 1, 2, 3], [], ?_⟩
                  exact ft1 (jn @rstep.eq_1 (jn @rstep.eq_2 (jn @one_.eq_1 (jn @two_.eq_1 (jn @List.getD_cons_zero.{0} (jn @List.getD_cons_succ.{0} (jn @wA_wf @bA_wf)))))))
                · have e64 : t = 64 := by omega
                  subst e64
                  have hi4 : ¬ (64 : Int) < 64 := by omega
                  refine rn1 (jn @o5St.eq_1 (jn @o0St.eq_1 (jn @regA.eq_1 (jn @o1Re.eq_1 (jn @o0Re.eq_1 (jn @hi4 (jn @List.getD_cons_zero.{0} @List.getD_cons_succ.{0}))))))) ?_
                  obtain ⟨ρ, hρ2⟩ : ∃ ρ, ρ = [r0, r1, r2, r3, r4, r5, r6, r7] := ⟨_, rfl⟩
                  have hρ8 : ρ.length = 8 := by rw [hρ2]; rfl
                  have hs8 : s.length = 8 := by rw [hse]; rfl
                  rw [← hρ2] at hρ
                  have hbk : blk s B = adds s ρ 8 := by rw [blk, ← hW, ← hρ, adds_comm _ _ hρ8 hs8]
                  refine HC_loopR (o6St p q ρ) (fun i => o0Re (adds s ρ i, 0) ++ [none]) (fun i => i ≤ 8) (fun i => 8 - i) 0 [0, 1, 2] [] (by omega) ?_ ?_
                  · rw [hρ2]
                    exact ft1 (jn @o6St.eq_1 (jn @o0St.eq_1 (jn @o0Re.eq_1 (jn @adds.eq_1 (jn @adds.eq_2 (jn @wA_wf @bA_wf))))))
                  · intro i hi
                    refine HC_of_R ty_ok ?_
                    have hal : (adds s ρ i).length = 8 := by rw [adds_len, hs8]
                    have hwa := wA_len (adds s ρ i)
                    by_cases hi8 : i < 8
                    · have hx : (i : Int) < 8 := by omega
                      refine rn1 (jn @o6St.eq_1 (jn @o0St.eq_1 (jn @o0Re.eq_1 (jn @hx (jn @hwa (jn @hal (jn @hρ8 (jn @wA_get (jn @wD_get (jn @wA_set (jn @wA_splice @c8))))))))))) ?_
                      (repeat (refine And.intro (by omega) ?_))
                      refine ⟨i + 1, by omega, by omega, [0, 1, 2], [], ?_⟩
                      exact ft1 (jn @adds.eq_1 (jn @adds.eq_2 (jn @wA_wf @bA_wf)))
                    · have hx : ¬ (i : Int) < 8 := by omega
                      have e8 : i = 8 := by omega
                      subst e8
                      refine rn1 (jn @o6St.eq_1 (jn @o0St.eq_1 (jn @o0Re.eq_1 @hx))) ?_
                      refine ⟨(adds s ρ 8, q + 1), ⟨hal, by simp only; omega, ?_⟩, by simp only; omega, [0, 1, 2], [], ?_⟩
                      · simp only
                        rw [← hb, blkAll.eq_def _ B, if_pos (by omega), ← hbk, hse, hB, List.drop_drop]
                        rfl
                      · exact ft1 (jn @wA_wf @bA_wf)
    · have hi : ¬ 64 * (q : Int) < p.length := by omega
      have hse : s = blkAll firstL p := by rw [← hb, List.drop_of_length_le (by omega), blkAll]; rfl
      rw [← hse]
      have c8 : ((8 : Nat) : Int) = 8 := rfl
      have c32 : ((32 : Nat) : Int) = 32 := rfl
      refine rn1 (jn @o0St.eq_1 (jn @o0Re.eq_1 @hi)) ?_
      refine HC_loopR o7St (o7Re s) (fun i => i ≤ 32) (fun i => 32 - i) 0 [0, 1, 2, 3] [] (by omega) ?_ ?_
      · exact ft1 (jn @o7St.eq_1 (jn @o7Re.eq_1 (jn @wA_wf @bA_wf)))
      · intro i hi32
        refine HC_of_R ty_ok ?_
        have hdl := dg2_len s i hi32 hs
        have hbl := bA_len (dg2 s i)
        have hws := wA_len s
        by_cases h32 : i < 32
        · have hi : (i : Int) < 32 := by omega
          have e1 : ((i : Int) / 4).toNat = i / 4 := by omega
          have ew : IntKind.u64.wrap (24 - 8 * ((i : Int) % 4)) = 24 - 8 * ((i : Int) % 4) := w_u64 (by omega) (by omega)
          refine rn1 (jn @o7St.eq_1 (jn @o7Re.eq_1 (jn @hi (jn @hdl (jn @hbl (jn @hws (jn @hs (jn @wA_get (jn @b8_wrap (jn @bA_set (jn @e1 (jn @ew (jn @c8 (jn @c32 @splice_one)))))))))))))) ?_
          (repeat (refine And.intro (by omega) ?_))
          refine ⟨i + 1, by omega, by omega, [0, 1, 2, 3], [], ?_⟩
          rw [← dg2_step s i h32 hs, dig_get s i h32 hs]
          exact ft1 (jn @wA_wf @bA_wf)
        · have h32e : i = 32 := by omega
          subst h32e
          have hi : ¬ (32 : Int) < 32 := by omega
          rw [dg2_all s hs] at hdl hbl
          obtain ⟨hl, hb, ht, hm, hsp⟩ := dig32 (dig s) hdl
          have hz32 : (bA z32).length = 32 := rfl
          have hsp2 : splice (bA z32) 0 (bA (dig s)) = bA (dig s) := hsp
          clear hsp
          exact rz1 (jn @o7St.eq_1 (jn @o7Re.eq_1 (jn @dg2_all (jn @hs (jn @hi (jn @hdl (jn @hbl (jn @ht (jn @hm (jn @bA_allD (jn @hz32 @hsp2)))))))))))
end Go.Proofs.YtdbicadncccpoaaDoor

set_option linter.unusedVariables false
set_option linter.unusedSimpArgs false
set_option maxRecDepth 100000
namespace Go.Proofs.YtdbicadncccpoaaDoor
open Go Go.ChangeShapes Go.WideShapes
def lentD : List D := bD [203, 204]
set_option maxHeartbeats 1000000 in
theorem lent_ac (b : List UInt8) (hb : b.length ≤ 140737488355000) :
    AC Tryd.prog noG 15 [.d (.sl 1 b.length (bD b))] [] (fun v r' => v = .sl (.sp lentD) 1 b.length (bD b) ∧ r' = []) := by
  refine AC.pure ?_ (by rintro v rfl; rfl)
  refine AC_of_R (N := 14) (res := [.tmp 2]) ty_ok Tryd.call15 Tryd.func15 rfl rfl rfl (Nat.le_of_ble_eq_true rfl) ?_
  refine rn1 (jn @chk_pos @lentD.eq_1) ?_
  have e1 : (2 + (b.length : Int)).toNat = 2 + b.length := by omega
  have e2 : 2 + b.length = b.length + 1 + 1 := by omega
  have e3 : b.length + 1 + 1 - 2 = b.length := by omega
  rw [e1, e2, e3, List.drop_succ_cons, List.drop_succ_cons, List.drop_left, List.take_left]
  rfl
set_option maxHeartbeats 1000000 in
theorem kept_ac (b : List UInt8) (hb : b.length ≤ 140737488355000) :
    AC Tryd.prog noG 18 [.sl (.sp lentD) 1 b.length (bD b), .d (.sl 1 b.length (bD b))] [] (fun v r' => v = .d (.c (.bool true)) ∧ r' = []) := by
  refine AC.pure ?_ (by rintro v rfl; rfl)
  refine AC_of_R (N := 30) (res := [.tmp 4]) ty_ok Tryd.call18 Tryd.func18 rfl rfl rfl (Nat.le_of_ble_eq_true rfl) ?_
  refine rn0 ?_
  refine HO_cap ty_ok rfl rfl (by simp only [ST]; rfl) (by kernel_rfl) fun c hc => ?_
  have hl : lentD.length = 2 := rfl
  have e1 : ((b.length : Int) + 1).toNat = b.length + 1 := by omega
  have e2 : (b ++ [203, 204]).take (b.length + 1) = b ++ [203] := by rw [List.take_append, List.take_of_length_le (by omega), Nat.add_sub_cancel_left]; rfl
  have e4 : (bD [203])[0]? = some (.c (.int .u8 203)) := rfl
  refine rn1 (jn @bD_len (jn @lentD.eq_1 (jn @e1 (jn @e2 (jn @e4 @List.drop_left.{0}))))) ?_
  omega
end Go.Proofs.YtdbicadncccpoaaDoor
