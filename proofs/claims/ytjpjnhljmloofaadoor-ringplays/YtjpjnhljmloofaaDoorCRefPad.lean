import Derived.Test.YtjpjnhljmloofaaDoorCHashSpec
set_option linter.unusedVariables false
set_option linter.unusedSimpArgs false
set_option maxRecDepth 100000
namespace Go.Proofs.YtjpjnhljmloofaaDoor
open Go Go.ChangeShapes Go.WideShapes
theorem of32 {a : Int} (h0 : 0 ≤ a) (h1 : a < 4294967296) : (BitVec.ofInt 32 a).toNat = a.toNat := by
  rw [BitVec.toNat_ofInt]; omega
theorem or32_add {a b : Int} (n : Nat) (h0 : 0 ≤ a) (hb : 0 ≤ b) (hb2 : b < 2 ^ n) (hab : a * 2 ^ n + b < 4294967296) : ibits .or .u32 (a * 2 ^ n) b = a * 2 ^ n + b := by
  have hp : (0 : Int) < 2 ^ n := Int.pow_pos (by decide)
  have ha : 0 ≤ a * 2 ^ n := Int.mul_nonneg h0 (Int.le_of_lt hp)
  have : ibits .or .u32 (a * 2 ^ n) b = IntKind.u32.wrap ((BitVec.ofInt 32 (a * 2 ^ n) ||| BitVec.ofInt 32 b).toNat : Int) := rfl
  rw [this, BitVec.toNat_or, of32 ha (by omega), of32 hb (by omega)]
  have e1 : (a * 2 ^ n).toNat = a.toNat <<< n := by
    rw [Nat.shiftLeft_eq]
    obtain ⟨m, rfl⟩ := Int.eq_ofNat_of_zero_le h0
    have : ((m : Int) * 2 ^ n).toNat = m * 2 ^ n := by
      have h2 : (m : Int) * 2 ^ n = ((m * 2 ^ n : Nat) : Int) := by push_cast; rfl
      rw [h2, Int.toNat_natCast]
    exact this
  have hlt : b.toNat < 2 ^ n := by
    have : ((2 : Int) ^ n) = ((2 ^ n : Nat) : Int) := by push_cast; rfl
    omega
  rw [e1, ← Nat.shiftLeft_add_eq_or_of_lt hlt, ← e1, w_u32 (by omega) (by omega)]
  omega
theorem ishl32 (x : Int) (m : Nat) (h : m ≤ 32) : ishl .u32 x m = IntKind.u32.wrap (x * 2 ^ m) := by
  rw [ishl, Int.toNat_natCast, show min m IntKind.u32.bits = m from Nat.min_eq_left h]
theorem wd_val (b : List UInt8) (t : Nat) : wd b t = (((b.getD (4 * t) 0).toNat * 256 + (b.getD (4 * t + 1) 0).toNat) * 256 + (b.getD (4 * t + 2) 0).toNat) * 256 + (b.getD (4 * t + 3) 0).toNat := by
  unfold wd
  have h0 := (b.getD (4 * t) 0).toNat_lt
  have h1 := (b.getD (4 * t + 1) 0).toNat_lt
  have h2 := (b.getD (4 * t + 2) 0).toNat_lt
  have h3 := (b.getD (4 * t + 3) 0).toNat_lt
  generalize (b.getD (4 * t) 0).toNat = p0 at *
  generalize (b.getD (4 * t + 1) 0).toNat = p1 at *
  generalize (b.getD (4 * t + 2) 0).toNat = p2 at *
  generalize (b.getD (4 * t + 3) 0).toNat = p3 at *
  have e0 : ishl .u32 (p0 : Int) 24 = (p0 : Int) * 2 ^ 24 := by
    have := ishl32 p0 24 (by decide)
    rw [show ((24 : Nat) : Int) = 24 from rfl, w_u32 (by omega) (by omega)] at this
    exact this
  have e1 : ishl .u32 (p1 : Int) 16 = (p1 : Int) * 2 ^ 16 := by
    have := ishl32 p1 16 (by decide)
    rw [show ((16 : Nat) : Int) = 16 from rfl, w_u32 (by omega) (by omega)] at this
    exact this
  have e2 : ishl .u32 (p2 : Int) 8 = (p2 : Int) * 2 ^ 8 := by
    have := ishl32 p2 8 (by decide)
    rw [show ((8 : Nat) : Int) = 8 from rfl, w_u32 (by omega) (by omega)] at this
    exact this
  rw [e0, e1, e2, or32_add 24 (by omega) (by omega) (by omega) (by omega)]
  rw [show (p0 : Int) * 2 ^ 24 + (p1 : Int) * 2 ^ 16 = ((p0 : Int) * 2 ^ 8 + p1) * 2 ^ 16 by omega, or32_add 16 (by omega) (by omega) (by omega) (by omega)]
  rw [show ((p0 : Int) * 2 ^ 8 + p1) * 2 ^ 16 + (p2 : Int) * 2 ^ 8 = (((p0 : Int) * 2 ^ 8 + p1) * 2 ^ 8 + p2) * 2 ^ 8 by omega, or32_add 8 (by omega) (by omega) (by omega) (by omega)]
  omega
/-- A word, byte by byte. -/
def acc (b : List UInt8) (t : Nat) : Nat → Int
  | 0 => 0
  | i + 1 => ibits .or .u32 (ishl .u32 (acc b t i) 8) (b.getD (4 * t + i) 0).toNat
theorem acc_step (x : Int) (c : UInt8) (h0 : 0 ≤ x) (h1 : x < 16777216) : ibits .or .u32 (ishl .u32 x 8) c.toNat = x * 256 + c.toNat := by
  have hc := c.toNat_lt
  have := ishl32 x 8 (by decide)
  rw [show ((8 : Nat) : Int) = 8 from rfl, w_u32 (by omega) (by omega)] at this
  rw [this, or32_add 8 h0 (by omega) (by omega) (by omega)]; rfl
theorem acc_wd (b : List UInt8) (t : Nat) : acc b t 4 = wd b t := by
  rw [wd_val]
  have h0 := (b.getD (4 * t) 0).toNat_lt
  have h1 := (b.getD (4 * t + 1) 0).toNat_lt
  have h2 := (b.getD (4 * t + 2) 0).toNat_lt
  have h3 := (b.getD (4 * t + 3) 0).toNat_lt
  have a1 : acc b t 1 = (b.getD (4 * t) 0).toNat := by
    rw [acc, acc, acc_step _ _ (by omega) (by omega), Nat.add_zero]; omega
  have a2 : acc b t 2 = (b.getD (4 * t) 0).toNat * 256 + (b.getD (4 * t + 1) 0).toNat := by
    rw [acc, a1, acc_step _ _ (by omega) (by omega)]
  have a3 : acc b t 3 = ((b.getD (4 * t) 0).toNat * 256 + (b.getD (4 * t + 1) 0).toNat) * 256 + (b.getD (4 * t + 2) 0).toNat := by
    rw [acc, a2, acc_step _ _ (by omega) (by omega)]
  rw [acc, a3, acc_step _ _ (by omega) (by omega)]
def p1St (b l : List UInt8) : List (Nat × AV) := [(0, .d (.sl 1 b.length (bD b))), (3, .sl (.own 0) 1 l.length (bD l))]
def p1Re (l : List UInt8) : Rs := [some (.tok l.length)]
def p2St (b Z : List UInt8) (n j : Nat) : List (Nat × AV) := [(3, .sl (.own 0) 1 (Z ++ lenT n j).length (bD (Z ++ lenT n j))), (4, .d (.c (.int .u64 (8 * (n : Int))))), (5, .d (.c (.int .i64 (7 - (j : Int)))))]
def p2Re (Z : List UInt8) (n j : Nat) : Rs := [some (.tok (Z ++ lenT n j).length)]
set_option maxHeartbeats 400000 in
theorem padded_ac (b : List UInt8) (h : b.length ≤ 140737488352000) : AC Tryd.prog noG 46 [.d (.sl 1 b.length (bD b))] [] (fun v r' => v = .d (.sl 1 (padL b b.length).length (bD (padL b b.length))) ∧ r' = []) := by
  refine AC.dat ?_
  refine AC_of_R (N := 37) (res := [.tmp 2]) ty_ok Tryd.call46 Tryd.func46 rfl rfl rfl (Nat.le_of_ble_eq_true rfl) ?_
  refine rn0 ?_
  have hz := zp_len (b ++ [128])
  rw [List.length_append, List.length_singleton] at hz
  refine ⟨⟨by omega, by omega⟩, ⟨by omega, by omega⟩, HC_loopR (p1St b) p1Re (fun l => zp l = zp (b ++ [128])) (fun l => (120 - l.length % 64) % 64) (b ++ [128]) [0] [] rfl ?_ ?_⟩
  · exact ft1 (jn @p1St.eq_1 @p1Re.eq_1)
  · intro l hzl
    refine HC_of_R ty_ok ?_
    have hzz := zp_len l
    rw [hzl] at hzz
    by_cases h56 : l.length % 64 = 56
    · have hi : (l.length : Int) % 64 = 56 := by omega
      have hzl2 : l = zp (b ++ [128]) := by rw [← hzl, zp, if_pos h56]
      refine rn1 (jn @p1St.eq_1 (jn @p1Re.eq_1 @hi)) ?_
      obtain ⟨Z, hZ⟩ : ∃ Z, Z = zp (b ++ [128]) := ⟨_, rfl⟩
      rw [← hZ] at hz hzz
      rw [hzl2, ← hZ]
      have e8 : IntKind.u64.wrap (IntKind.u64.wrap (b.length : Int) * 8) = 8 * (b.length : Int) := by
        rw [w_u64 (n := (b.length : Int)) (by omega) (by omega), w_u64 (by omega) (by omega)]; omega
      refine HC_loopR (p2St b Z b.length) (p2Re Z b.length) (fun j => j ≤ 8) (fun j => 8 - j) 0 [0] [] (by omega) ?_ ?_
      · simp only [FitR, WkLR, get_mk, ↓lk_cons, ↓reduceIte, Nat.reduceEqDiff, List.cons_append, List.nil_append, List.append_nil, List.length_append, List.length_cons, List.length_nil, Nat.zero_add, p2St, p2Re, lenT, List.take_zero]
        refine ⟨?_, (by first | (simp only [wfSt, wfRs, wfL, wfA, wfM, wfL_append, wfL_map_d, Bool.and_true, Bool.and_self, decide_true, Nat.reduceLT, Nat.reduceAdd, List.length_cons, List.length_nil, Nat.zero_add, p2St, p2Re, lenT, List.take_zero]; done) | rfl), ?_, (by first | (simp only [wfSt, wfRs, wfL, wfA, wfM, wfL_append, wfL_map_d, Bool.and_true, Bool.and_self, decide_true, Nat.reduceLT, Nat.reduceAdd, List.length_cons, List.length_nil, Nat.zero_add, p2St, p2Re, lenT, List.take_zero]; done) | rfl), rfl, rfl⟩ <;> (repeat' (first | exact WkFs.data _ | exact trivial | exact WkF.refl _ | exact WkFs.refl _ | exact rfl | exact WkF.top _ | exact WkF.nil rfl rfl | exact WkF.full rfl rfl | exact .inl (WeakA.toD rfl) | exact .inl (WeakA.nilD _) | exact .inl (WeakA.nilFull _) | exact WkFT.one (WkF.refl _) | exact WkFT.one (.inl (WeakA.toD rfl)) | exact WkFT.one (.inl (WeakA.nilD _)) | exact WkFT.one (.inl (WeakA.nilFull _)) | exact WkFT.one (WkF.nil rfl rfl) | exact WkFT.one (WkF.full rfl rfl) | exact .inl (WeakA.nils rfl (by repeat' (first | exact trivial | exact .inl rfl | exact .inr ⟨rfl, _, rfl⟩ | refine ⟨?_, ?_⟩))) | exact WkFT.one (.inl (WeakA.nils rfl (by repeat' (first | exact trivial | exact .inl rfl | exact .inr ⟨rfl, _, rfl⟩ | refine ⟨?_, ?_⟩)))) | refine ⟨_, rfl, ?_⟩ | refine ⟨?_, ?_⟩ | refine WkFT.tup ?_))
        exact .inl (wk_eq (by congr 3; omega))
      · intro j hj
        refine HC_of_R ty_ok ?_
        have hlt : (lenT b.length j).length ≤ 8 := by rw [lenT, List.length_take]; exact Nat.min_le_right _ _
        by_cases h8 : j < 8
        · have hi : (0 : Int) ≤ 7 - (j : Int) := by omega
          have hk := lenK_ref b.length (7 - j) (by omega) (by omega)
          have hw : ((7 - j : Nat) : Int) = 7 - (j : Int) := by omega
          rw [hw] at hk
          refine rn1 (jn @p2St.eq_1 (jn @p2Re.eq_1 (jn @hi @hk))) ?_
          have hln := congrArg List.length (lenT_succ b.length j h8)
          rw [List.length_append, List.length_singleton] at hln
          refine ⟨⟨by omega, by omega⟩, j + 1, by omega, by omega, [0], [], ?_⟩
          have e7 : (7 : Int) - (j : Int) - 1 = 7 - ((j + 1 : Nat) : Int) := by omega
          simp only [FitR, WkLR, get_mk, ↓lk_cons, ↓reduceIte, Nat.reduceEqDiff, List.cons_append, List.nil_append, List.append_nil, List.length_append, List.length_cons, List.length_nil, Nat.zero_add, lenT_succ b.length j h8, hln, e7, ← Nat.add_assoc, List.append_assoc]
          refine ⟨?_, (by first | (simp only [wfSt, wfRs, wfL, wfA, wfM, wfL_append, wfL_map_d, Bool.and_true, Bool.and_self, decide_true, Nat.reduceLT, Nat.reduceAdd, List.length_cons, List.length_nil, Nat.zero_add, lenT_succ b.length j h8, hln, e7, ← Nat.add_assoc, List.append_assoc]; done) | rfl), ?_, (by first | (simp only [wfSt, wfRs, wfL, wfA, wfM, wfL_append, wfL_map_d, Bool.and_true, Bool.and_self, decide_true, Nat.reduceLT, Nat.reduceAdd, List.length_cons, List.length_nil, Nat.zero_add, lenT_succ b.length j h8, hln, e7, ← Nat.add_assoc, List.append_assoc]; done) | rfl), rfl, rfl⟩ <;> (repeat' (first | exact WkFs.data _ | exact trivial | exact WkF.refl _ | exact WkFs.refl _ | exact rfl | exact WkF.top _ | exact WkF.nil rfl rfl | exact WkF.full rfl rfl | exact .inl (WeakA.toD rfl) | exact .inl (WeakA.nilD _) | exact .inl (WeakA.nilFull _) | exact WkFT.one (WkF.refl _) | exact WkFT.one (.inl (WeakA.toD rfl)) | exact WkFT.one (.inl (WeakA.nilD _)) | exact WkFT.one (.inl (WeakA.nilFull _)) | exact WkFT.one (WkF.nil rfl rfl) | exact WkFT.one (WkF.full rfl rfl) | exact .inl (WeakA.nils rfl (by repeat' (first | exact trivial | exact .inl rfl | exact .inr ⟨rfl, _, rfl⟩ | refine ⟨?_, ?_⟩))) | exact WkFT.one (.inl (WeakA.nils rfl (by repeat' (first | exact trivial | exact .inl rfl | exact .inr ⟨rfl, _, rfl⟩ | refine ⟨?_, ?_⟩)))) | refine ⟨_, rfl, ?_⟩ | refine ⟨?_, ?_⟩ | refine WkFT.tup ?_))
        · have hi : ¬ (0 : Int) ≤ 7 - (j : Int) := by omega
          have h8e : j = 8 := by omega
          subst h8e
          have hlB : lenT b.length 8 = lenB b.length := rfl
          refine rn1 (jn @p2St.eq_1 (jn @p2Re.eq_1 (jn @hi @hlB))) ?_
          rw [padL, ← hZ]
          simp
    · have hi : ¬ (l.length : Int) % 64 = 56 := by omega
      refine rn1 (jn @p1St.eq_1 (jn @p1Re.eq_1 @hi)) ?_
      refine ⟨⟨by omega, by omega⟩, l ++ [0], by rw [← hzl, zp.eq_def l, if_neg h56], by simp only [List.length_append, List.length_cons, List.length_nil]; omega, [0], [], ?_⟩
      exact ft0
set_option maxHeartbeats 400000 in
theorem rounds_ac : AC Tryd.prog noG 45 [] [] (fun v r' => v = .d (.agg (wD roundsL)) ∧ r' = []) := by
  refine AC.pure ?_ (by rintro v rfl; rfl)
  refine AC_of_R (N := 2) (res := [.cell 0 76]) ty_ok Tryd.call45 Tryd.func45 rfl rfl rfl (Nat.le_of_ble_eq_true rfl) ?_
  refine rn0 ?_
  rfl
end Go.Proofs.YtjpjnhljmloofaaDoor
