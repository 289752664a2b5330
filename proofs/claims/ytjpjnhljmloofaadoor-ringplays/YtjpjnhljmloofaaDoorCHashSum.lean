import Derived.Test.YtjpjnhljmloofaaDoorCHashOps
set_option linter.unusedVariables false
set_option linter.unusedSimpArgs false
set_option maxRecDepth 100000
namespace Go.Proofs.YtjpjnhljmloofaaDoor
open Go Go.ChangeShapes Go.WideShapes
def zp (l : List UInt8) : List UInt8 := if l.length % 64 = 56 then l else zp (l ++ [0])
termination_by (120 - l.length % 64) % 64
decreasing_by simp only [List.length_append, List.length_cons, List.length_nil]; omega
def b8 (x : Int) : UInt8 := UInt8.ofNat (x % 256).toNat
theorem b8_wrap (x : Int) : IntKind.u8.wrap x = ((b8 x).toNat : Int) := by
  rw [wrap_u8, b8, u8_toNat]
  omega
def lenK (n k : Nat) : UInt8 := b8 (8 * (n : Int) / 256 ^ k)
def lenB (n : Nat) : List UInt8 := [lenK n 7, lenK n 6, lenK n 5, lenK n 4, lenK n 3, lenK n 2, lenK n 1, lenK n 0]
def lenT (n : Nat) (j : Nat) : List UInt8 := (lenB n).take j
theorem lenT_succ (n j : Nat) (h : j < 8) : lenT n (j + 1) = lenT n j ++ [lenK n (7 - j)] := by
  obtain rfl | rfl | rfl | rfl | rfl | rfl | rfl | rfl : j = 0 ∨ j = 1 ∨ j = 2 ∨ j = 3 ∨ j = 4 ∨ j = 5 ∨ j = 6 ∨ j = 7 := by omega
  all_goals rfl
theorem ishr_div (k : IntKind) (x : Int) (m : Nat) (hx : 0 ≤ x) (hm : m ≤ k.bits) : ishr k x m = x / 2 ^ m := by
  rw [ishr, Int.toNat_natCast, Nat.min_eq_left hm, Int.fdiv_eq_ediv_of_nonneg _ (Int.le_of_lt (Int.pow_pos (by decide)))]
theorem pow256 (k : Nat) : (2 : Int) ^ (8 * k) = 256 ^ k := by
  rw [Int.pow_mul]; rfl
theorem lenK_prog (n j : Nat) (h : j < 8) (hn : n ≤ 140737488355000) : IntKind.u8.wrap (ishr .u64 (ishl .u64 (n : Int) 3) (8 * (7 - (j : Int)))) = ((lenK n (7 - j)).toNat : Int) := by
  have e1 : ishl .u64 (n : Int) 3 = 8 * (n : Int) := by
    show IntKind.u64.wrap ((n : Int) * 8) = _
    rw [w_u64 (by omega) (by omega)]; omega
  have e2 : (8 : Int) * (7 - (j : Int)) = ((8 * (7 - j) : Nat) : Int) := by omega
  rw [e1, e2, ishr_div _ _ _ (by omega) (by simp only [IntKind.bits]; omega), pow256, b8_wrap, lenK]
theorem lenK_ref (n k : Nat) (h : k < 8) (hn : n ≤ 140737488355000) : IntKind.u8.wrap (ishr .u64 (8 * (n : Int)) (8 * (k : Int))) = ((lenK n k).toNat : Int) := by
  have e2 : (8 : Int) * (k : Int) = ((8 * k : Nat) : Int) := by omega
  rw [e2, ishr_div _ _ _ (by omega) (by simp only [IntKind.bits]; omega), pow256, b8_wrap, lenK]
def padL (l : List UInt8) (n : Nat) : List UInt8 := zp (l ++ [128]) ++ lenB n
def wB (w : Int) : List UInt8 := [b8 (ishr .u32 w 24), b8 (ishr .u32 w 16), b8 (ishr .u32 w 8), b8 w]
def dig (s : List Int) : List UInt8 := s.flatMap wB
theorem zp_eq (l : List UInt8) : (zp l).length = l.length + (120 - l.length % 64) % 64 := by
  rw [zp]
  split
  · rename_i h; omega
  · rename_i h
    have := zp_eq (l ++ [0])
    rw [this]
    simp only [List.length_append, List.length_cons, List.length_nil]
    omega
termination_by (120 - l.length % 64) % 64
decreasing_by simp only [List.length_append, List.length_cons, List.length_nil]; omega
theorem zp_len (l : List UInt8) : (zp l).length % 64 = 56 ∧ l.length ≤ (zp l).length ∧ (zp l).length ≤ l.length + 63 := by
  have := zp_eq l; omega
def bA (l : List UInt8) : List AV := (bD l).map .d
theorem bA_len (l : List UInt8) : (bA l).length = l.length := by simp [bA, bD]
theorem bA_wf (n : Nat) (l : List UInt8) : wfL n (bA l) = true := wfL_map_d n _
theorem bA_set (l : List UInt8) (k : Nat) (b : UInt8) : (bA l).set k (.d (.c (.int .u8 (b.toNat : Int)))) = bA (l.set k b) := by
  rw [bA, bA, bD, bD, List.map_set, List.map_set]
theorem bA_allD (l : List UInt8) : allD (bA l) = some (bD l) := allD_map _
theorem splice_all (l cs : List AV) (h : l.length = cs.length) (h2 : cs.length ≠ 1) : splice l 0 cs = cs := by
  match cs, h2 with
  | [], _ => rw [List.eq_nil_of_length_eq_zero h]; rfl
  | x :: y :: cs, _ => rw [splice_two, List.take_zero, List.nil_append, Nat.zero_add, ← h, List.drop_length, List.append_nil]
theorem wD_get (l : List Int) (o : Nat) (h : o < l.length) : (wD l)[o]? = some (.c (.int .u32 (l.getD o 0))) := by
  rw [wD, List.getElem?_map, List.getElem?_eq_getElem h, List.getD_eq_getElem?_getD, List.getElem?_eq_getElem h]; rfl
theorem wD_len (l : List Int) : (wD l).length = l.length := by simp [wD]
theorem wB_len (w : Int) : (wB w).length = 4 := rfl
theorem dig_len : ∀ s : List Int, (dig s).length = 4 * s.length
  | [] => rfl
  | a :: s => by
    have := dig_len s
    rw [dig] at this ⊢
    rw [List.flatMap_cons, List.length_append, this, wB_len, List.length_cons]; omega
def dgl (s : List Int) (i : Nat) : List UInt8 := dig (s.take i) ++ List.replicate (32 - 4 * i) 0
theorem dgl_len (s : List Int) (i : Nat) (h : i ≤ 8) (hs : s.length = 8) : (dgl s i).length = 32 := by
  rw [dgl, List.length_append, dig_len, List.length_take, List.length_replicate, hs]; omega
theorem dgl_step (s : List Int) (i : Nat) (h : i < 8) (hs : s.length = 8) : ((((dgl s i).set (4 * i) (b8 (ishr .u32 (s.getD i 0) 24))).set (4 * i + 1) (b8 (ishr .u32 (s.getD i 0) 16))).set (4 * i + 2) (b8 (ishr .u32 (s.getD i 0) 8))).set (4 * i + 3) (b8 (s.getD i 0)) = dgl s (i + 1) := by
  obtain ⟨q0, q1, q2, q3, q4, q5, q6, q7, rfl⟩ := len8 hs
  obtain rfl | rfl | rfl | rfl | rfl | rfl | rfl | rfl : i = 0 ∨ i = 1 ∨ i = 2 ∨ i = 3 ∨ i = 4 ∨ i = 5 ∨ i = 6 ∨ i = 7 := by omega
  all_goals rfl
theorem dgl_all (s : List Int) (hs : s.length = 8) : dgl s 8 = dig s := by
  rw [dgl, List.take_of_length_le (by omega)]; simp
theorem blkAll_len (s : List Int) (b : List UInt8) (hs : s.length = 8) : (blkAll s b).length = 8 := by
  rw [blkAll]
  split
  · exact blkAll_len _ _ (blk_len s b hs)
  · exact hs
termination_by b.length
decreasing_by simp only [List.length_drop]; omega
def z32 : List UInt8 := List.replicate 32 0
/-- A hash's struct, as data. -/
def hD (s : List Int) (rest : List UInt8) (n : Int) : List D := wD s ++ [.sl 1 rest.length (bD rest), .c (.int .i64 n), .c (.bool true)]
def s1St (H : List D) (l : List UInt8) : List (Nat × AV) := [(0, .el H), (2, .ptr 0 0), (3, .ptr 1 0), (4, .sl (.own 2) 1 l.length (bD l))]
def s1Re (l : List UInt8) : Rs := [some (.obj (bA z32)), some (.obj (bA z32)), some (.tok l.length)]
def s2St (H : List D) (Z : List UInt8) (n j : Nat) : List (Nat × AV) := [(0, .el H), (2, .ptr 0 0), (3, .ptr 1 0), (4, .sl (.own 2) 1 (Z ++ lenT n j).length (bD (Z ++ lenT n j))), (5, .d (.c (.int .i64 (7 - (j : Int)))))]
def s2Re (n : Nat) (Z : List UInt8) (j : Nat) : Rs := [some (.obj (bA z32)), some (.obj (bA z32)), some (.tok (Z ++ lenT n j).length)]
def s3St (H : List D) (i : List Int × List UInt8) : List (Nat × AV) := [(0, .el H), (2, .ptr 0 0), (3, .ptr 1 0), (4, .d (.sl 1 i.2.length (bD i.2))), (6, .ptr 3 0)]
def s3Re (m : Nat) (i : List Int × List UInt8) : Rs := [some (.obj (bA z32)), some (.obj (bA z32)), some (.tok m), some (.obj (wA i.1))]
def s4St (S : List Int) (i : Nat) : List (Nat × AV) := [(2, .ptr 0 0), (3, .ptr 1 0), (63, .d (.agg (wD S))), (64, .d (.c (.int .i64 i)))]
def s4Re (S : List Int) (i : Nat) : Rs := [some (.obj (bA z32)), some (.obj (bA (dgl S i))), none, none]
set_option maxHeartbeats 400000 in
theorem sum_ac (s : List Int) (rest : List UInt8) (n : Nat) (hs : s.length = 8) (hn : n ≤ 140737488355000) (hr : rest.length ≤ 64) :
    AC Tryd.prog noG 42 [.el (hD s rest n)] [] (fun v r' => v = .d (.agg (bD (dig (blkAll s (padL rest n))))) ∧ r' = []) := by
  refine AC.pure ?_ (by rintro v rfl; rfl)
  obtain ⟨q0, q1, q2, q3, q4, q5, q6, q7, rfl⟩ := len8 hs
  refine AC_of_R (N := 96) (res := [.cell 2 26]) ty_ok Tryd.call42 Tryd.func42 rfl rfl rfl (Nat.le_of_ble_eq_true rfl) ?_
  refine rn1 (jn @hD.eq_1 (jn @wD_cons (jn @wD_nil (jn @wA_cons @wA_nil)))) ?_
  have hz := zp_len (rest ++ [128])
  rw [List.length_append, List.length_singleton] at hz
  refine ⟨⟨by omega, by omega⟩, ⟨by omega, by omega⟩, HC_loopR (s1St (hD [q0, q1, q2, q3, q4, q5, q6, q7] rest n)) s1Re (fun l => zp l = zp (rest ++ [128])) (fun l => (120 - l.length % 64) % 64) (rest ++ [128]) [0, 1, 2] [] rfl ?_ ?_⟩
  · exact ft1 (jn @s1St.eq_1 (jn @s1Re.eq_1 (jn @hD.eq_1 (jn @wA_cons @wA_nil))))
  · intro l hzl
    refine HC_of_R ty_ok ?_
    have hzz := zp_len l
    rw [hzl] at hzz
    by_cases h56 : l.length % 64 = 56
    · have hi : (l.length : Int) % 64 = 56 := by omega
      have hzl2 : l = zp (rest ++ [128]) := by rw [← hzl, zp, if_pos h56]
      refine rn1 (jn @s1St.eq_1 (jn @s1Re.eq_1 (jn @hD.eq_1 (jn @wD_cons (jn @wD_nil (jn @wA_cons (jn @wA_nil @hi))))))) ?_
      obtain ⟨Z, hZ⟩ : ∃ Z, Z = zp (rest ++ [128]) := ⟨_, rfl⟩
      rw [← hZ] at hz hzz
      rw [hzl2, ← hZ]
      refine HC_loopR (s2St (hD [q0, q1, q2, q3, q4, q5, q6, q7] rest n) Z n) (s2Re n Z) (fun j => j ≤ 8) (fun j => 8 - j) 0 [0, 1, 2] [] (by omega) ?_ ?_
      · exact ft1 (jn @s2St.eq_1 (jn @s2Re.eq_1 (jn @hD.eq_1 (jn @wA_cons (jn @wA_nil (jn @lenT.eq_1 @List.take_zero.{0}))))))
      · intro j hj
        refine HC_of_R ty_ok ?_
        have hlt : (lenT n j).length ≤ 8 := by rw [lenT, List.length_take]; exact Nat.min_le_right _ _
        by_cases h8 : j < 8
        · have hi : (0 : Int) ≤ 7 - (j : Int) := by omega
          have hk := lenK_prog n j h8 hn
          refine rn1 (jn @s2St.eq_1 (jn @s2Re.eq_1 (jn @hD.eq_1 (jn @wD_cons (jn @wD_nil (jn @wA_cons (jn @wA_nil (jn @hi @hk)))))))) ?_
          have hln := congrArg List.length (lenT_succ n j h8)
          rw [List.length_append, List.length_singleton] at hln
          refine ⟨⟨by omega, by omega⟩, j + 1, by omega, by omega, [0, 1, 2], [], ?_⟩
          have e7 : (7 : Int) - (j : Int) - 1 = 7 - ((j + 1 : Nat) : Int) := by omega
          simp only [FitR, WkLR, get_mk, ↓lk_cons, ↓reduceIte, Nat.reduceEqDiff, List.cons_append, List.nil_append, List.append_nil, List.length_append, List.length_cons, List.length_nil, Nat.zero_add, lenT_succ n j h8, hln, e7, ← Nat.add_assoc, List.append_assoc]
          refine ⟨?_, (by first | (simp only [wfSt, wfRs, wfL, wfA, wfM, wfL_append, wfL_map_d, Bool.and_true, Bool.and_self, decide_true, Nat.reduceLT, Nat.reduceAdd, List.length_cons, List.length_nil, Nat.zero_add, lenT_succ n j h8, hln, e7, ← Nat.add_assoc, List.append_assoc]; done) | rfl), ?_, (by first | (simp only [wfSt, wfRs, wfL, wfA, wfM, wfL_append, wfL_map_d, Bool.and_true, Bool.and_self, decide_true, Nat.reduceLT, Nat.reduceAdd, List.length_cons, List.length_nil, Nat.zero_add, lenT_succ n j h8, hln, e7, ← Nat.add_assoc, List.append_assoc]; done) | rfl), rfl, rfl⟩ <;> (repeat' (first | exact WkFs.data _ | exact trivial | exact WkF.refl _ | exact WkFs.refl _ | exact rfl | exact WkF.top _ | exact WkF.nil rfl rfl | exact WkF.full rfl rfl | exact .inl (WeakA.toD rfl) | exact .inl (WeakA.nilD _) | exact .inl (WeakA.nilFull _) | exact WkFT.one (WkF.refl _) | exact WkFT.one (.inl (WeakA.toD rfl)) | exact WkFT.one (.inl (WeakA.nilD _)) | exact WkFT.one (.inl (WeakA.nilFull _)) | exact WkFT.one (WkF.nil rfl rfl) | exact WkFT.one (WkF.full rfl rfl) | exact .inl (WeakA.nils rfl (by repeat' (first | exact trivial | exact .inl rfl | exact .inr ⟨rfl, _, rfl⟩ | refine ⟨?_, ?_⟩))) | exact WkFT.one (.inl (WeakA.nils rfl (by repeat' (first | exact trivial | exact .inl rfl | exact .inr ⟨rfl, _, rfl⟩ | refine ⟨?_, ?_⟩)))) | refine ⟨_, rfl, ?_⟩ | refine ⟨?_, ?_⟩ | refine WkFT.tup ?_))
        · have hi : ¬ (0 : Int) ≤ 7 - (j : Int) := by omega
          have h8e : j = 8 := by omega
          subst h8e
          refine rn1 (jn @s2St.eq_1 (jn @s2Re.eq_1 (jn @hD.eq_1 (jn @wD_cons (jn @wD_nil (jn @wA_cons (jn @wA_nil @hi))))))) ?_
          obtain ⟨P, hP⟩ : ∃ P, P = Z ++ lenT n 8 := ⟨_, rfl⟩
          have hPp : P = padL rest n := by rw [hP, hZ]; rfl
          have hlB : (lenT n 8).length = 8 := rfl
          have hPl : P.length = Z.length + 8 := by rw [hP, List.length_append, hlB]
          have hPe : Z.length + (lenT n 8).length = P.length := by omega
          rw [← hP, hPe, ← hPp]
          refine HC_loopR (s3St (hD [q0, q1, q2, q3, q4, q5, q6, q7] rest n)) (s3Re P.length) (fun i => i.1.length = 8 ∧ i.2.length % 64 = 0 ∧ i.2.length ≤ P.length ∧ blkAll i.1 i.2 = blkAll [q0, q1, q2, q3, q4, q5, q6, q7] P) (fun i => i.2.length) ([q0, q1, q2, q3, q4, q5, q6, q7], P) [0, 1, 2, 3] [] ⟨rfl, by simp only; omega, Nat.le_refl _, rfl⟩ ?_ ?_
          · exact ft1 (jn @s3St.eq_1 (jn @s3Re.eq_1 (jn @hD.eq_1 (jn @wA_cons @wA_nil))))
          · intro ⟨s, x⟩ ⟨hs, hx64, hxP, hbx⟩
            simp only at hs hx64 hxP hbx
            refine HC_of_R ty_ok ?_
            by_cases hx0 : 0 < x.length
            · have hi : (0 : Int) < x.length := by omega
              have h64i : (64 : Int) ≤ x.length := by omega
              obtain ⟨p0, p1, p2, p3, p4, p5, p6, p7, rfl⟩ := len8 hs
              refine rn1 (jn @s3St.eq_1 (jn @s3Re.eq_1 (jn @hD.eq_1 (jn @wD_cons (jn @wD_nil (jn @wA_cons (jn @wA_nil @hi))))))) ?_
              refine HO_pureA ty_ok (block_ac [p0, p1, p2, p3, p4, p5, p6, p7] x rfl (by omega) (by omega)) ?_
              have hbl := blk_len [p0, p1, p2, p3, p4, p5, p6, p7] x rfl
              rw [blkAll.eq_def, if_pos (by omega)] at hbx
              generalize blk [p0, p1, p2, p3, p4, p5, p6, p7] x = s2 at *
              obtain ⟨o0, o1, o2, o3, o4, o5, o6, o7, rfl⟩ := len8 hbl
              have hwd : wD [o0, o1, o2, o3, o4, o5, o6, o7] = [.c (.int .u32 o0), .c (.int .u32 o1), .c (.int .u32 o2), .c (.int .u32 o3), .c (.int .u32 o4), .c (.int .u32 o5), .c (.int .u32 o6), .c (.int .u32 o7)] := rfl
              refine rn1 (jn @hwd @h64i) ?_
              refine ⟨([o0, o1, o2, o3, o4, o5, o6, o7], x.drop 64), ⟨rfl, by simp only [List.length_drop]; omega, by simp only [List.length_drop]; omega, hbx⟩, by simp only [List.length_drop]; omega, [0, 1, 2, 3], [], ?_⟩
              exact ft1 (jn @wA_cons (jn @wA_nil @List.length_drop.{0}))
            · have hi : ¬ (0 : Int) < x.length := by omega
              have hS : s = blkAll [q0, q1, q2, q3, q4, q5, q6, q7] P := by rw [← hbx, blkAll, if_neg (by omega)]
              rw [← hS]
              have hws := wA_len s
              have hwt : (wA s).take 8 = wA s := List.take_of_length_le (by omega)
              refine rn1 (jn @s3St.eq_1 (jn @s3Re.eq_1 (jn @hD.eq_1 (jn @wD_cons (jn @wD_nil (jn @wA_cons (jn @wA_nil (jn @hi (jn @hs (jn @hws (jn @hwt @wA_allD))))))))))) ?_
              refine HC_loopR (s4St s) (s4Re s) (fun i => i ≤ 8) (fun i => 8 - i) 0 [0, 1, 2, 3] [] (by omega) ?_ ?_
              · exact ft1 (jn @s4St.eq_1 (jn @s4Re.eq_1 (jn @hD.eq_1 (jn @wA_cons @wA_nil))))
              · intro i hi8
                refine HC_of_R ty_ok ?_
                have hdl := dgl_len s i hi8 hs
                have hbl := bA_len (dgl s i)
                by_cases h8 : i < 8
                · have hi : (i : Int) < 8 := by omega
                  have e0 : (4 * (i : Int)).toNat = 4 * i := by omega
                  have e1 : (4 * (i : Int) + 1).toNat = 4 * i + 1 := by omega
                  have e2 : (4 * (i : Int) + 2).toNat = 4 * i + 2 := by omega
                  have e3 : (4 * (i : Int) + 3).toNat = 4 * i + 3 := by omega
                  have c8 : ((8 : Nat) : Int) = 8 := rfl
                  have c32 : ((32 : Nat) : Int) = 32 := rfl
                  refine rn1 (jn @s4St.eq_1 (jn @s4Re.eq_1 (jn @hD.eq_1 (jn @wD_cons (jn @wD_nil (jn @wA_cons (jn @wA_nil (jn @hi (jn @hdl (jn @hbl (jn @b8_wrap (jn @bA_set (jn @wD_get (jn @hs (jn @e0 (jn @e1 (jn @e2 (jn @e3 (jn @c8 (jn @c32 (jn @List.length_set.{0} (jn @bA_len @splice_one)))))))))))))))))))))) ?_
                  refine ⟨by omega, by omega, by omega, by omega, by omega, by omega, by omega, by omega, by omega, i + 1, by omega, by omega, [0, 1, 2, 3], [], ?_⟩
                  rw [← dgl_step s i h8 hs]
                  exact ft1 @bA.eq_1
                · have h8e : i = 8 := by omega
                  subst h8e
                  have hi : ¬ (8 : Int) < 8 := by omega
                  rw [dgl_all s hs] at hdl hbl
                  have hbt : (bA (dig s)).take 32 = bA (dig s) := List.take_of_length_le (by omega)
                  have hz32 : (bA z32).length = 32 := rfl
                  have hsp := splice_all (bA z32) (bA (dig s)) (by omega) (by omega)
                  have hdm : (bD (dig s)).map AV.d = bA (dig s) := rfl
                  exact rz1 (jn @s4St.eq_1 (jn @s4Re.eq_1 (jn @hD.eq_1 (jn @wD_cons (jn @wD_nil (jn @wA_cons (jn @wA_nil (jn @hi (jn @dgl_all (jn @hs (jn @hdl (jn @hbl (jn @hbt (jn @bA_allD (jn @hz32 (jn @hsp @hdm))))))))))))))))
    · have hi : ¬ (l.length : Int) % 64 = 56 := by omega
      refine rn1 (jn @s1St.eq_1 (jn @s1Re.eq_1 (jn @hD.eq_1 (jn @wD_cons (jn @wD_nil (jn @wA_cons (jn @wA_nil @hi))))))) ?_
      refine ⟨⟨by omega, by omega⟩, l ++ [0], by rw [← hzl, zp.eq_def l, if_neg h56], by simp only [List.length_append, List.length_cons, List.length_nil]; omega, [0, 1, 2], [], ?_⟩
      exact ft0
end Go.Proofs.YtjpjnhljmloofaaDoor
