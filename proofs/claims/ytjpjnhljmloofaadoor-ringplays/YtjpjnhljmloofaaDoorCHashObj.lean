import Derived.Test.YtjpjnhljmloofaaDoorCHashSpec
set_option linter.unusedVariables false
set_option linter.unusedSimpArgs false
set_option maxRecDepth 100000
namespace Go.Proofs.YtjpjnhljmloofaaDoor
open Go Go.ChangeShapes Go.WideShapes
def adoSt (i : List Int × List UInt8) : List (Nat × AV) := [(0, .ptr 0 0)]
def adoRe (X : List UInt8) (n : Int) (m : Nat) (i : List Int × List UInt8) : Rs := [some (.obj (wA i.1 ++ [.d (.sl 1 i.2.length (bD i.2)), .d (.c (.int .i64 n)), .d (.c (.bool true))])), some (.tok m), some (.obj (bA X))]
set_option maxHeartbeats 400000 in
theorem addO_ac (s : List Int) (rest X b : List UInt8) (hX : X.take b.length = b) (hb0 : 0 < b.length) (n : Int) (hs : s.length = 8) (hn : 0 ≤ n ∧ n + b.length ≤ 140737488355000) (hr : rest.length + b.length ≤ 140737488355000) :
    AC Tryd.prog noG 41 [.ptr 0 0, .osl 2 0 1 b.length] [some (.obj (hashC s rest n 1)), some (.tok rest.length), some (.obj (bA X))]
      (fun v r' => v = .tup [] ∧ r' = [some (.obj (hashC (blkAll s (rest ++ b)) (tailB (rest ++ b)) (n + b.length) 3)), none, some (.obj (bA X)), some (.tok (tailB (rest ++ b)).length)]) := by
  refine AC.fit ?_
  obtain ⟨q0, q1, q2, q3, q4, q5, q6, q7, rfl⟩ := len8 hs
  refine AC_of_R (N := 65) (res := []) ty_ok Tryd.call41 Tryd.func41 rfl rfl rfl (Nat.le_of_ble_eq_true rfl) ?_
  have hXd : allD ((bA X).take b.length) = some (bD b) := by rw [bA, ← List.map_take, bD_take, hX]; exact allD_map _
  refine rn1 (jn @hashC.eq_1 (jn @wA_cons (jn @wA_nil (jn @hXd @hb0)))) ?_
  refine ⟨⟨by omega, by omega⟩, HC_loopR adoSt (adoRe X (n + b.length) (rest.length + b.length)) (fun i => i.1.length = 8 ∧ i.2.length ≤ rest.length + b.length ∧ blkAll i.1 i.2 = blkAll [q0, q1, q2, q3, q4, q5, q6, q7] (rest ++ b) ∧ tailB i.2 = tailB (rest ++ b)) (fun i => i.2.length) ([q0, q1, q2, q3, q4, q5, q6, q7], rest ++ b) [0, 1, 2] [] ⟨rfl, by simp, rfl, rfl⟩ ?_ ?_⟩
  · exact ft1 (jn @adoSt.eq_1 (jn @adoRe.eq_1 (jn @wA_cons (jn @wA_nil @bA_wf))))
  · intro ⟨s, x⟩ ⟨hs, hx, hb1, hb2⟩
    simp only at hs hx hb1 hb2
    refine HC_of_R ty_ok ?_
    obtain ⟨p0, p1, p2, p3, p4, p5, p6, p7, rfl⟩ := len8 hs
    by_cases h64 : 64 ≤ x.length
    · have hi : (64 : Int) ≤ x.length := by omega
      refine rn1 (jn @adoSt.eq_1 (jn @adoRe.eq_1 (jn @wA_cons (jn @wA_nil @hi)))) ?_
      refine HC_plan [] ty_ok mix (by kernel_rfl) ?_
      refine rn0 ?_
      refine HO_pureA ty_ok (block_ac [p0, p1, p2, p3, p4, p5, p6, p7] x rfl h64 (by omega)) ?_
      have hbl := blk_len [p0, p1, p2, p3, p4, p5, p6, p7] x rfl
      have hbb : blkAll (blk [p0, p1, p2, p3, p4, p5, p6, p7] x) (x.drop 64) = blkAll [q0, q1, q2, q3, q4, q5, q6, q7] (rest ++ b) := by rw [← hb1, blkAll.eq_def [p0, p1, p2, p3, p4, p5, p6, p7] x, if_pos h64]
      have htt : tailB (x.drop 64) = tailB (rest ++ b) := by rw [← hb2, tailB.eq_def x, if_pos h64]
      generalize blk [p0, p1, p2, p3, p4, p5, p6, p7] x = s2 at *
      obtain ⟨o0, o1, o2, o3, o4, o5, o6, o7, rfl⟩ := len8 hbl
      have hwd : wD [o0, o1, o2, o3, o4, o5, o6, o7] = [.c (.int .u32 o0), .c (.int .u32 o1), .c (.int .u32 o2), .c (.int .u32 o3), .c (.int .u32 o4), .c (.int .u32 o5), .c (.int .u32 o6), .c (.int .u32 o7)] := rfl
      refine rn1 (jn @hwd @hi) ?_
      refine ⟨([o0, o1, o2, o3, o4, o5, o6, o7], x.drop 64), ⟨rfl, by simp only [List.length_drop]; omega, hbb, htt⟩, by simp only [List.length_drop]; omega, [0, 1, 2], [], ?_⟩
      exact ft1 (jn @wA_cons (jn @wA_nil (jn @bA_wf @List.length_drop.{0})))
    · have hi : ¬ (64 : Int) ≤ x.length := by omega
      refine rn1 (jn @adoSt.eq_1 (jn @adoRe.eq_1 (jn @wA_cons (jn @wA_nil @hi)))) ?_
      rw [blkAll.eq_def, if_neg h64] at hb1
      rw [tailB.eq_def, if_neg h64] at hb2
      rw [← hb1, ← hb2]
      refine ⟨⟨by omega, by omega⟩, ?_⟩
      exact fv1 [0,1,2,3] [] (jn @bA_wf @wA_wf)
theorem bA_get (l : List UInt8) (o : Nat) (h : o < l.length) : (bA l)[o]? = some (.d (.c (.int .u8 ((l.getD o 0).toNat : Int)))) := by
  rw [bA, bD, List.getElem?_map, List.getElem?_map, List.getElem?_eq_getElem h, List.getD_eq_getElem?_getD, List.getElem?_eq_getElem h]; rfl
theorem rep_bA : ∀ k : Nat, repA [AV.d (.c (.int .u8 0))] k = bA (List.replicate k 0)
  | 0 => rfl
  | k + 1 => by rw [repA, rep_bA k, List.replicate_succ]; rfl
theorem hAddO_ac (x X b : List UInt8) (hX : X.take b.length = b) (hb0 : 0 < b.length) (h : x.length + b.length ≤ 140737488355000) : AC Tryd.prog noG 41 [.ptr 0 0, .osl 2 0 1 b.length] (hRs x ++ [some (Res.obj (bA X))])
    (fun v r' => v = .tup [] ∧ r' = [some (.obj (hObj (x ++ b) 3)), none, some (.obj (bA X)), some (.tok (tailB (x ++ b)).length)]) := by
  have hl := tailB_len x
  refine (addO_ac (blkAll firstL x) (tailB x) X b hX hb0 x.length (blkAll_len _ _ rfl) (by omega) (by omega)).mono fun v r' ⟨h1, h2⟩ => ⟨h1, ?_⟩
  rw [h2, hObj, blkAll_app, tailB_app, List.length_append]; rfl
theorem ren_bA (g : Nat → Nat) (l : List UInt8) : renL g (bA l) = bA l := renL_map_d g _
theorem hRsO_wf (x X : List UInt8) : wfRs (hRs x ++ [some (Res.obj (bA X))]).length (hRs x ++ [some (Res.obj (bA X))]) = true := by
  show (wfL 3 (hObj x 1) && (wfL 3 (bA X) && true)) = true
  rw [wf_hObj _ _ _ (by decide), bA_wf]; rfl
theorem hRsO_hand (x X : List UInt8) (rc : Rs) (i j k : Nat) (hi : rc[i]? = some (some (.obj (hObj x j)))) (hj : rc[j]? = some (some (.tok (tailB x).length))) (hk : rc[k]? = some (some (.obj (bA X)))) : HandOK (nm [i, j, k] rc.length) rc (hRs x ++ [some (Res.obj (bA X))]) [i, j, k] := by
  refine ⟨fun y h => ?_, fun y h => ?_, fun y h => ?_, trivial⟩
  · injection h with h; subst h
    rw [hi, renRes, ren_hObj]; rfl
  · injection h with h; subst h
    rw [hj]; rfl
  · injection h with h; subst h
    rw [hk, renRes, ren_bA]
end Go.Proofs.YtjpjnhljmloofaaDoor
