import Derived.Test.YtjpjnhljmloofaaDoorCBlock
set_option linter.unusedVariables false
set_option linter.unusedSimpArgs false
set_option maxRecDepth 100000
namespace Go.Proofs.YtjpjnhljmloofaaDoor
open Go Go.ChangeShapes Go.WideShapes
def blkAll (s : List Int) (b : List UInt8) : List Int := if 64 ≤ b.length then blkAll (blk s b) (b.drop 64) else s
termination_by b.length
decreasing_by simp only [List.length_drop]; omega
def tailB (b : List UInt8) : List UInt8 := if 64 ≤ b.length then tailB (b.drop 64) else b
termination_by b.length
decreasing_by simp only [List.length_drop]; omega
def hashC (s : List Int) (rest : List UInt8) (n : Int) (k : Nat) : List AV := wA s ++ [.sl (.own k) 1 rest.length (bD rest), .d (.c (.int .i64 n)), .d (.c (.bool true))]
set_option maxHeartbeats 400000 in
theorem new_ac : AC Tryd.prog noG 40 [] [] (fun v r' => v = .ptr 0 0 ∧ r' = [some (.obj (hashC firstL [] 0 1)), some (.tok 0)]) := by
  refine AC.fit ?_
  refine AC_of_R (N := 4) (res := [.tmp 0]) ty_ok Tryd.call40 Tryd.func40 rfl rfl rfl (Nat.le_of_ble_eq_true rfl) ?_
  have h0 : (noG 0).take 8 = [.c (.int .u32 1779033703), .c (.int .u32 3144134277), .c (.int .u32 1013904242), .c (.int .u32 2773480762), .c (.int .u32 1359893119), .c (.int .u32 2600822924), .c (.int .u32 528734635), .c (.int .u32 1541459225)] := rfl
  have h1 : (noG 0).length = 8 := rfl
  refine rn1 (jn @h0 @h1) ?_
  exact fv0 [0,1] [0]
theorem adds_len8 (ρ s : List Int) : ∀ i, (adds ρ s i).length = ρ.length := adds_len ρ s
theorem blk_len (s : List Int) (b : List UInt8) (h : s.length = 8) : (blk s b).length = 8 := by rw [blk, adds_len, rnds_len _ _ h]
def addSt (b : List UInt8) (i : List Int × List UInt8) : List (Nat × AV) := [(0, .ptr 0 0), (1, .d (.sl 1 b.length (bD b)))]
def addRe (n : Int) (m : Nat) (i : List Int × List UInt8) : Rs := [some (.obj (wA i.1 ++ [.d (.sl 1 i.2.length (bD i.2)), .d (.c (.int .i64 n)), .d (.c (.bool true))])), some (.tok m)]
set_option maxHeartbeats 400000 in
theorem add_ac (s : List Int) (rest b : List UInt8) (n : Int) (hs : s.length = 8) (hn : 0 ≤ n ∧ n + b.length ≤ 140737488355000) (hr : rest.length + b.length ≤ 140737488355000) :
    AC Tryd.prog noG 41 [.ptr 0 0, .d (.sl 1 b.length (bD b))] [some (.obj (hashC s rest n 1)), some (.tok rest.length)]
      (fun v r' => v = .tup [] ∧ r' = [some (.obj (hashC (blkAll s (rest ++ b)) (tailB (rest ++ b)) (n + b.length) 2)), none, some (.tok (tailB (rest ++ b)).length)]) := by
  refine AC.fit ?_
  obtain ⟨q0, q1, q2, q3, q4, q5, q6, q7, rfl⟩ := len8 hs
  refine AC_of_R (N := 65) (res := []) ty_ok Tryd.call41 Tryd.func41 rfl rfl rfl (Nat.le_of_ble_eq_true rfl) ?_
  refine rn1 (jn @hashC.eq_1 (jn @wA_cons @wA_nil)) ?_
  refine ⟨⟨by omega, by omega⟩, HC_loopR (addSt b) (addRe (n + b.length) (rest.length + b.length)) (fun i => i.1.length = 8 ∧ i.2.length ≤ rest.length + b.length ∧ blkAll i.1 i.2 = blkAll [q0, q1, q2, q3, q4, q5, q6, q7] (rest ++ b) ∧ tailB i.2 = tailB (rest ++ b)) (fun i => i.2.length) ([q0, q1, q2, q3, q4, q5, q6, q7], rest ++ b) [0, 1] [] ⟨rfl, by simp, rfl, rfl⟩ ?_ ?_⟩
  · simp only [FitR, WkLR, get_mk, ↓lk_cons, ↓reduceIte, Nat.reduceEqDiff, addSt, addRe, wA_cons, wA_nil, List.cons_append, List.nil_append, List.length_append]
    refine ⟨?_, rfl, ?_, rfl, rfl, rfl⟩ <;> (repeat' (first | exact WkFs.data _ | exact trivial | exact WkF.refl _ | exact WkFs.refl _ | exact rfl | exact WkF.top _ | exact WkF.nil rfl rfl | exact WkF.full rfl rfl | exact .inl (WeakA.toD rfl) | exact .inl (WeakA.nilD _) | exact .inl (WeakA.nilFull _) | exact WkFT.one (WkF.refl _) | exact WkFT.one (.inl (WeakA.toD rfl)) | exact WkFT.one (.inl (WeakA.nilD _)) | exact WkFT.one (.inl (WeakA.nilFull _)) | exact WkFT.one (WkF.nil rfl rfl) | exact WkFT.one (WkF.full rfl rfl) | exact .inl (WeakA.nils rfl (by repeat' (first | exact trivial | exact .inl rfl | exact .inr ⟨rfl, _, rfl⟩ | refine ⟨?_, ?_⟩))) | exact WkFT.one (.inl (WeakA.nils rfl (by repeat' (first | exact trivial | exact .inl rfl | exact .inr ⟨rfl, _, rfl⟩ | refine ⟨?_, ?_⟩)))) | refine ⟨_, rfl, ?_⟩ | refine ⟨?_, ?_⟩ | refine WkFT.tup ?_))
  · intro ⟨s, x⟩ ⟨hs, hx, hb1, hb2⟩
    simp only at hs hx hb1 hb2
    refine HC_of_R ty_ok ?_
    obtain ⟨p0, p1, p2, p3, p4, p5, p6, p7, rfl⟩ := len8 hs
    by_cases h64 : 64 ≤ x.length
    · have hi : (64 : Int) ≤ x.length := by omega
      refine rn1 (jn @addSt.eq_1 (jn @addRe.eq_1 (jn @wA_cons (jn @wA_nil @hi)))) ?_
      refine HC_plan [] ty_ok mix (by kernel_rfl) ?_
      refine rn0 ?_
      refine HO_pureA ty_ok (block_ac [p0, p1, p2, p3, p4, p5, p6, p7] x rfl h64 (by omega)) ?_
      have hbl := blk_len [p0, p1, p2, p3, p4, p5, p6, p7] x rfl
      have hbb : blkAll (blk [p0, p1, p2, p3, p4, p5, p6, p7] x) (x.drop 64) = blkAll [q0, q1, q2, q3, q4, q5, q6, q7] (rest ++ b) := by rw [← hb1, blkAll.eq_def [p0, p1, p2, p3, p4, p5, p6, p7] x, if_pos h64]
      have htt : tailB (x.drop 64) = tailB (rest ++ b) := by rw [← hb2, tailB.eq_def x, if_pos h64]
      generalize blk [p0, p1, p2, p3, p4, p5, p6, p7] x = s2 at *
      obtain ⟨o0, o1, o2, o3, o4, o5, o6, o7, rfl⟩ := len8 hbl
      have hwd : wD [o0, o1, o2, o3, o4, o5, o6, o7] = [.c (.int .u32 o0), .c (.int .u32 o1), .c (.int .u32 o2), .c (.int .u32 o3), .c (.int .u32 o4), .c (.int .u32 o5), .c (.int .u32 o6), .c (.int .u32 o7)] := rfl
      refine rn1 (jn @hwd @hi) ?_
      refine ⟨([o0, o1, o2, o3, o4, o5, o6, o7], x.drop 64), ⟨rfl, by simp only [List.length_drop]; omega, hbb, htt⟩, by simp only [List.length_drop]; omega, [0, 1], [], ?_⟩
      simp only [FitR, WkLR, get_mk, ↓lk_cons, ↓reduceIte, Nat.reduceEqDiff, wA_cons, wA_nil, List.cons_append, List.nil_append, List.length_drop]
      refine ⟨?_, rfl, ?_, rfl, rfl, rfl⟩ <;> (repeat' (first | exact WkFs.data _ | exact trivial | exact WkF.refl _ | exact WkFs.refl _ | exact rfl | exact WkF.top _ | exact WkF.nil rfl rfl | exact WkF.full rfl rfl | exact .inl (WeakA.toD rfl) | exact .inl (WeakA.nilD _) | exact .inl (WeakA.nilFull _) | exact WkFT.one (WkF.refl _) | exact WkFT.one (.inl (WeakA.toD rfl)) | exact WkFT.one (.inl (WeakA.nilD _)) | exact WkFT.one (.inl (WeakA.nilFull _)) | exact WkFT.one (WkF.nil rfl rfl) | exact WkFT.one (WkF.full rfl rfl) | exact .inl (WeakA.nils rfl (by repeat' (first | exact trivial | exact .inl rfl | exact .inr ⟨rfl, _, rfl⟩ | refine ⟨?_, ?_⟩))) | exact WkFT.one (.inl (WeakA.nils rfl (by repeat' (first | exact trivial | exact .inl rfl | exact .inr ⟨rfl, _, rfl⟩ | refine ⟨?_, ?_⟩)))) | refine ⟨_, rfl, ?_⟩ | refine ⟨?_, ?_⟩ | refine WkFT.tup ?_))
    · have hi : ¬ (64 : Int) ≤ x.length := by omega
      refine rn1 (jn @addSt.eq_1 (jn @addRe.eq_1 (jn @wA_cons (jn @wA_nil @hi)))) ?_
      rw [blkAll.eq_def, if_neg h64] at hb1
      rw [tailB.eq_def, if_neg h64] at hb2
      rw [← hb1, ← hb2]
      refine ⟨⟨by omega, by omega⟩, ?_⟩
      exact fv0 [0,1,2] []
end Go.Proofs.YtjpjnhljmloofaaDoor
