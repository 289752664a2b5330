import Derived.Test.YtjpjnhljmloofaaDoorCTag
import Derived.Test.YtjpjnhljmloofaaDoorCRefSum
set_option linter.unusedVariables false
set_option linter.unusedSimpArgs false
set_option maxRecDepth 100000
namespace Go.Proofs.YtjpjnhljmloofaaDoor
open Go Go.ChangeShapes Go.WideShapes
def rt1St (j : Nat) (s : ByteArray) (b k : List UInt8) : List (Nat × AV) := [(1, .d (.c (.string s))), (2, .d (.sl 1 b.length (bD b))), (6, .ptr 0 0), (7, .sl (.own j) 1 k.length (bD k))]
def rt1Re1 (k : List UInt8) : Rs := [some (.obj [.d (.c (.int .u8 0)), .d (.c (.int .u8 0)), .d (.c (.int .u8 0)), .d (.c (.int .u8 0)), .d (.c (.int .u8 0)), .d (.c (.int .u8 0)), .d (.c (.int .u8 0)), .d (.c (.int .u8 0)), .d (.c (.int .u8 0)), .d (.c (.int .u8 0)), .d (.c (.int .u8 0)), .d (.c (.int .u8 0)), .d (.c (.int .u8 0)), .d (.c (.int .u8 0)), .d (.c (.int .u8 0)), .d (.c (.int .u8 0)), .d (.c (.int .u8 0)), .d (.c (.int .u8 0)), .d (.c (.int .u8 0)), .d (.c (.int .u8 0)), .d (.c (.int .u8 0)), .d (.c (.int .u8 0)), .d (.c (.int .u8 0)), .d (.c (.int .u8 0)), .d (.c (.int .u8 0)), .d (.c (.int .u8 0)), .d (.c (.int .u8 0)), .d (.c (.int .u8 0)), .d (.c (.int .u8 0)), .d (.c (.int .u8 0)), .d (.c (.int .u8 0)), .d (.c (.int .u8 0))]), none, none, some (.tok k.length)]
def rt1Re2 (k : List UInt8) : Rs := [some (.obj [.d (.c (.int .u8 0)), .d (.c (.int .u8 0)), .d (.c (.int .u8 0)), .d (.c (.int .u8 0)), .d (.c (.int .u8 0)), .d (.c (.int .u8 0)), .d (.c (.int .u8 0)), .d (.c (.int .u8 0)), .d (.c (.int .u8 0)), .d (.c (.int .u8 0)), .d (.c (.int .u8 0)), .d (.c (.int .u8 0)), .d (.c (.int .u8 0)), .d (.c (.int .u8 0)), .d (.c (.int .u8 0)), .d (.c (.int .u8 0)), .d (.c (.int .u8 0)), .d (.c (.int .u8 0)), .d (.c (.int .u8 0)), .d (.c (.int .u8 0)), .d (.c (.int .u8 0)), .d (.c (.int .u8 0)), .d (.c (.int .u8 0)), .d (.c (.int .u8 0)), .d (.c (.int .u8 0)), .d (.c (.int .u8 0)), .d (.c (.int .u8 0)), .d (.c (.int .u8 0)), .d (.c (.int .u8 0)), .d (.c (.int .u8 0)), .d (.c (.int .u8 0)), .d (.c (.int .u8 0))]), some (.tok k.length)]
def rt2St (p q : Nat) (s : ByteArray) (b K : List UInt8) (i : Nat) : List (Nat × AV) := [(1, .d (.c (.string s))), (2, .d (.sl 1 b.length (bD b))), (6, .ptr 0 0), (7, .d (.sl 1 K.length (bD K))), (9, .sl (.own p) 1 ((K.take i).map (xb 54)).length (bD ((K.take i).map (xb 54)))), (10, .sl (.own q) 1 ((K.take i).map (xb 92)).length (bD ((K.take i).map (xb 92)))), (11, .d (.c (.int .i64 i)))]
def rt2Re1 (K : List UInt8) (i : Nat) : Rs := [some (.obj [.d (.c (.int .u8 0)), .d (.c (.int .u8 0)), .d (.c (.int .u8 0)), .d (.c (.int .u8 0)), .d (.c (.int .u8 0)), .d (.c (.int .u8 0)), .d (.c (.int .u8 0)), .d (.c (.int .u8 0)), .d (.c (.int .u8 0)), .d (.c (.int .u8 0)), .d (.c (.int .u8 0)), .d (.c (.int .u8 0)), .d (.c (.int .u8 0)), .d (.c (.int .u8 0)), .d (.c (.int .u8 0)), .d (.c (.int .u8 0)), .d (.c (.int .u8 0)), .d (.c (.int .u8 0)), .d (.c (.int .u8 0)), .d (.c (.int .u8 0)), .d (.c (.int .u8 0)), .d (.c (.int .u8 0)), .d (.c (.int .u8 0)), .d (.c (.int .u8 0)), .d (.c (.int .u8 0)), .d (.c (.int .u8 0)), .d (.c (.int .u8 0)), .d (.c (.int .u8 0)), .d (.c (.int .u8 0)), .d (.c (.int .u8 0)), .d (.c (.int .u8 0)), .d (.c (.int .u8 0))]), none, none, none, some (.tok ((K.take i).map (xb 54)).length), some (.tok ((K.take i).map (xb 92)).length)]
def rt2Re2 (K : List UInt8) (i : Nat) : Rs := [some (.obj [.d (.c (.int .u8 0)), .d (.c (.int .u8 0)), .d (.c (.int .u8 0)), .d (.c (.int .u8 0)), .d (.c (.int .u8 0)), .d (.c (.int .u8 0)), .d (.c (.int .u8 0)), .d (.c (.int .u8 0)), .d (.c (.int .u8 0)), .d (.c (.int .u8 0)), .d (.c (.int .u8 0)), .d (.c (.int .u8 0)), .d (.c (.int .u8 0)), .d (.c (.int .u8 0)), .d (.c (.int .u8 0)), .d (.c (.int .u8 0)), .d (.c (.int .u8 0)), .d (.c (.int .u8 0)), .d (.c (.int .u8 0)), .d (.c (.int .u8 0)), .d (.c (.int .u8 0)), .d (.c (.int .u8 0)), .d (.c (.int .u8 0)), .d (.c (.int .u8 0)), .d (.c (.int .u8 0)), .d (.c (.int .u8 0)), .d (.c (.int .u8 0)), .d (.c (.int .u8 0)), .d (.c (.int .u8 0)), .d (.c (.int .u8 0)), .d (.c (.int .u8 0)), .d (.c (.int .u8 0))]), none, some (.tok ((K.take i).map (xb 54)).length), some (.tok ((K.take i).map (xb 92)).length)]
theorem pad64_step (k : List UInt8) (h : k.length < 64) : pad64 (k ++ [0]) = pad64 k := by
  rw [pad64, pad64, List.length_append, List.length_singleton, List.append_assoc, show 64 - k.length = 64 - (k.length + 1) + 1 by omega, List.replicate_succ]; rfl
theorem pad64_full (k : List UInt8) (h : k.length = 64) : pad64 k = k := by
  rw [pad64, h, Nat.sub_self, List.replicate_zero, List.append_nil]
theorem takeS (f : UInt8 → UInt8) (K : List UInt8) (i : Nat) (h : i < K.length) : (K.take i).map f ++ [f (K.getD i 0)] = (K.take (i + 1)).map f := by
  rw [List.take_succ_eq_append_getElem h, List.map_append, List.getD_eq_getElem?_getD, List.getElem?_eq_getElem h]; rfl
set_option maxHeartbeats 400000 in
theorem rTag_ac (key : List UInt8) (s : ByteArray) (b : List UInt8) (hk : key.length ≤ 140737488352000) (h : s.size + b.length ≤ 140737488351000) :
    AC Tryd.prog noG 15 [.d (.sl 1 key.length (bD key)), .d (.c (.string s)), .d (.sl 1 b.length (bD b))] [] (fun v r' => v = .d (.agg (bD (tagS key s b))) ∧ r' = []) := by
  refine AC.pure ?_ (by rintro v rfl; rfl)
  refine AC_of_R (N := 60) (res := [.cell 6 26]) ty_ok Tryd.call15 Tryd.func15 rfl rfl rfl (Nat.le_of_ble_eq_true rfl) ?_
  have hT : tagS key s b = sha ((padK key).map (xb 92) ++ sha ((padK key).map (xb 54) ++ mtx s b)) := rfl
  have hKl := padK_len key
  by_cases h64 : 64 < key.length
  · have hi : (key.length : Int) > 64 := by omega
    have hK : pad64 (sha key) = padK key := by rw [padK, if_pos h64]
    obtain ⟨hl, hb, ht, hm, hsp⟩ := dig32 (sha key) (sha_len key)
    refine rn1 @hi ?_
    refine ⟨⟨by omega, by omega⟩, HO_pureA ty_ok (refSum_ac key (by omega)) ?_⟩
    refine rn1 (jn @hm (jn @hl (jn @hb (jn @ht (jn @hsp @bA_allD))))) ?_
    clear hsp
    have hK0 : (sha key).length ≤ 64 := by omega
    generalize padK key = K at *
    obtain ⟨K0, hK0e⟩ : ∃ K0, K0 = sha key := ⟨_, rfl⟩
    rw [← hK0e] at hK hK0 hl hb ht hm ⊢
    refine ⟨⟨by decide, by decide⟩, ?_⟩
    refine HC_loopR (rt1St 3 s b) rt1Re1 (fun k => k.length ≤ 64 ∧ pad64 k = K) (fun k => 64 - k.length) K0 [0,1,2,3] [] ⟨hK0, hK⟩ ?_ ?_
    · exact ft1 (jn @rt1St.eq_1 (jn @rt1Re1.eq_1 (jn @bA_wf @hl)))
    intro k ⟨hk1, hk2⟩
    refine HC_of_R ty_ok ?_
    by_cases hlt : k.length < 64
    · have hi : (k.length : Int) < 64 := by omega
      refine rn1 (jn @rt1St.eq_1 (jn @rt1Re1.eq_1 @hi)) ?_
      refine ⟨⟨by omega, by omega⟩, k ++ [UInt8.ofNat 0], ⟨by simp only [List.length_append, List.length_singleton]; omega, (pad64_step k hlt).trans hk2⟩, by simp only [List.length_append, List.length_singleton]; omega, [0,1,2,3], [], ?_⟩
      exact ft1 @bA_wf
    · have hi : ¬ (k.length : Int) < 64 := by omega
      rw [pad64_full k (by omega)] at hk2
      subst hk2
      refine rn1 (jn @rt1St.eq_1 (jn @rt1Re1.eq_1 @hi)) ?_
      refine HC_loopR (rt2St 4 5 s b k) (rt2Re1 k) (fun i => i ≤ 64) (fun i => 64 - i) 0 [0,1,2,3,4,5] [0,0] (by omega) ?_ ?_
      · exact ft1 (jn @rt2St.eq_1 (jn @rt2Re1.eq_1 (jn @bA_wf (jn @List.take_zero.{0} @bD_z))))
      clear hi
      intro i hi
      refine HC_of_R ty_ok ?_
      have l1 : ((k.take i).map (xb 54)).length = i := by rw [List.length_map, List.length_take]; omega
      have l2 : ((k.take i).map (xb 92)).length = i := by rw [List.length_map, List.length_take]; omega
      by_cases hi64 : i < 64
      · have hlt2 : (i : Int) < 64 := by omega
        have s1 := takeS (xb 54) k i (by omega)
        have s2 := takeS (xb 92) k i (by omega)
        refine rn1 (jn @rt2St.eq_1 (jn @rt2Re1.eq_1 (jn @hlt2 (jn @xb_prog (jn @bD_u (jn @s1 (jn @s2 (jn @l1 @l2)))))))) ?_
        have l3 : ((k.take (i + 1)).map (xb 54)).length = i + 1 := by rw [List.length_map, List.length_take]; omega
        have l4 : ((k.take (i + 1)).map (xb 92)).length = i + 1 := by rw [List.length_map, List.length_take]; omega
        refine ⟨⟨by omega, by omega⟩, ⟨by omega, by omega⟩, ⟨by omega, by omega⟩, ⟨by omega, by omega⟩, i + 1, by omega, by omega, [0,1,2,3,4,5], [], ?_⟩
        exact ft1 (jn @bA_wf (jn @l3 @l4))
      · have hlt2 : ¬ (i : Int) < 64 := by omega
        have hti : k.take i = k := List.take_of_length_le (by omega)
        rw [hti] at l1 l2
        refine rn1 (jn @rt2St.eq_1 (jn @rt2Re1.eq_1 (jn @hlt2 @hti))) ?_
        refine HO_pureA ty_ok (rText_ac s b (by omega)) ?_
        have htl := mtx_len s b (by omega)
        obtain ⟨A, hA⟩ : ∃ A, A = List.map (xb 54) k := ⟨_, rfl⟩
        obtain ⟨B, hB⟩ : ∃ B, B = List.map (xb 92) k := ⟨_, rfl⟩
        rw [← hA, ← hB] at hT ⊢
        rw [← hA] at l1
        rw [← hB] at l2
        refine rn0 ?_
        have kr := refSum_ac (A ++ mtx s b) (by simp only [List.length_append]; omega)
        rw [List.length_append] at kr
        refine ⟨⟨by omega, by omega⟩, HO_pureA ty_ok kr ?_⟩
        obtain ⟨D, hD⟩ : ∃ D, D = sha (A ++ mtx s b) := ⟨_, rfl⟩
        have hDl : D.length = 32 := by rw [hD, sha_len]
        rw [← hD] at hT ⊢
        obtain ⟨hl, hb, ht, hm, hsp⟩ := dig32 D hDl
        refine rn1 (jn @hm (jn @hl (jn @hb (jn @ht (jn @hsp @bA_allD))))) ?_
        clear hsp
        have kq := refSum_ac (B ++ D) (by simp only [List.length_append]; omega)
        rw [List.length_append, hDl] at kq
        refine ⟨⟨by decide, by decide⟩, ⟨by omega, by omega⟩, HO_pureA ty_ok kq ?_⟩
        rw [← hT]
        obtain ⟨hl, hb, ht, hm, hsp⟩ := dig32 (tagS key s b) (tagS_len key s b)
        exact rz1 (jn @hm (jn @hl (jn @hb (jn @ht (jn @hsp @bA_allD)))))
  · have hi : ¬ (key.length : Int) > 64 := by omega
    have hK : pad64 key = padK key := by rw [padK, if_neg h64]
    refine rn1 @hi ?_
    have hK0 : key.length ≤ 64 := by omega
    generalize padK key = K at *
    obtain ⟨K0, hK0e⟩ : ∃ K0, K0 = key := ⟨_, rfl⟩
    refine ⟨⟨by omega, by omega⟩, ?_⟩
    rw [← hK0e] at hK hK0 hT ⊢
    refine HC_loopR (rt1St 1 s b) rt1Re2 (fun k => k.length ≤ 64 ∧ pad64 k = K) (fun k => 64 - k.length) K0 [0,1] [] ⟨hK0, hK⟩ ?_ ?_
    · exact ft1 (jn @rt1St.eq_1 (jn @rt1Re2.eq_1 (jn @bA_wf @bA_wf)))
    intro k ⟨hk1, hk2⟩
    refine HC_of_R ty_ok ?_
    by_cases hlt : k.length < 64
    · have hi : (k.length : Int) < 64 := by omega
      refine rn1 (jn @rt1St.eq_1 (jn @rt1Re2.eq_1 @hi)) ?_
      refine ⟨⟨by omega, by omega⟩, k ++ [UInt8.ofNat 0], ⟨by simp only [List.length_append, List.length_singleton]; omega, (pad64_step k hlt).trans hk2⟩, by simp only [List.length_append, List.length_singleton]; omega, [0,1], [], ?_⟩
      exact ft1 @bA_wf
    · have hi : ¬ (k.length : Int) < 64 := by omega
      rw [pad64_full k (by omega)] at hk2
      subst hk2
      refine rn1 (jn @rt1St.eq_1 (jn @rt1Re2.eq_1 @hi)) ?_
      refine HC_loopR (rt2St 2 3 s b k) (rt2Re2 k) (fun i => i ≤ 64) (fun i => 64 - i) 0 [0,1,2,3] [0,0] (by omega) ?_ ?_
      · exact ft1 (jn @rt2St.eq_1 (jn @rt2Re2.eq_1 (jn @bA_wf (jn @List.take_zero.{0} @bD_z))))
      clear hi
      intro i hi
      refine HC_of_R ty_ok ?_
      have l1 : ((k.take i).map (xb 54)).length = i := by rw [List.length_map, List.length_take]; omega
      have l2 : ((k.take i).map (xb 92)).length = i := by rw [List.length_map, List.length_take]; omega
      by_cases hi64 : i < 64
      · have hlt2 : (i : Int) < 64 := by omega
        have s1 := takeS (xb 54) k i (by omega)
        have s2 := takeS (xb 92) k i (by omega)
        refine rn1 (jn @rt2St.eq_1 (jn @rt2Re2.eq_1 (jn @hlt2 (jn @xb_prog (jn @bD_u (jn @s1 (jn @s2 (jn @l1 @l2)))))))) ?_
        have l3 : ((k.take (i + 1)).map (xb 54)).length = i + 1 := by rw [List.length_map, List.length_take]; omega
        have l4 : ((k.take (i + 1)).map (xb 92)).length = i + 1 := by rw [List.length_map, List.length_take]; omega
        refine ⟨⟨by omega, by omega⟩, ⟨by omega, by omega⟩, ⟨by omega, by omega⟩, ⟨by omega, by omega⟩, i + 1, by omega, by omega, [0,1,2,3], [], ?_⟩
        exact ft1 (jn @bA_wf (jn @l3 @l4))
      · have hlt2 : ¬ (i : Int) < 64 := by omega
        have hti : k.take i = k := List.take_of_length_le (by omega)
        rw [hti] at l1 l2
        refine rn1 (jn @rt2St.eq_1 (jn @rt2Re2.eq_1 (jn @hlt2 @hti))) ?_
        refine HO_pureA ty_ok (rText_ac s b (by omega)) ?_
        have htl := mtx_len s b (by omega)
        obtain ⟨A, hA⟩ : ∃ A, A = List.map (xb 54) k := ⟨_, rfl⟩
        obtain ⟨B, hB⟩ : ∃ B, B = List.map (xb 92) k := ⟨_, rfl⟩
        rw [← hA, ← hB] at hT ⊢
        rw [← hA] at l1
        rw [← hB] at l2
        refine rn0 ?_
        have kr := refSum_ac (A ++ mtx s b) (by simp only [List.length_append]; omega)
        rw [List.length_append] at kr
        refine ⟨⟨by omega, by omega⟩, HO_pureA ty_ok kr ?_⟩
        obtain ⟨D, hD⟩ : ∃ D, D = sha (A ++ mtx s b) := ⟨_, rfl⟩
        have hDl : D.length = 32 := by rw [hD, sha_len]
        rw [← hD] at hT ⊢
        obtain ⟨hl, hb, ht, hm, hsp⟩ := dig32 D hDl
        refine rn1 (jn @hm (jn @hl (jn @hb (jn @ht (jn @hsp @bA_allD))))) ?_
        clear hsp
        have kq := refSum_ac (B ++ D) (by simp only [List.length_append]; omega)
        rw [List.length_append, hDl] at kq
        refine ⟨⟨by decide, by decide⟩, ⟨by omega, by omega⟩, HO_pureA ty_ok kq ?_⟩
        rw [← hT]
        obtain ⟨hl, hb, ht, hm, hsp⟩ := dig32 (tagS K0 s b) (tagS_len K0 s b)
        exact rz1 (jn @hm (jn @hl (jn @hb (jn @ht (jn @hsp @bA_allD)))))
end Go.Proofs.YtjpjnhljmloofaaDoor
