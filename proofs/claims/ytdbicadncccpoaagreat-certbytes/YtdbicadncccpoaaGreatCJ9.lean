/- Parts of the proof: Rdr, RdV, RRdr, RdTs, RdR, RdRul. -/
import Derived.Test.YtdbicadncccpoaaGreatCJ1
set_option linter.unusedVariables false
set_option linter.unusedSimpArgs false
set_option maxRecDepth 100000
namespace Go.Proofs.YtdbicadncccpoaaGreat
open Go Go.ChangeShapes Go.WideShapes
theorem rdAt_err (at_ : Nat) : ∀ (l : List UInt8) (i u : Nat), (rdAt at_ i u l).2.2 ≠ 0 → (rdAt at_ i u l).1 = 0
  | [], i, u, _ => by simp [rdAt]
  | c :: l, i, u, h => by
    rw [rdAt] at h ⊢
    split
    · rfl
    · rename_i h1
      rw [if_neg h1] at h
      split
      · rename_i h2
        rw [if_pos h2] at h
        exact rdAt_err at_ l _ _ h
      · rename_i h2
        rw [if_neg h2] at h
        split
        · rfl
        · rename_i h3
          rw [if_neg h3] at h
          exact absurd rfl h
theorem rdInt_err {b : List UInt8} {k : Int} (h : (rdInt b k).2.2 ≠ 0) : (rdInt b k).1 = 0 := by
  unfold rdInt at h ⊢
  split
  · rfl
  · rename_i h1
    rw [if_neg h1] at h
    exact rdAt_err _ _ _ _ h
theorem txt_err {b : List UInt8} {k : Int} (h : (txt b k).2.2 ≠ 0) : (txt b k).1 = ⟨#[]⟩ := by
  unfold txt at h ⊢
  split
  · rfl
  · rename_i h1
    rw [if_neg h1] at h
    split
    · rfl
    · rename_i h2
      rw [if_neg h2] at h
      exact absurd rfl h
theorem txt_bd (b : List UInt8) (k : Int) : (0 ≤ (txt b k).2.1 ∧ (txt b k).2.1 ≤ b.length) ∧ (0 ≤ (txt b k).2.2 ∧ (txt b k).2.2 ≤ 11) ∧ ((txt b k).2.2 = 0 → 0 ≤ k ∧ k < (txt b k).2.1) ∧ (txt b k).1.size ≤ 65536 := by
  have h := cnt_bd b k 65536
  unfold txt
  split
  · simp only; refine ⟨by omega, by omega, by omega, Nat.zero_le _⟩
  · rename_i he
    have he : (cnt b k 65536).2.2 = 0 := by simpa using he
    have h2 := h.2.2.2 he
    split
    · simp only; refine ⟨by omega, by omega, by omega, Nat.zero_le _⟩
    · simp only
      refine ⟨by omega, by omega, by omega, ?_⟩
      simp only [ByteArray.size, List.size_toArray, List.length_take, List.length_drop]
      omega
def rdT (b : List UInt8) (k e : Int) : ByteArray × Int × Int := if e = 0 then (if (txt b k).2.2 = 0 then ((txt b k).1, (txt b k).2.1, 0) else (⟨#[]⟩, k, (txt b k).2.2)) else (⟨#[]⟩, k, e)
def rdN (b : List UInt8) (k e : Int) : Int × Int × Int := if e = 0 then (if (rdInt b k).2.2 = 0 then ((rdInt b k).1, (rdInt b k).2.1, 0) else (0, k, (rdInt b k).2.2)) else (0, k, e)
def rdC (b : List UInt8) (most k e : Int) : Int × Int × Int := if (rdN b k e).2.2 = 0 then (if (rdN b k e).1 < 0 ∨ most < (rdN b k e).1 then (0, (rdN b k e).2.1, 11) else rdN b k e) else (0, (rdN b k e).2.1, (rdN b k e).2.2)
def rdK (b : List UInt8) (most : Nat) (k e : Int) : Nat × Int × Int := if e = 0 then (if (b.length : Int) ≤ k then (0, k, 10) else if most < (b.getD k.toNat 0).toNat then (0, k, 11) else ((b.getD k.toNat 0).toNat, k + 1, 0)) else (0, k, e)
def rdV (b : List UInt8) (k e : Int) : Cst × Int × Int :=
  if (rdK b 1 k e).1 = 1 then (⟨false, 0, (rdT b (rdK b 1 k e).2.1 (rdK b 1 k e).2.2).1⟩, (rdT b (rdK b 1 k e).2.1 (rdK b 1 k e).2.2).2)
  else (⟨true, (rdN b (rdK b 1 k e).2.1 (rdK b 1 k e).2.2).1, ⟨#[]⟩⟩, (rdN b (rdK b 1 k e).2.1 (rdK b 1 k e).2.2).2)
/-- Where a reader may stand. -/
def okR (b : List UInt8) (k e : Int) : Prop := (-9223372036854775808 ≤ k ∧ k ≤ 9223372036854775807) ∧ (0 ≤ e ∧ e ≤ 50)
theorem rdT_ok {b : List UInt8} {k e : Int} (hb : b.length ≤ 140737488355000) (h : okR b k e) : okR b (rdT b k e).2.1 (rdT b k e).2.2 ∧ ((rdT b k e).2.2 = 0 → e = 0 ∧ 0 ≤ k ∧ k < (rdT b k e).2.1 ∧ (rdT b k e).2.1 ≤ b.length) ∧ (rdT b k e).1.size ≤ 65536 := by
  have ht := txt_bd b k
  obtain ⟨h1, h2⟩ := h
  unfold rdT okR
  split
  · split
    · simp only; refine ⟨by omega, by omega, ht.2.2.2⟩
    · simp only; refine ⟨by omega, by omega, Nat.zero_le _⟩
  · simp only; refine ⟨by omega, by omega, Nat.zero_le _⟩
theorem rdN_ok {b : List UInt8} {k e : Int} (hb : b.length ≤ 140737488355000) (h : okR b k e) : okR b (rdN b k e).2.1 (rdN b k e).2.2 ∧ ((rdN b k e).2.2 = 0 → e = 0 ∧ 0 ≤ k ∧ k < (rdN b k e).2.1 ∧ (rdN b k e).2.1 ≤ b.length) ∧ (-9223372036854775808 ≤ (rdN b k e).1 ∧ (rdN b k e).1 ≤ 9223372036854775807) := by
  have ht := rdInt_bd b k
  obtain ⟨h1, h2⟩ := h
  unfold rdN okR
  split
  · split
    · simp only; refine ⟨by omega, by omega, by omega⟩
    · simp only; refine ⟨by omega, by omega, by omega⟩
  · simp only; refine ⟨by omega, by omega, by omega⟩
theorem rdC_ok {b : List UInt8} {most k e : Int} (hm : 0 ≤ most) (hb : b.length ≤ 140737488355000) (h : okR b k e) : okR b (rdC b most k e).2.1 (rdC b most k e).2.2 ∧ ((rdC b most k e).2.2 = 0 → e = 0 ∧ 0 ≤ k ∧ k < (rdC b most k e).2.1 ∧ (rdC b most k e).2.1 ≤ b.length) ∧ (0 ≤ (rdC b most k e).1 ∧ (rdC b most k e).1 ≤ most) := by
  have ht := rdN_ok hb h
  unfold okR at ht
  unfold rdC okR
  split
  · split
    · simp only; refine ⟨by omega, by omega, by omega⟩
    · refine ⟨by omega, by omega, by omega⟩
  · simp only; refine ⟨by omega, by omega, by omega⟩
theorem rdK_ok {b : List UInt8} {most : Nat} {k e : Int} (hb : b.length ≤ 140737488355000) (h : okR b k e) (hk : e = 0 → 0 ≤ k) : okR b (rdK b most k e).2.1 (rdK b most k e).2.2 ∧ ((rdK b most k e).2.2 = 0 → e = 0 ∧ 0 ≤ k ∧ (rdK b most k e).2.1 = k + 1 ∧ k < b.length ∧ (rdK b most k e).1 = (b.getD k.toNat 0).toNat) ∧ (rdK b most k e).1 ≤ most ∧ ((rdK b most k e).2.2 ≠ 0 → (rdK b most k e).1 = 0) := by
  obtain ⟨h1, h2⟩ := h
  unfold rdK okR
  split
  · split
    · simp only; refine ⟨by omega, by omega, by omega, by simp⟩
    · split
      · simp only; refine ⟨by omega, by omega, by omega, by simp⟩
      · simp only
        refine ⟨by omega, fun _ => ⟨by assumption, by omega, trivial, by omega, trivial⟩, by omega, fun h => absurd rfl h⟩
  · simp only; refine ⟨by omega, by omega, by omega, by simp⟩
theorem rdV_ok {b : List UInt8} {k e : Int} (hb : b.length ≤ 140737488355000) (h : okR b k e) (hk : e = 0 → 0 ≤ k) : okR b (rdV b k e).2.1 (rdV b k e).2.2 ∧ ((rdV b k e).2.2 = 0 → e = 0 ∧ 0 ≤ k ∧ k < (rdV b k e).2.1 ∧ (rdV b k e).2.1 ≤ b.length) := by
  have h0 := rdK_ok (most := 1) hb h hk
  unfold rdV
  split
  · have h1 := rdT_ok hb h0.1
    simp only
    refine ⟨h1.1, fun he => ?_⟩
    have := h1.2.1 he
    have := h0.2.1 (by omega)
    omega
  · have h1 := rdN_ok hb h0.1
    simp only
    refine ⟨h1.1, fun he => ?_⟩
    have := h1.2.1 he
    have := h0.2.1 (by omega)
    omega
def rdO (b : List UInt8) (k e : Int) : List AV := [.d (.sl 1 b.length (bD b)), .d (.c (.int .i64 k)), .d (.c (.int .i64 e))]
def rdr (b : List UInt8) (k e : Int) : Rs := [some (.obj (rdO b k e))]
theorem rdr_hand (b : List UInt8) (k e : Int) (rc : Rs) (i : Nat) (hi : rc[i]? = some (some (.obj (rdO b k e)))) : HandOK (nm [i] rc.length) rc (rdr b k e) [i] := by
  refine ⟨fun y h => ?_, trivial⟩
  injection h with h; subst h
  rw [hi]; rfl
theorem rdr_wf (b : List UInt8) (k e : Int) : wfRs (rdr b k e).length (rdr b k e) = true := rfl
set_option maxHeartbeats 400000 in
theorem rtxt_ac (b : List UInt8) (k e : Int) (hb : b.length ≤ 140737488355000) (h : okR b k e) : AC Tryz.prog noG 68 [.ptr 0 0] (rdr b k e)
    (fun v r' => v = .d (.c (.string (rdT b k e).1)) ∧ r' = rdr b (rdT b k e).2.1 (rdT b k e).2.2) := by
  refine AC_of_R (N := 35) (res := [.tmp 2]) ty_ok Tryz.call68 Tryz.func68 rfl rfl rfl (Nat.le_of_ble_eq_true rfl) ?_
  obtain ⟨h1, h2⟩ := h
  by_cases he : e = 0
  · subst he
    have ht := txt_bd b k
    have hx := text_ac b k h1.1 h1.2 hb
    have hr := txt_err (b := b) (k := k)
    have hm : rdT b k 0 = if (txt b k).2.2 = 0 then ((txt b k).1, (txt b k).2.1, 0) else (⟨#[]⟩, k, (txt b k).2.2) := if_pos rfl
    generalize txt b k = t at *
    obtain ⟨s, nx, er⟩ := t
    simp only at ht hr hm
    refine rn1 (jn @rdr.eq_1 @rdO.eq_1) ?_
    refine HC_plan [] ty_ok mix (by kernel_rfl) ?_
    refine rn0 ?_
    refine HO_pureA ty_ok hx ?_
    by_cases h0 : er = 0
    · rw [if_pos h0] at hm
      exact rz1 (jn @triS.eq_1 (jn @h0 @hm))
    · rw [if_neg h0] at hm
      refine rn1 (jn @triS.eq_1 (jn @h0 @hm)) ?_
      rw [hr h0]
  · have hm : rdT b k e = (⟨#[]⟩, k, e) := if_neg he
    exact rz1 (jn @rdr.eq_1 (jn @rdO.eq_1 (jn @he @hm)))

set_option maxHeartbeats 400000 in
theorem rint2_ac (b : List UInt8) (k e : Int) (hb : b.length ≤ 140737488355000) (h : okR b k e) : AC Tryz.prog noG 89 [.ptr 0 0] (rdr b k e)
    (fun v r' => v = .d (.c (.int .i64 (rdN b k e).1)) ∧ r' = rdr b (rdN b k e).2.1 (rdN b k e).2.2) := by
  refine AC_of_R (N := 35) (res := [.tmp 2]) ty_ok Tryz.call89 Tryz.func89 rfl rfl rfl (Nat.le_of_ble_eq_true rfl) ?_
  obtain ⟨h1, h2⟩ := h
  by_cases he : e = 0
  · subst he
    have ht := rdInt_bd b k
    have hx := int_ac b k h1.1 h1.2 hb
    have hr := rdInt_err (b := b) (k := k)
    have hm : rdN b k 0 = if (rdInt b k).2.2 = 0 then ((rdInt b k).1, (rdInt b k).2.1, 0) else (0, k, (rdInt b k).2.2) := if_pos rfl
    generalize rdInt b k = t at *
    obtain ⟨s, nx, er⟩ := t
    simp only at ht hr hm
    refine rn1 (jn @rdr.eq_1 @rdO.eq_1) ?_
    refine HC_plan [] ty_ok mix (by kernel_rfl) ?_
    refine rn0 ?_
    refine HO_pureA ty_ok hx ?_
    by_cases h0 : er = 0
    · rw [if_pos h0] at hm
      exact rz1 (jn @tri.eq_1 (jn @h0 @hm))
    · rw [if_neg h0] at hm
      refine rn1 (jn @tri.eq_1 (jn @h0 @hm)) ?_
      rw [hr h0]
  · have hm : rdN b k e = (0, k, e) := if_neg he
    exact rz1 (jn @rdr.eq_1 (jn @rdO.eq_1 (jn @he @hm)))
set_option maxHeartbeats 400000 in
theorem rcnt_ac (b : List UInt8) (most k e : Int) (hb : b.length ≤ 140737488355000) (h : okR b k e) : AC Tryz.prog noG 69 [.ptr 0 0, .d (.c (.int .i64 most))] (rdr b k e)
    (fun v r' => v = .d (.c (.int .i64 (rdC b most k e).1)) ∧ r' = rdr b (rdC b most k e).2.1 (rdC b most k e).2.2) := by
  refine AC_of_R (N := 31) (res := [.tmp 4]) ty_ok Tryz.call69 Tryz.func69 rfl rfl rfl (Nat.le_of_ble_eq_true rfl) ?_
  have hx := rint2_ac b k e hb h
  have hm : rdC b most k e = if (rdN b k e).2.2 = 0 then (if (rdN b k e).1 < 0 ∨ most < (rdN b k e).1 then (0, (rdN b k e).2.1, 11) else rdN b k e) else (0, (rdN b k e).2.1, (rdN b k e).2.2) := rfl
  generalize rdN b k e = t at *
  obtain ⟨s, nx, er⟩ := t
  simp only at hm hx
  refine rn1 (jn @rdr.eq_1 @rdO.eq_1) ?_
  refine HO_callX ty_ok [0] hx (rdr_hand _ _ _ _ _ rfl) (rdr_wf _ _ _) ?_
  rintro v r' ⟨rfl, rfl⟩ _
  by_cases h0 : er = 0
  · rw [if_pos h0] at hm
    by_cases g1 : s < 0
    · rw [if_pos (.inl g1)] at hm
      exact rz1 (jn @rdr.eq_1 (jn @rdO.eq_1 (jn @h0 (jn @g1 @hm))))
    · by_cases g2 : most < s
      · rw [if_pos (.inr g2)] at hm
        exact rz1 (jn @rdr.eq_1 (jn @rdO.eq_1 (jn @h0 (jn @g1 (jn @g2 @hm)))))
      · rw [if_neg (by omega)] at hm
        exact rz1 (jn @rdr.eq_1 (jn @rdO.eq_1 (jn @h0 (jn @g1 (jn @g2 @hm)))))
  · rw [if_neg h0] at hm
    exact rz1 (jn @rdr.eq_1 (jn @rdO.eq_1 (jn @h0 @hm)))
theorem bD_at (b : List UInt8) (k : Int) (h0 : 0 ≤ k) (h1 : k < b.length) : ((bD b).drop k.toNat)[0]? = some (.c (.int .u8 (b.getD k.toNat 0).toNat)) := by
  rw [List.getElem?_drop, Nat.add_zero, bD_get (by omega)]
set_option maxHeartbeats 400000 in
theorem rknd_ac (b : List UInt8) (most : Nat) (k e : Int) (hb : b.length ≤ 140737488355000) (h : okR b k e) (hk : e = 0 → 0 ≤ k) : AC Tryz.prog noG 90 [.ptr 0 0, .d (.c (.int .u8 most))] (rdr b k e)
    (fun v r' => v = .d (.c (.int .u8 ((rdK b most k e).1 : Nat))) ∧ r' = rdr b (rdK b most k e).2.1 (rdK b most k e).2.2) := by
  refine AC_of_R (N := 48) (res := [.tmp 4]) ty_ok Tryz.call90 Tryz.func90 rfl rfl rfl (Nat.le_of_ble_eq_true rfl) ?_
  by_cases he : e = 0
  · subst he
    have hk := hk rfl
    by_cases g1 : (b.length : Int) ≤ k
    · have hm : rdK b most k 0 = (0, k, 10) := by rw [rdK, if_pos rfl, if_pos g1]
      refine rn1 (jn @rdr.eq_1 @rdO.eq_1) ?_
      refine HC_plan [] ty_ok mix (by kernel_rfl) ?_
      refine rn1 (jn @g1 @hm) ?_
      rfl
    · have g3 : k < b.length := by omega
      have hd := bD_at b k hk g3
      have hm : rdK b most k 0 = if most < (b.getD k.toNat 0).toNat then (0, k, 11) else ((b.getD k.toNat 0).toNat, k + 1, 0) := by rw [rdK, if_pos rfl, if_neg g1]
      generalize hc : (b.getD k.toNat 0).toNat = c at *
      refine rn1 (jn @rdr.eq_1 @rdO.eq_1) ?_
      refine HC_plan [] ty_ok mix (by kernel_rfl) ?_
      refine rn1 @g1 ?_
      refine HC_plan [] ty_ok mix (by kernel_rfl) ?_
      by_cases g2 : most < c
      · have g2' : (most : Int) < c := by omega
        rw [if_pos g2] at hm
        refine rn1 (jn @g1 (jn @g2' (jn @g3 (jn @hk (jn @hc @hm))))) ?_
        rfl
      · have g2' : ¬ (most : Int) < c := by omega
        rw [if_neg g2] at hm
        exact rz1 (jn @g1 (jn @g2' (jn @g3 (jn @hk (jn @hc @hm)))))
  · have hm : rdK b most k e = (0, k, e) := if_neg he
    refine rn1 (jn @rdr.eq_1 (jn @rdO.eq_1 (jn @he @hm))) ?_
    rfl
end Go.Proofs.YtdbicadncccpoaaGreat

set_option linter.unusedVariables false
set_option linter.unusedSimpArgs false
set_option maxRecDepth 100000
namespace Go.Proofs.YtdbicadncccpoaaGreat
open Go Go.ChangeShapes Go.WideShapes
set_option maxHeartbeats 400000 in
theorem val_ac (b : List UInt8) (k e : Int) (hb : b.length ≤ 140737488355000) (h : okR b k e) (hk : e = 0 → 0 ≤ k) : AC Tryz.prog noG 70 [.ptr 0 0] (rdr b k e)
    (fun v r' => v = .d (.agg (cstE (rdV b k e).1)) ∧ r' = rdr b (rdV b k e).2.1 (rdV b k e).2.2) := by
  refine AC.fit ?_
  refine AC_of_R (N := 12) (res := [.cell 2 68]) ty_ok Tryz.call70 Tryz.func70 rfl rfl rfl (Nat.le_of_ble_eq_true rfl) ?_
  have hx := rknd_ac b 1 k e hb h hk
  have ho := rdK_ok (most := 1) hb h hk
  have hm : rdV b k e = if (rdK b 1 k e).1 = 1 then (⟨false, 0, (rdT b (rdK b 1 k e).2.1 (rdK b 1 k e).2.2).1⟩, (rdT b (rdK b 1 k e).2.1 (rdK b 1 k e).2.2).2)
    else (⟨true, (rdN b (rdK b 1 k e).2.1 (rdK b 1 k e).2.2).1, ⟨#[]⟩⟩, (rdN b (rdK b 1 k e).2.1 (rdK b 1 k e).2.2).2) := rfl
  generalize rdK b 1 k e = t at *
  obtain ⟨q, k1, e1⟩ := t
  simp only at hx hm ho
  refine rn1 (jn @rdr.eq_1 @rdO.eq_1) ?_
  refine HO_callX ty_ok [0] (hx) (rdr_hand _ _ _ _ _ rfl) (rdr_wf _ _ _) ?_
  rintro v r' ⟨rfl, rfl⟩ _
  by_cases g : q = 1
  · subst g
    have h2 := rtxt_ac b k1 e1 hb ho.1
    rw [if_pos rfl] at hm
    generalize rdT b k1 e1 = u at *
    obtain ⟨s, k2, e2⟩ := u
    simp only at h2 hm
    rw [hm]
    have c1 : ((1 : Nat) : Int) = 1 := rfl
    refine rn1 (jn @rdr.eq_1 (jn @rdO.eq_1 @c1)) ?_
    refine HO_callX ty_ok [0] (h2) (rdr_hand _ _ _ _ _ rfl) (rdr_wf _ _ _) ?_
    rintro v r' ⟨rfl, rfl⟩ _
    refine rn1 (jn @rdr.eq_1 @rdO.eq_1) ?_
    exact fv1 [0] [] (jn @rdr.eq_1 (jn @rdO.eq_1 @cstE.eq_1))
  · have g' : ¬ (q : Int) = 1 := by omega
    have h2 := rint2_ac b k1 e1 hb ho.1
    rw [if_neg g] at hm
    generalize rdN b k1 e1 = u at *
    obtain ⟨s, k2, e2⟩ := u
    simp only at h2 hm
    rw [hm]
    refine rn1 (jn @rdr.eq_1 (jn @rdO.eq_1 @g')) ?_
    refine HO_callX ty_ok [0] (h2) (rdr_hand _ _ _ _ _ rfl) (rdr_wf _ _ _) ?_
    rintro v r' ⟨rfl, rfl⟩ _
    refine rn1 (jn @rdr.eq_1 @rdO.eq_1) ?_
    exact fv1 [0] [] (jn @rdr.eq_1 (jn @rdO.eq_1 @cstE.eq_1))
end Go.Proofs.YtdbicadncccpoaaGreat

set_option linter.unusedVariables false
set_option linter.unusedSimpArgs false
set_option maxRecDepth 100000
namespace Go.Proofs.YtdbicadncccpoaaGreat
open Go Go.ChangeShapes Go.WideShapes
def rdO4 (b : List UInt8) (k e : Int) (o : Bool) : List AV := [.d (.sl 1 b.length (bD b)), .d (.c (.int .i64 k)), .d (.c (.int .i64 e)), .d (.c (.bool o))]
def rdr4 (b : List UInt8) (k e : Int) (o : Bool) : Rs := [some (.obj (rdO4 b k e o))]
theorem rdr4_hand (b : List UInt8) (k e : Int) (o : Bool) (rc : Rs) (i : Nat) (hi : rc[i]? = some (some (.obj (rdO4 b k e o)))) : HandOK (nm [i] rc.length) rc (rdr4 b k e o) [i] := by
  refine ⟨fun y h => ?_, trivial⟩
  injection h with h; subst h
  rw [hi]; rfl
theorem rdr4_wf (b : List UInt8) (k e : Int) (o : Bool) : wfRs (rdr4 b k e o).length (rdr4 b k e o) = true := rfl
set_option maxHeartbeats 400000 in
theorem rrtxt_ac (b : List UInt8) (k e : Int) (o : Bool) (hb : b.length ≤ 140737488355000) (h : okR b k e) : AC Tryz.prog noG 71 [.ptr 0 0] (rdr4 b k e o)
    (fun v r' => v = .d (.c (.string (rdT b k e).1)) ∧ r' = rdr4 b (rdT b k e).2.1 (rdT b k e).2.2 o) := by
  refine AC_of_R (N := 35) (res := [.tmp 2]) ty_ok Tryz.call71 Tryz.func71 rfl rfl rfl (Nat.le_of_ble_eq_true rfl) ?_
  obtain ⟨h1, h2⟩ := h
  by_cases he : e = 0
  · subst he
    have ht := txt_bd b k
    have hx := rtext_ac b k h1.1 h1.2 hb
    have hm : rdT b k 0 = if (txt b k).2.2 = 0 then ((txt b k).1, (txt b k).2.1, 0) else (⟨#[]⟩, k, (txt b k).2.2) := if_pos rfl
    generalize txt b k = t at *
    obtain ⟨s, nx, er⟩ := t
    simp only at ht hm
    refine rn1 (jn @rdr4.eq_1 @rdO4.eq_1) ?_
    refine HC_plan [] ty_ok mix (by kernel_rfl) ?_
    refine rn0 ?_
    refine HO_pureA ty_ok hx ?_
    by_cases h0 : er = 0
    · rw [if_pos h0] at hm
      exact rz1 (jn @triS.eq_1 (jn @h0 @hm))
    · rw [if_neg h0] at hm
      exact rz1 (jn @triS.eq_1 (jn @h0 @hm))
  · have hm : rdT b k e = (⟨#[]⟩, k, e) := if_neg he
    exact rz1 (jn @rdr4.eq_1 (jn @rdO4.eq_1 (jn @he @hm)))
set_option maxHeartbeats 400000 in
theorem rrint_ac (b : List UInt8) (k e : Int) (o : Bool) (hb : b.length ≤ 140737488355000) (h : okR b k e) : AC Tryz.prog noG 92 [.ptr 0 0] (rdr4 b k e o)
    (fun v r' => v = .d (.c (.int .i64 (rdN b k e).1)) ∧ r' = rdr4 b (rdN b k e).2.1 (rdN b k e).2.2 o) := by
  refine AC_of_R (N := 35) (res := [.tmp 2]) ty_ok Tryz.call92 Tryz.func92 rfl rfl rfl (Nat.le_of_ble_eq_true rfl) ?_
  obtain ⟨h1, h2⟩ := h
  by_cases he : e = 0
  · subst he
    have ht := rdInt_bd b k
    have hx := rint_ac b k h1.1 h1.2 hb
    have hm : rdN b k 0 = if (rdInt b k).2.2 = 0 then ((rdInt b k).1, (rdInt b k).2.1, 0) else (0, k, (rdInt b k).2.2) := if_pos rfl
    generalize rdInt b k = t at *
    obtain ⟨s, nx, er⟩ := t
    simp only at ht hm
    refine rn1 (jn @rdr4.eq_1 @rdO4.eq_1) ?_
    refine HC_plan [] ty_ok mix (by kernel_rfl) ?_
    refine rn0 ?_
    refine HO_pureA ty_ok hx ?_
    by_cases h0 : er = 0
    · rw [if_pos h0] at hm
      exact rz1 (jn @tri.eq_1 (jn @h0 @hm))
    · rw [if_neg h0] at hm
      exact rz1 (jn @tri.eq_1 (jn @h0 @hm))
  · have hm : rdN b k e = (0, k, e) := if_neg he
    exact rz1 (jn @rdr4.eq_1 (jn @rdO4.eq_1 (jn @he @hm)))
set_option maxHeartbeats 400000 in
theorem rrcnt_ac (b : List UInt8) (most k e : Int) (o : Bool) (hb : b.length ≤ 140737488355000) (h : okR b k e) : AC Tryz.prog noG 72 [.ptr 0 0, .d (.c (.int .i64 most))] (rdr4 b k e o)
    (fun v r' => v = .d (.c (.int .i64 (rdC b most k e).1)) ∧ r' = rdr4 b (rdC b most k e).2.1 (rdC b most k e).2.2 o) := by
  refine AC_of_R (N := 24) (res := [.tmp 4]) ty_ok Tryz.call72 Tryz.func72 rfl rfl rfl (Nat.le_of_ble_eq_true rfl) ?_
  have hx := rrint_ac b k e o hb h
  have hm : rdC b most k e = if (rdN b k e).2.2 = 0 then (if (rdN b k e).1 < 0 ∨ most < (rdN b k e).1 then (0, (rdN b k e).2.1, 11) else rdN b k e) else (0, (rdN b k e).2.1, (rdN b k e).2.2) := rfl
  generalize rdN b k e = t at *
  obtain ⟨s, nx, er⟩ := t
  simp only at hm hx
  refine rn1 (jn @rdr4.eq_1 @rdO4.eq_1) ?_
  refine HO_callX ty_ok [0] (hx) (rdr4_hand _ _ _ _ _ _ rfl) (rdr4_wf _ _ _ _) ?_
  rintro v r' ⟨rfl, rfl⟩ _
  by_cases h0 : er = 0
  · rw [if_pos h0] at hm
    by_cases g1 : s < 0
    · rw [if_pos (.inl g1)] at hm
      exact rz1 (jn @rdr4.eq_1 (jn @rdO4.eq_1 (jn @h0 (jn @g1 @hm))))
    · by_cases g2 : most < s
      · rw [if_pos (.inr g2)] at hm
        exact rz1 (jn @rdr4.eq_1 (jn @rdO4.eq_1 (jn @h0 (jn @g1 (jn @g2 @hm)))))
      · rw [if_neg (by omega)] at hm
        exact rz1 (jn @rdr4.eq_1 (jn @rdO4.eq_1 (jn @h0 (jn @g1 (jn @g2 @hm)))))
  · rw [if_neg h0] at hm
    exact rz1 (jn @rdr4.eq_1 (jn @rdO4.eq_1 (jn @h0 @hm)))
set_option maxHeartbeats 400000 in
theorem rrknd_ac (b : List UInt8) (most : Nat) (k e : Int) (o : Bool) (hb : b.length ≤ 140737488355000) (h : okR b k e) (hk : e = 0 → 0 ≤ k) : AC Tryz.prog noG 93 [.ptr 0 0, .d (.c (.int .i64 most))] (rdr4 b k e o)
    (fun v r' => v = .d (.c (.int .i64 ((rdK b most k e).1 : Nat))) ∧ r' = rdr4 b (rdK b most k e).2.1 (rdK b most k e).2.2 o) := by
  refine AC_of_R (N := 49) (res := [.tmp 4]) ty_ok Tryz.call93 Tryz.func93 rfl rfl rfl (Nat.le_of_ble_eq_true rfl) ?_
  by_cases he : e = 0
  · subst he
    have hk := hk rfl
    by_cases g1 : (b.length : Int) ≤ k
    · have hm : rdK b most k 0 = (0, k, 10) := by rw [rdK, if_pos rfl, if_pos g1]
      refine rn1 (jn @rdr4.eq_1 @rdO4.eq_1) ?_
      refine HC_plan [] ty_ok mix (by kernel_rfl) ?_
      refine rn1 (jn @g1 @hm) ?_
      rfl
    · have g3 : k < b.length := by omega
      have hd := bD_at b k hk g3
      have hc8 := (b.getD k.toNat 0).toNat_lt
      have hm : rdK b most k 0 = if most < (b.getD k.toNat 0).toNat then (0, k, 11) else ((b.getD k.toNat 0).toNat, k + 1, 0) := by rw [rdK, if_pos rfl, if_neg g1]
      generalize hc : (b.getD k.toNat 0).toNat = c at *
      refine rn1 (jn @rdr4.eq_1 @rdO4.eq_1) ?_
      refine HC_plan [] ty_ok mix (by kernel_rfl) ?_
      refine rn1 @g1 ?_
      refine HC_plan [] ty_ok mix (by kernel_rfl) ?_
      by_cases g2 : most < c
      · have g2' : (most : Int) < c := by omega
        rw [if_pos g2] at hm
        refine rn1 (jn @g1 (jn @g2' (jn @g3 (jn @hk (jn @hc @hm))))) ?_
        rfl
      · have g2' : ¬ (most : Int) < c := by omega
        rw [if_neg g2] at hm
        exact rz1 (jn @g1 (jn @g2' (jn @g3 (jn @hk (jn @hc @hm)))))
  · have hm : rdK b most k e = (0, k, e) := if_neg he
    refine rn1 (jn @rdr4.eq_1 (jn @rdO4.eq_1 (jn @he @hm))) ?_
    rfl
set_option maxHeartbeats 400000 in
theorem rrval_ac (b : List UInt8) (k e : Int) (o : Bool) (hb : b.length ≤ 140737488355000) (h : okR b k e) (hk : e = 0 → 0 ≤ k) : AC Tryz.prog noG 73 [.ptr 0 0] (rdr4 b k e o)
    (fun v r' => v = .d (.agg (cstE (rdV b k e).1)) ∧ r' = rdr4 b (rdV b k e).2.1 (rdV b k e).2.2 o) := by
  refine AC.fit ?_
  refine AC_of_R (N := 12) (res := [.cell 2 68]) ty_ok Tryz.call73 Tryz.func73 rfl rfl rfl (Nat.le_of_ble_eq_true rfl) ?_
  have hx := rrknd_ac b 1 k e o hb h hk
  have ho := rdK_ok (most := 1) hb h hk
  have hm : rdV b k e = if (rdK b 1 k e).1 = 1 then (⟨false, 0, (rdT b (rdK b 1 k e).2.1 (rdK b 1 k e).2.2).1⟩, (rdT b (rdK b 1 k e).2.1 (rdK b 1 k e).2.2).2)
    else (⟨true, (rdN b (rdK b 1 k e).2.1 (rdK b 1 k e).2.2).1, ⟨#[]⟩⟩, (rdN b (rdK b 1 k e).2.1 (rdK b 1 k e).2.2).2) := rfl
  generalize rdK b 1 k e = t at *
  obtain ⟨q, k1, e1⟩ := t
  simp only at hx hm ho
  have c1 : ((1 : Nat) : Int) = 1 := rfl
  rw [c1] at hx
  refine rn1 (jn @rdr4.eq_1 @rdO4.eq_1) ?_
  refine HO_callX ty_ok [0] (hx) (rdr4_hand _ _ _ _ _ _ rfl) (rdr4_wf _ _ _ _) ?_
  rintro v r' ⟨rfl, rfl⟩ _
  by_cases g : q = 1
  · subst g
    have h2 := rrtxt_ac b k1 e1 o hb ho.1
    rw [if_pos rfl] at hm
    generalize rdT b k1 e1 = u at *
    obtain ⟨s, k2, e2⟩ := u
    simp only at h2 hm
    rw [hm]
    refine rn1 (jn @rdr4.eq_1 (jn @rdO4.eq_1 @c1)) ?_
    refine HO_callX ty_ok [0] (h2) (rdr4_hand _ _ _ _ _ _ rfl) (rdr4_wf _ _ _ _) ?_
    rintro v r' ⟨rfl, rfl⟩ _
    refine rn1 (jn @rdr4.eq_1 @rdO4.eq_1) ?_
    exact fv1 [0] [] (jn @rdr4.eq_1 (jn @rdO4.eq_1 @cstE.eq_1))
  · have g' : ¬ (q : Int) = 1 := by omega
    have h2 := rrint_ac b k1 e1 o hb ho.1
    rw [if_neg g] at hm
    generalize rdN b k1 e1 = u at *
    obtain ⟨s, k2, e2⟩ := u
    simp only at h2 hm
    rw [hm]
    refine rn1 (jn @rdr4.eq_1 (jn @rdO4.eq_1 @g')) ?_
    refine HO_callX ty_ok [0] (h2) (rdr4_hand _ _ _ _ _ _ rfl) (rdr4_wf _ _ _ _) ?_
    rintro v r' ⟨rfl, rfl⟩ _
    refine rn1 (jn @rdr4.eq_1 @rdO4.eq_1) ?_
    exact fv1 [0] [] (jn @rdr4.eq_1 (jn @rdO4.eq_1 @cstE.eq_1))
end Go.Proofs.YtdbicadncccpoaaGreat

set_option linter.unusedVariables false
set_option linter.unusedSimpArgs false
set_option maxRecDepth 100000
namespace Go.Proofs.YtdbicadncccpoaaGreat
open Go Go.ChangeShapes Go.WideShapes
theorem flatE_snoc {α : Type} (en : α → List D) (l : List α) (a : α) : flatE en (l ++ [a]) = flatE en l ++ en a := by rw [flatE_app, flatE_one]
end Go.Proofs.YtdbicadncccpoaaGreat

set_option linter.unusedVariables false
set_option linter.unusedSimpArgs false
set_option maxRecDepth 100000
namespace Go.Proofs.YtdbicadncccpoaaGreat
open Go Go.ChangeShapes Go.WideShapes
structure Lit where
  b : Trm
  p : ByteArray
  l : List Trm
  a : Trm
deriving DecidableEq
/-- Many, up to the first error. -/
def rdG {α : Type} (one : Int → Int → Bool → α × Int × Int × Bool) : Nat → Int → Int → Bool → List α × Int × Int × Bool
  | 0, k, e, o => ([], k, e, o)
  | n + 1, k, e, o => if e = 0 then ((one k e o).1 :: (rdG one n (one k e o).2.1 (one k e o).2.2.1 (one k e o).2.2.2).1, (rdG one n (one k e o).2.1 (one k e o).2.2.1 (one k e o).2.2.2).2) else ([], k, e, o)
theorem rdG_err {α : Type} {one : Int → Int → Bool → α × Int × Int × Bool} {k e : Int} {o : Bool} (h : e ≠ 0) : ∀ n, rdG one n k e o = ([], k, e, o)
  | 0 => rfl
  | n + 1 => by rw [rdG, if_neg h]
/-- One, then the next. -/
def thn {α γ : Type} (x : α × Int × Int × Bool) (f : α → Int → Int → Bool → γ) : γ := f x.1 x.2.1 x.2.2.1 x.2.2.2
def tx4 (b : List UInt8) (k e : Int) (o : Bool) : ByteArray × Int × Int × Bool := ((rdT b k e).1, (rdT b k e).2.1, (rdT b k e).2.2, o)
def ct4 (b : List UInt8) (most : Int) (k e : Int) (o : Bool) : Int × Int × Int × Bool := ((rdC b most k e).1, (rdC b most k e).2.1, (rdC b most k e).2.2, o)
end Go.Proofs.YtdbicadncccpoaaGreat

set_option linter.unusedVariables false
set_option linter.unusedSimpArgs false
set_option maxRecDepth 100000
namespace Go.Proofs.YtdbicadncccpoaaGreat
open Go Go.ChangeShapes Go.WideShapes
end Go.Proofs.YtdbicadncccpoaaGreat
