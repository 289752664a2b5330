import Derived.Test.YtfeoafddagdbfaaCCodeReads
import Derived.Test.YtfeoafddagdbfaaCTripI
set_option linter.unusedVariables false
set_option linter.unusedSimpArgs false
set_option maxRecDepth 100000
namespace Go.Proofs.Ytfeoafddagdbfaa
open Go Go.ChangeShapes Go.WideShapes
theorem enc_of {b : List UInt8} {l : List Rul} (h1 : l.length ≤ 768) (h2 : ∀ r ∈ l, rightR r = true ∧ okRl r) (h3 : b = leb (zig (l.length : Int)) ++ l.foldl putR []) : encR l = (b, 0) := by
  unfold encR
  rw [if_neg (by omega), if_pos (List.all_eq_true.2 fun r hr => (h2 r hr).1), fold_app putR_app, ← h3]
theorem At.slice {b : List UInt8} {k nx : Int} {x : List UInt8} (h : At b k x nx) : (b.drop k.toNat).take (nx.toNat - k.toNat) = x := by
  obtain ⟨kn, h1, h2, h3, h4⟩ := h
  have e1 : k.toNat = kn := by omega
  have e2 : nx.toNat - k.toNat = x.length := by omega
  rw [e1] at e2 ⊢
  rw [e2, h4]
set_option maxHeartbeats 1000000 in
theorem codeOne_ac (b : List UInt8) (k : Int) (hb : b.length ≤ 140737488355000) (h0 : -9223372036854775808 ≤ k) (h1 : k ≤ 9223372036854775807) : AC Try.prog noG 8 [.d (.sl 1 b.length (bD b)), .d (.c (.int .i64 k))] [] (fun v r' => v = .d (.c (.bool true)) ∧ r' = []) := by
  refine AC.pure ?_ (by rintro v rfl; rfl)
  refine AC_of_R (N := 81) (res := [.tmp 4]) ty_ok Try.call8 Try.func8 rfl rfl rfl (Nat.le_of_ble_eq_true rfl) ?_
  by_cases hb3 : b.length ≤ 3000
  · have g3 : ¬ (b.length : Int) > 3000 := by omega
    have hq := fact_ac b k (by omega) h0 h1
    have hd := dec_ac b (by omega)
    have hs := dec_sz (b := b)
    have hnil : (decE b (dec0 (dcC b) b)).2 ≠ 0 → (decE b (dec0 (dcC b) b)).1 = [] := by
      intro hh
      unfold decE at hh ⊢
      split
      · rename_i h2
        rw [if_pos h2] at hh
        split
        · rfl
        · rename_i h3
          rw [if_neg h3] at hh
          exact absurd rfl hh
      · rfl
    obtain ⟨t, hdec⟩ : ∃ t, decE b (dec0 (dcC b) b) = t := ⟨_, rfl⟩
    rw [hdec] at hd hs hnil
    obtain ⟨l, er⟩ := t
    simp only [deV] at hd hs hnil
    have hl := rdF_len (b := b) (k := k)
    obtain ⟨u, hu⟩ : ∃ u, rdF b k = u := ⟨_, rfl⟩
    rw [hu] at hq hl
    obtain ⟨f, nx, e⟩ := u
    simp only [fcV, fctE] at hq hl
    refine rn1 @g3 ?_
    refine HO_pureA ty_ok hq ?_
    by_cases he0 : e = 0
    · subst he0
      obtain ⟨c1, c2, c3⟩ := rdF_inv hu
      have hA := c3.bd
      have hsl := c3.slice
      have hp := putF_dat [] f c2 (by omega) (by simp)
      have e1 : putFR [] f = WF f := by rw [putFR, if_pos c1, putF_app, List.nil_append]
      rw [chkE_ok c1, e1] at hp
      have hps := putFR_len (b := []) c2
      rw [e1, List.length_nil] at hps
      have sm := same_ac (WF f) (WF f) (by omega) (by omega)
      rw [decide_eq_true rfl] at sm
      have hlen : ((WF f).length : Int) = nx - k := by omega
      have hlen2 : nx.toNat - k.toNat = (WF f).length := by omega
      have hpos : 0 < (WF f).length := by
        unfold WF
        rw [List.length_append, putTx_len]
        have : 0 < (leb (zig (f.a.size : Int))).length := by rw [leb]; split <;> simp
        omega
      have k1 : ¬ nx ≤ k := by omega
      have k2 : ¬ nx > b.length := by omega
      simp only [fctE] at hp
      refine rn0 ?_
      refine HO_pureA ty_ok hp ?_
      refine rn1 (jn @k1 @k2) ?_
      (repeat (refine And.intro (by omega) ?_))
      rw [hsl, hlen2]
      refine HO_pureA ty_ok sm ?_
      refine rn0 ?_
      refine HO_pureA ty_ok hd ?_
      by_cases h0 : er = 0
      · subst h0
        obtain ⟨i1, i2, i3⟩ := dec_inv hdec
        have he := enc_ac l (fun r hr => ⟨hs.2 r hr, (i2 r hr).2⟩) (by omega)
        rw [enc_of i1 i2 i3] at he
        have sm := same_ac b b (by omega) (by omega)
        rw [decide_eq_true rfl] at sm
        simp only [enV] at he
        refine rn0 ?_
        refine HO_pureA ty_ok he ?_
        refine rn0 ?_
        refine HO_pureA ty_ok sm ?_
        refine rn0 ?_
        refine HO_pureA ty_ok clive_ac ?_
        exact rz0
      · have hl0 := hnil h0
        have hl0' : (l.length : Int) = 0 := by rw [hl0]; rfl
        refine rn1 (jn @h0 @hl0') ?_
        refine HO_pureA ty_ok clive_ac ?_
        exact rz0
    · refine rn1 @he0 ?_
      refine HO_pureA ty_ok hd ?_
      by_cases h0 : er = 0
      · subst h0
        obtain ⟨i1, i2, i3⟩ := dec_inv hdec
        have he := enc_ac l (fun r hr => ⟨hs.2 r hr, (i2 r hr).2⟩) (by omega)
        rw [enc_of i1 i2 i3] at he
        have sm := same_ac b b (by omega) (by omega)
        rw [decide_eq_true rfl] at sm
        simp only [enV] at he
        refine rn0 ?_
        refine HO_pureA ty_ok he ?_
        refine rn0 ?_
        refine HO_pureA ty_ok sm ?_
        refine rn0 ?_
        refine HO_pureA ty_ok clive_ac ?_
        exact rz0
      · have hl0 := hnil h0
        have hl0' : (l.length : Int) = 0 := by rw [hl0]; rfl
        refine rn1 (jn @h0 @hl0') ?_
        refine HO_pureA ty_ok clive_ac ?_
        exact rz0
  · have g3 : (b.length : Int) > 3000 := by omega
    refine rn1 @g3 ?_
    refine HO_pureA ty_ok clive_ac ?_
    exact rz0
end Go.Proofs.Ytfeoafddagdbfaa
