import Derived.Test.YtdbicadncccpoaaCJ13
import Derived.Test.YtdbicadncccpoaaCJ12
import Derived.Test.YtdbicadncccpoaaCJ8
import Derived.Test.YtdbicadncccpoaaCJ0
set_option linter.unusedVariables false
set_option linter.unusedSimpArgs false
set_option maxRecDepth 100000
namespace Go.Proofs.Ytdbicadncccpoaa
open Go Go.ChangeShapes Go.WideShapes
/-! CertBack: what is laid is read as it was; what is read is laid as the very bytes. -/
theorem encX_le {c : List Ntr} (ho : ∀ x ∈ c, okX x) : (encX c).length ≤ 100000000 := by
  rw [encX]
  split
  · rename_i h
    rw [encG, Bool.and_eq_true, decide_eq_true_eq, List.all_eq_true] at h
    have h1 := foldE_le c (leb (zig (c.length : Int))) (fun x hx => ⟨ho x hx, h.2 x hx⟩)
    have h2 := leb_i64 (n := (c.length : Int)) (by omega) (by omega)
    rw [encB]; omega
  · simp
set_option maxHeartbeats 800000 in
theorem certBack_ac (c : List Ntr) (b : List UInt8) (hl : c.length ≤ 140737488352000) (hs : ∀ x ∈ c, szE x) (ho : ∀ x ∈ c, ∀ g ∈ facX x, okF g) (hb : b.length ≤ 140737488351232) : AC Try.prog noG 7 [.d (.sl 39 c.length (flE c)), .d (.sl 1 b.length (bD b))] [] (fun v r' => v = .d (.c (.bool true)) ∧ r' = []) := by
  refine AC.pure ?_ (by rintro v rfl; rfl)
  refine AC_of_R (N := 70) (res := [.tmp 4]) ty_ok Try.call7 Try.func7 rfl rfl rfl (Nat.le_of_ble_eq_true rfl) ?_
  have kw := wE_ac c 300 hl hs (by decide) (by decide)
  refine rn0 ?_
  refine HO_callX ty_ok [] kw (trivial) rfl ?_
  rintro v r' ⟨⟨n, rfl, hn0⟩, rfl⟩ _
  by_cases hn : n > 300
  · refine rn1 @hn ?_
    refine HO_pureA ty_ok ctlive_ac ?_
    exact rz0
  by_cases hbl : (b.length : Int) > 5000
  · refine rn1 (jn @hn @hbl) ?_
    refine HO_pureA ty_ok ctlive_ac ?_
    exact rz0
  obtain ⟨hc1, hc2⟩ := hn0 (by omega)
  have hc3 : ∀ x ∈ c, okX x := fun x hx => ⟨⟨(hs x hx).1, by have := (hc2 x hx).1; omega, by have := (hc2 x hx).2.1; omega, fun g hg => by have := (hc2 x hx).2.2 g hg; omega⟩, ho x hx⟩
  have hcL : okL c := ⟨by omega, fun x hx => (hc3 x hx).1⟩
  have ke := encode_ac c hcL hc3
  have hxl := encX_le hc3
  have kd := decode_ac b (by omega)
  refine rn1 (jn @hn @hbl) ?_
  refine HO_pureA ty_ok ke ?_
  cases hG : encG c with
  | true =>
    have kd1 := decode_ac (encX c) (by omega)
    have e1 : decR (encX c) = some c := by rw [encX, if_pos hG]; exact decR_enc hG hc3
    have lk := rlikeE_ac c c hcL hcL
    rw [decide_eq_true rfl] at lk
    rw [e1] at kd1
    simp only [decV] at kd1
    rw [show encE c = 0 by rw [encE, if_pos hG]]
    generalize encX c = X at *
    refine rn0 ?_
    refine HO_pureA ty_ok kd1 ?_
    refine rn0 ?_
    refine HO_pureA ty_ok lk ?_
    refine rn0 ?_
    cases hd : decR b with
    | none =>
      rw [hd] at kd
      simp only [decV] at kd
      refine HO_pureA ty_ok kd ?_
      refine rn0 ?_
      refine HO_pureA ty_ok ctlive_ac ?_
      exact rz0
    | some l =>
      rw [hd] at kd
      simp only [decV] at kd
      obtain ⟨g1, g2, g3⟩ := decR_inv hd
      have gl : l.length ≤ 4096 := by rw [encG, Bool.and_eq_true, decide_eq_true_eq] at g1; exact g1.1
      have k2 := encode_ac l ⟨by omega, fun x hx => (g2 x hx).1⟩ g2
      rw [show encX l = b by rw [encX, if_pos g1, g3], show encE l = 0 by rw [encE, if_pos g1]] at k2
      have sm := same_ac b b (by omega) (by omega)
      rw [decide_eq_true rfl] at sm
      refine HO_pureA ty_ok kd ?_
      refine rn0 ?_
      refine HO_pureA ty_ok k2 ?_
      refine rn0 ?_
      refine HO_pureA ty_ok sm ?_
      refine rn0 ?_
      refine HO_pureA ty_ok ctlive_ac ?_
      exact rz0
  | false =>
    rw [show encE c = 190 by rw [encE, hG]; rfl]
    generalize encX c = X at *
    refine rn0 ?_
    cases hd : decR b with
    | none =>
      rw [hd] at kd
      simp only [decV] at kd
      refine HO_pureA ty_ok kd ?_
      refine rn0 ?_
      refine HO_pureA ty_ok ctlive_ac ?_
      exact rz0
    | some l =>
      rw [hd] at kd
      simp only [decV] at kd
      obtain ⟨g1, g2, g3⟩ := decR_inv hd
      have gl : l.length ≤ 4096 := by rw [encG, Bool.and_eq_true, decide_eq_true_eq] at g1; exact g1.1
      have k2 := encode_ac l ⟨by omega, fun x hx => (g2 x hx).1⟩ g2
      rw [show encX l = b by rw [encX, if_pos g1, g3], show encE l = 0 by rw [encE, if_pos g1]] at k2
      have sm := same_ac b b (by omega) (by omega)
      rw [decide_eq_true rfl] at sm
      refine HO_pureA ty_ok kd ?_
      refine rn0 ?_
      refine HO_pureA ty_ok k2 ?_
      refine rn0 ?_
      refine HO_pureA ty_ok sm ?_
      refine rn0 ?_
      refine HO_pureA ty_ok ctlive_ac ?_
      exact rz0
end Go.Proofs.Ytdbicadncccpoaa
