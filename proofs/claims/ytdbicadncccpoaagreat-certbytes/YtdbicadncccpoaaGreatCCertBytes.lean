import Derived.Test.YtdbicadncccpoaaGreatCJ13
import Derived.Test.YtdbicadncccpoaaGreatCJ12
import Derived.Test.YtdbicadncccpoaaGreatCJ8
import Derived.Test.YtdbicadncccpoaaGreatCJ0
import Derived.Test.YtdbicadncccpoaaGreatCJ14
set_option linter.unusedVariables false
set_option linter.unusedSimpArgs false
set_option maxRecDepth 100000
namespace Go.Proofs.YtdbicadncccpoaaGreat
open Go Go.ChangeShapes Go.WideShapes
/-! CertBytes: any certificate is laid as the document says, or refused; any bytes are the certificate, or none. -/
theorem encX_le (c : List Ntr) (ho : ∀ x ∈ c, okX x) : (encX c).length ≤ 100000000 := by
  rw [encX]
  split
  · rename_i h
    rw [encG, Bool.and_eq_true, decide_eq_true_eq, List.all_eq_true] at h
    have h1 := foldE_le c (leb (zig (c.length : Int))) (fun x hx => ⟨ho x hx, h.2 x hx⟩)
    have h2 := leb_i64 (n := (c.length : Int)) (by omega) (by omega)
    rw [encB]; omega
  · simp
def decW : Option (List Ntr) → List Ntr
  | none => []
  | some l => l
def decU : Option (List Ntr) → Int
  | none => 190
  | some _ => 0
theorem decV_eq (r : Option (List Ntr)) : decV r = .tup [.d (.sl 39 (decW r).length (flE (decW r))), .d (.c (.int .i64 (decU r)))] := by cases r <;> rfl
theorem decW_ok (b : List UInt8) : okL (decW (decR b)) := by
  cases h : decR b with
  | none => exact ⟨by decide, by simp [decW]⟩
  | some l =>
    obtain ⟨g1, g2, _⟩ := decR_inv h
    rw [encG, Bool.and_eq_true, decide_eq_true_eq] at g1
    exact ⟨by simp only [decW]; omega, fun x hx => (g2 x hx).1⟩
set_option maxHeartbeats 800000 in
theorem certBytes_ac (c : List Ntr) (b : List UInt8) (hl : c.length ≤ 140737488352000) (hs : ∀ x ∈ c, szE x) (ho : ∀ x ∈ c, ∀ g ∈ facX x, okF g) (hb : b.length ≤ 140737488351232) : AC Tryz.prog noG 3 [.d (.sl 39 c.length (flE c)), .d (.sl 1 b.length (bD b))] [] (fun v r' => v = .d (.c (.bool true)) ∧ r' = []) := by
  refine AC.pure ?_ (by rintro v rfl; rfl)
  refine AC_of_R (N := 76) (res := [.tmp 4]) ty_ok Tryz.call3 Tryz.func3 rfl rfl rfl (Nat.le_of_ble_eq_true rfl) ?_
  have kw := wE_ac c 300 hl hs (by decide) (by decide)
  refine rn0 ?_
  refine HO_callX ty_ok [] kw (trivial) rfl ?_
  rintro v r' ⟨⟨n, rfl, _, hn0⟩, rfl⟩ _
  by_cases hn : n > 300
  · refine rn1 @hn ?_
    refine HO_pureA ty_ok ctlive_ac ?_
    exact rz0
  by_cases hbl : (b.length : Int) > 5000
  · refine rn1 (jn @hn @hbl) ?_
    refine HO_pureA ty_ok ctlive_ac ?_
    exact rz0
  obtain ⟨hc1, hc2⟩ := hn0 (by omega)
  have hc3 : ∀ x ∈ c, okX x := fun x hx => ⟨⟨(hs x hx).1, by have := (hc2 x hx).1; omega, by have := (hc2 x hx).2.1; omega, fun g hg => by have := (hc2 x hx).2.2 g hg; omega⟩, ho x hx⟩
  have hcL : okL c := ⟨by omega, fun x hx => (hc3 x hx).1⟩
  have ke := encode_ac c hcL hc3
  have kr := rencode_ac c hcL hc3
  have hxl := encX_le c hc3
  have sm := same_ac (encX c) (encX c) (by omega) (by omega)
  rw [decide_eq_true rfl] at sm
  generalize encX c = X at *
  generalize encE c = e at *
  have kl := lent_ac b (by omega)
  have kk := kept_ac b (by omega)
  have kd := decode_ac b (by omega)
  have kf := rdecode_ac b (by omega)
  have hW := decW_ok b
  rw [decV_eq] at kd kf
  generalize decW (decR b) = W at *
  generalize decU (decR b) = u at *
  have lk := rlikeE_ac W W hW hW
  rw [decide_eq_true rfl] at lk
  have cs := csame_ac W W hW hW
  rw [decide_eq_true rfl] at cs
  refine rn1 (jn @hn @hbl) ?_
  refine HO_pureA ty_ok kl ?_
  refine rn0 ?_
  refine HO_pureA ty_ok ke ?_
  refine rn0 ?_
  refine HO_pureA ty_ok kr ?_
  refine rn0 ?_
  refine HO_pureA ty_ok kd ?_
  refine rn0 ?_
  refine HO_pureA ty_ok kf ?_
  refine rn0 ?_
  refine HO_pureA ty_ok sm ?_
  refine rn0 ?_
  refine HO_pureA ty_ok lk ?_
  refine rn0 ?_
  refine HO_pureA ty_ok kk ?_
  refine rn0 ?_
  refine HO_pureA ty_ok cs ?_
  refine rn0 ?_
  refine HO_pureA ty_ok ctlive_ac ?_
  exact rz0
end Go.Proofs.YtdbicadncccpoaaGreat
