import Derived.Test.YtdbicadncccpoaaCJ16
import Derived.Test.YtdbicadncccpoaaCJ14
set_option linter.unusedVariables false
set_option linter.unusedSimpArgs false
set_option maxRecDepth 100000
namespace Go.Proofs.Ytdbicadncccpoaa
open Go Go.ChangeShapes Go.WideShapes
/-! CertMakes: the certificate of any fact, by any trails, is the document's, or something lacks. -/
theorem makeL_ok {S : List Srce} (hS : okS S) (hF : (facts S).length ≤ 100000) (who : ByteArray) (f : Fct) : okL (makeL S who f) := by
  have g := addR_grow hS ((facts S).length + 1) who f ([], [], false) (by simp) (by simp) (by simp)
  rcases make_agree S who f with ⟨_, h2, _⟩ | ⟨_, h2, _⟩
  · rw [h2]; exact ⟨by decide, by simp⟩
  · rw [← h2]
    have h1 := g.out
    have h3 := sub_len _ _ g.nd g.sub
    simp only [List.length_nil] at h1
    exact ⟨by omega, g.ok⟩
set_option maxHeartbeats 400000 in
theorem certMakes_ac (K : List Knw) (hl : K.length ≤ 140737488352000) (hs : ∀ k ∈ K, szK k) (who : ByteArray) (f : Fct) (hf : f.l.length ≤ 140737488352000) : AC Try.prog noG 5 [.d (.sl 2 K.length (flatE knE K)), .d (.c (.string who)), .d (.agg (fctE f))] [] (fun v r' => v = .d (.c (.bool true)) ∧ r' = []) := by
  refine AC.pure ?_ (by rintro v rfl; rfl)
  refine AC_of_R (N := 47) (res := [.tmp 6]) ty_ok Try.call5 Try.func5 rfl rfl rfl (Nat.le_of_ble_eq_true rfl) ?_
  have kl := light_ac K hl hs
  refine rn1 @fctE.eq_1 ?_
  refine HO_callX ty_ok [] kl (trivial) rfl ?_
  rintro v r' ⟨⟨q, rfl, hq⟩, rfl⟩ _
  cases q with
  | false =>
    refine rn0 ?_
    refine HO_pureA ty_ok ctlive_ac ?_
    exact rz0
  | true =>
    obtain ⟨h1, h2⟩ := hq rfl
    have h3 : ∀ k ∈ K, k.l.length ≤ 300 ∧ ∀ x ∈ k.l, okE x := fun k hk => ⟨(h2 k hk).1, fun x hx => okE_lt ((hs k hk).2 x hx) ((h2 k hk).2 x hx)⟩
    have hS := okS_src' h1 h3
    have hF0 := facts_len h3
    have hF : (facts (K.map srcK)).length ≤ 100000 := by omega
    have k1 := sources_ac K h1 h3
    have k2 := make_ac (K.map srcK) hS hF who f hf
    have k3 := rmake_ac (K.map srcK) hS hF who f hf
    have hm := makeL_ok hS hF who f
    have k4 := rlikeE_ac _ _ hm hm
    rw [decide_eq_true rfl] at k4
    rw [List.length_map] at k2 k3
    generalize makeL (K.map srcK) who f = M at *
    generalize makeE (K.map srcK) who f = e at *
    generalize flatE srcE (K.map srcK) = X at *
    generalize flatE rsE (K.map srcK) = Y at *
    simp only [fctE, List.cons_append, List.nil_append] at k2 k3
    refine rn0 ?_
    refine HO_pureA ty_ok k1 ?_
    refine rn0 ?_
    refine HO_pureA ty_ok k2 ?_
    refine rn0 ?_
    refine HO_pureA ty_ok k3 ?_
    refine rn0 ?_
    refine HO_pureA ty_ok k4 ?_
    refine rn0 ?_
    refine HO_pureA ty_ok ctlive_ac ?_
    exact rz0
end Go.Proofs.Ytdbicadncccpoaa
