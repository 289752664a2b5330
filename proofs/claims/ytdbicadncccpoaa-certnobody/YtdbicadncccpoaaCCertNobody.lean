import Derived.Test.YtdbicadncccpoaaCJ8
set_option linter.unusedVariables false
set_option linter.unusedSimpArgs false
set_option maxRecDepth 100000
namespace Go.Proofs.Ytdbicadncccpoaa
open Go Go.ChangeShapes Go.WideShapes
/-! CertNobody: of sources without a trail, and of none, there is no certificate. -/
theorem srcT_none : ∀ (S : List Srce) (who : ByteArray), (∀ s ∈ S, s.t = none) → srcT who S = none
  | [], _, _ => rfl
  | s :: S, who, h => by
    rw [srcT]
    split
    · exact h s (by simp)
    · exact srcT_none S who fun x hx => h x (by simp [hx])
theorem makeE_none {S : List Srce} (h : ∀ s ∈ S, s.t = none) (who : ByteArray) (f : Fct) : makeE S who f = 152 ∧ makeL S who f = [] := by
  have h1 : addP S ((facts S).length + 1) who f ([], []) = none := by
    rw [addP, if_neg (by simp), if_pos]
    rw [reasonP, if_pos]
    rw [srcT_none S who h]; rfl
  exact ⟨by rw [makeE, h1]; rfl, by rw [makeL, h1]⟩
theorem facts_none {S : List Srce} (h : ∀ s ∈ S, s.t = none) : (facts S).length ≤ 100000 := by
  have : facts S = [] := by
    rw [facts, List.flatMap_eq_nil_iff]
    intro s hs
    rw [h s hs]
  rw [this]; exact Nat.zero_le _
set_option maxHeartbeats 400000 in
theorem certNobody_ac (who : ByteArray) (f : Fct) (hf : f.l.length ≤ 140737488352000) : AC Try.prog noG 4 [.d (.c (.string who)), .d (.agg (fctE f))] [] (fun v r' => v = .d (.c (.bool true)) ∧ r' = []) := by
  refine AC.pure ?_ (by rintro v rfl; rfl)
  refine AC_of_R (N := 36) (res := [.tmp 4]) ty_ok Try.call4 Try.func4 rfl rfl rfl (Nat.le_of_ble_eq_true rfl) ?_
  have n1 : ∀ s ∈ ([] : List Srce), s.t = none := by simp
  have n2 : ∀ s ∈ ([⟨who, none⟩, ⟨f.b, none⟩] : List Srce), s.t = none := by
    intro s hs
    simp only [List.mem_cons, List.not_mem_nil, or_false] at hs
    rcases hs with rfl | rfl <;> rfl
  have k1 := make_ac [] ⟨by decide, by simp⟩ (facts_none n1) who f hf
  have k2 := make_ac [⟨who, none⟩, ⟨f.b, none⟩] ⟨Nat.le_of_ble_eq_true rfl, fun s hs => by rw [n2 s hs]; trivial⟩ (facts_none n2) who f hf
  rw [(makeE_none n1 who f).1, (makeE_none n1 who f).2] at k1
  rw [(makeE_none n2 who f).1, (makeE_none n2 who f).2] at k2
  rw [show flatE srcE ([] : List Srce) = [] from rfl, show ([] : List Srce).length = 0 from rfl] at k1
  rw [show flatE srcE ([⟨who, none⟩, ⟨f.b, none⟩] : List Srce) = [.c (.string who), .c (.pointer none), .c (.string f.b), .c (.pointer none)] from rfl, show ([⟨who, none⟩, ⟨f.b, none⟩] : List Srce).length = 2 from rfl] at k2
  simp only [fctE, List.cons_append, List.nil_append] at k1 k2
  refine rn1 @fctE.eq_1 ?_
  refine HO_pureA ty_ok k1 ?_
  refine rn0 ?_
  refine HO_pureA ty_ok k2 ?_
  refine rn0 ?_
  refine HO_pureA ty_ok ctlive_ac ?_
  exact rz0
end Go.Proofs.Ytdbicadncccpoaa
