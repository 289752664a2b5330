import Derived.Test.YtdbicadncccpoaaCJ14
set_option linter.unusedVariables false
set_option linter.unusedSimpArgs false
set_option maxRecDepth 100000
namespace Go.Proofs.Ytdbicadncccpoaa
open Go Go.ChangeShapes Go.WideShapes
/-! The document's Minus, where nothing is left. -/
def miSt (a b : List Fct) (i : Nat) : List (Nat × AV) := [(0, .d (.sl 4 a.length (flatE fctE a))), (1, .d (.sl 4 b.length (flatE fctE b))), (5, .d (.c (.slice none 0 0))), (6, .d (.c (.int .i64 i)))]
theorem minus_ac (a b : List Fct) (ha : a.length ≤ 140737488352000) (hb : b.length ≤ 140737488352000) (ga : ∀ g ∈ a, g.l.length ≤ 140737488352000) (gb : ∀ g ∈ b, g.l.length ≤ 140737488352000) (hab : ∀ g ∈ a, g ∈ b) :
    AC Try.prog noG 29 [.d (.sl 4 a.length (flatE fctE a)), .d (.sl 4 b.length (flatE fctE b))] [] (fun v r' => v = .d (.c (.slice none 0 0)) ∧ r' = []) := by
  refine AC.fit ?_
  refine AC_of_R (N := 27) (res := [.tmp 4]) ty_ok Try.call29 Try.func29 rfl rfl rfl (Nat.le_of_ble_eq_true rfl) ?_
  refine rn0 ?_
  refine HC_loopR (fun i : Nat => miSt a b i) (fun _ => []) (fun i => i ≤ a.length) (fun i => a.length - i) 0 [] [] (Nat.zero_le _) ?_ ?_
  · exact ft1 @miSt.eq_1
  intro i hi1
  refine HC_of_R ty_ok ?_
  by_cases hlt : i < a.length
  · have hi : (i : Int) < a.length := by omega
    have hd := flatE_drop fctE_len a i hlt
    have hle := flatE_len fctE_len a
    have hm := hab _ (List.getElem_mem hlt)
    have kh := has_ac b hb gb a[i] (ga _ (List.getElem_mem hlt))
    rw [decide_eq_true hm] at kh
    generalize a[i] = g at *
    simp only [fctE, List.cons_append, List.nil_append] at hd kh
    refine rn1 (jn @miSt.eq_1 (jn @hi (jn @hd @hle))) ?_
    (repeat (refine And.intro (by omega) ?_))
    refine HO_pureA ty_ok kh ?_
    refine rn0 ?_
    (repeat (refine And.intro (by omega) ?_))
    refine ⟨i + 1, (by omega), by omega, [], [], ?_⟩
    exact ft1 @miSt.eq_1
  · have hi : ¬ (i : Int) < a.length := by omega
    refine rn1 (jn @miSt.eq_1 @hi) ?_
    exact fv0 [] []
end Go.Proofs.Ytdbicadncccpoaa
