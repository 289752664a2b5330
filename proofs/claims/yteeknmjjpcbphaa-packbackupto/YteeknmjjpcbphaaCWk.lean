import Derived.Test.YteeknmjjpcbphaaCTs
set_option linter.unusedVariables false
set_option linter.unusedSimpArgs false
set_option maxRecDepth 100000
namespace Go.Proofs.Yteeknmjjpcbphaa
open Go Go.ChangeShapes Go.WideShapes
/-- A result's parts, each of which says no more. -/
def WkT : List AV → List AV → Prop
  | [], [] => True
  | a :: ta, b :: tb => WeakA a b ∧ WkT ta tb
  | _, _ => False
theorem WkT.sound {E : Env} {r : Rs} {w : World} : ∀ (l l0 : List AV) (vs : List Value), WkT l l0 → RAL E r w l vs → RAL E r w l0 vs
  | [], [], vs, _, h => h
  | a :: ta, b :: tb, vs, hk, h => by
    simp only [RAL] at h ⊢
    obtain ⟨v, rest, h1, h2, h3⟩ := h
    exact ⟨v, rest, h1, hk.1.sound h2, WkT.sound ta tb rest hk.2 h3⟩
  | [], _ :: _, _, hk, _ => absurd hk (by simp [WkT])
  | _ :: _, [], _, hk, _ => absurd hk (by simp [WkT])
def WkV (v v0 : AV) : Prop := WeakA v v0 ∨ ∃ l l0, v = .tup l ∧ v0 = .tup l0 ∧ WkT l l0
theorem wkv_tup {l l0 : List AV} (h : WkT l l0) : WkV (.tup l) (.tup l0) := .inr ⟨l, l0, rfl, rfl, h⟩
theorem WkV.sound {E : Env} {r : Rs} {w : World} {v v0 : AV} {x : Value} (h : WkV v v0) (hr : RA E r w v x) : RA E r w v0 x := by
  rcases h with h | ⟨l, l0, rfl, rfl, h⟩
  · exact h.sound hr
  · simp only [RA] at hr ⊢
    obtain ⟨vs, h1, h2⟩ := hr
    exact ⟨vs, h1, WkT.sound l l0 _ h h2⟩
/-- A result that says no more, and owns nothing. -/
theorem AC.wk {P : Program} {G : Nat → List D} {f : FuncId} {args : List AV} {v0 : AV} (h : AC P G f args [] fun v _ => WkV v v0) (hw : wfA 0 v0 = true) : AC P G f args [] (fun v r' => v = v0 ∧ r' = []) := by
  refine ⟨h.1, fun E w vals hG hA => (h.2 E w vals hG hA).mono fun e w' ⟨v, x, r', E', he, ho, h1, h2, h3⟩ => ?_⟩
  have hW : WeakR r' [] := ⟨by simp, fun i x h => by simp at h⟩
  exact ⟨v0, x, [], E', he, ⟨rfl, rfl⟩, RA_weak hW v0 x hw (ho.sound h1), h2.weak hW rfl, h3.weak hW (by simp)⟩
end Go.Proofs.Yteeknmjjpcbphaa
