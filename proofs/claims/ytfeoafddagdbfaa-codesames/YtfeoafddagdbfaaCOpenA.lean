import Derived.Test.YtfeoafddagdbfaaCBase
set_option linter.unusedVariables false
set_option linter.unusedSimpArgs false
set_option maxRecDepth 100000
namespace Go.Proofs.Ytfeoafddagdbfaa
open Go Go.ChangeShapes Go.WideShapes
theorem opens_array {P : Program} {t e : TypeId} {α : Type} {en : α → List D} {ms : α → Nat} {ok : α → Prop} {n sz : Nat} (ht : P.underlying t = some (.array n e)) (hsz : P.cellsOf e = sz) (hct : P.cellsOf t = n * sz) (hen : ∀ a, ok a → (en a).length = sz) (h : Opens P e en ms ok) :
    Opens P t (fun l : List α => l.flatMap en) (fun _ => 1) (fun l => l.length = n ∧ ∀ a ∈ l, ok a) := by
  intro H enc W fuel cs x hx hw
  obtain ⟨xs, m, _, rfl, hl, hlen, hf⟩ := DataW.trod_array ht hx
  have hlist : ∀ k, k ≤ n → ∃ l : List α, l.length = k ∧ (∀ a ∈ l, ok a) ∧ RL (oldT W) W (l.flatMap en) (cs.take (k * sz)) := by
    intro k
    induction k with
    | zero => exact fun _ => ⟨[], rfl, fun a ha => by simp at ha, by simp [RL]⟩
    | succ k ih =>
      intro hk
      obtain ⟨l, hl1, hok, hr⟩ := ih (by omega)
      have hi : k < xs.length := by omega
      have h1 := hf k (by omega)
      rw [List.getElem?_eq_getElem hi, hsz] at h1
      have hm : xs[k].1 ∈ xs.map (·.1) := List.mem_map.2 ⟨xs[k], List.getElem_mem hi, rfl⟩
      obtain ⟨a, o1, r1, _⟩ := h H enc W m _ xs[k] h1 (fun q hq => hw q (by
        simp only [DataW.weights, ht]
        exact weightsAll_mem hm q hq))
      refine ⟨l ++ [a], by simp [hl1], ?_, ?_⟩
      · intro y hy
        simp only [List.mem_append, List.mem_cons, List.not_mem_nil, or_false] at hy
        rcases hy with hy | rfl
        · exact hok y hy
        · exact o1
      · rw [List.flatMap_append, List.flatMap_cons, List.flatMap_nil, List.append_nil, Nat.succ_mul, List.take_add]
        exact RL_append _ _ _ _ hr r1
  obtain ⟨l, h1, h2, h3⟩ := hlist n (Nat.le_refl _)
  refine ⟨l, ⟨h1, h2⟩, ?_, by simp only [bk]; omega⟩
  rw [List.take_of_length_le (by omega)] at h3
  exact h3
end Go.Proofs.Ytfeoafddagdbfaa
