import Derived.Test.YtjpjnhljmloofaaDoorCBase
set_option linter.unusedVariables false
set_option linter.unusedSimpArgs false
set_option maxRecDepth 100000
namespace Go.Proofs.YtjpjnhljmloofaaDoor
open Go Go.ChangeShapes Go.WideShapes
def OpensF (P : Program) (fs : List Field) (off : Nat) {α : Type} (en : α → List D) (ms : α → Nat) (ok : α → Prop) : Prop :=
  ∀ (H : Type) (enc : TypeId × Value → H) (W : World) (n : Nat) (cs : List Value) (ys : List (DataW H × List MemPlace)), ys.length = fs.length →
    (∀ (i : Nat) f, fs[i]? = some f → ∃ y, ys[i]? = some y ∧ DataW.trod enc P W 0 (fun _ => true) true n f.type ((cs.drop f.offset).take (P.cellsOf f.type)) = some y) →
    (∀ k ∈ DataW.weightsEach P (fs.map (·.type)) (ys.map (·.1)), k ≤ reachBytes) →
    ∃ a, ok a ∧ RL (oldT W) W (en a) ((cs.drop off).take (en a).length) ∧ ms a ≤ bkAll (ys.map (·.1))
theorem opensF_nil (P : Program) (off : Nat) : OpensF P [] off (fun _ : Unit => []) (fun _ => 0) (fun _ => True) := by
  intro H enc W n cs ys hl _ _
  refine ⟨(), trivial, by simp [RL], Nat.zero_le _⟩
theorem opensF_cons {P : Program} {f : Field} {fs : List Field} {off sz : Nat} {α β : Type} {en1 : α → List D} {ms1 : α → Nat} {ok1 : α → Prop} {en2 : β → List D} {ms2 : β → Nat} {ok2 : β → Prop} (hoff : f.offset = off) (hsz : P.cellsOf f.type = sz)
    (hen : ∀ a, ok1 a → (en1 a).length = sz) (h1 : Opens P f.type en1 ms1 ok1) (h2 : OpensF P fs (off + sz) en2 ms2 ok2) :
    OpensF P (f :: fs) off (fun a : α × β => en1 a.1 ++ en2 a.2) (fun a => ms1 a.1 + ms2 a.2) (fun a => ok1 a.1 ∧ ok2 a.2) := by
  intro H enc W n cs ys hl hall hw
  match ys, hl with
  | y :: ys, hl =>
    obtain ⟨y', hy, ht⟩ := hall 0 f rfl
    have hy' : y = y' := by simpa using hy
    subst hy'
    simp only [List.map_cons, DataW.weightsEach, List.mem_append] at hw
    obtain ⟨a, o1, r1, b1⟩ := h1 H enc W n _ y ht (fun k hk => hw k (.inl hk))
    obtain ⟨b, o2, r2, b2⟩ := h2 H enc W n cs ys (by simpa using hl) (fun i g hg => by simpa using hall (i + 1) g (by simpa using hg)) (fun k hk => hw k (.inr hk))
    refine ⟨(a, b), ⟨o1, o2⟩, ?_, by simp only [List.map_cons, bkAll]; omega⟩
    simp only [List.length_append]
    rw [List.take_add, hen a o1, List.drop_drop]
    rw [hoff, hsz] at r1
    exact RL_append _ _ _ _ r1 r2
theorem opens_struct {P : Program} {t : TypeId} {fs : Array Field} {m : Nat} {α : Type} {en : α → List D} {ms : α → Nat} {ok : α → Prop} (ht : P.underlying t = some (.struct fs)) (hm : P.cellsOf t = m) (hen : ∀ a, ok a → (en a).length = m)
    (h : OpensF P fs.toList 0 en ms ok) : Opens P t en (fun a => ms a + 1) ok := by
  intro H enc W fuel cs x hx hw
  obtain ⟨xs, n, _, rfl, hl, hlen, hf⟩ := DataW.trod_struct ht hx
  obtain ⟨a, h1, h2, h3⟩ := h H enc W n cs xs (by simpa using hlen) (fun i f hf' => by
    have h1 := hf i f (by simpa using hf')
    have hi : i < xs.length := by
      have := (List.getElem?_eq_some_iff.1 hf').1
      simp at this; omega
    exact ⟨xs[i], List.getElem?_eq_getElem hi, by rw [h1, List.getElem?_eq_getElem hi]⟩) (fun k hk => hw k (by simpa [DataW.weights, ht] using hk))
  refine ⟨a, h1, ?_, by simp only [bk]; omega⟩
  rw [List.drop_zero, hen a h1, List.take_of_length_le (by omega)] at h2
  exact h2
theorem opensF_c {P : Program} {f : Field} {fs : List Field} {off sz : Nat} {α β : Type} {en1 : α → List D} {ms1 : α → Nat} {ok1 : α → Prop} {en2 : β → List D} {ms2 : β → Nat} {ok2 : β → Prop} (h1 : Opens P f.type en1 ms1 ok1) (h2 : OpensF P fs (off + sz) en2 ms2 ok2) (hoff : f.offset = off) (hsz : P.cellsOf f.type = sz)
    (hen : ∀ a, ok1 a → (en1 a).length = sz) : OpensF P (f :: fs) off (fun a : α × β => en1 a.1 ++ en2 a.2) (fun a => ms1 a.1 + ms2 a.2) (fun a => ok1 a.1 ∧ ok2 a.2) := opensF_cons hoff hsz hen h1 h2
end Go.Proofs.YtjpjnhljmloofaaDoor
