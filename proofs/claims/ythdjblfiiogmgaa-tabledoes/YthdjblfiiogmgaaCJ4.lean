/- Parts of the proof: TNoneE, PutInt, Same, PutText, PutC, OpenS, OpenA, OpenK, OpenT, TNoneA, TLive, FSet, TbNone. -/
import Derived.Test.YthdjblfiiogmgaaCJ3
import Derived.Test.YthdjblfiiogmgaaCJ0
import Derived.Test.YthdjblfiiogmgaaCJ1
import Derived.Test.YthdjblfiiogmgaaCJ2
set_option linter.unusedVariables false
set_option linter.unusedSimpArgs false
set_option maxRecDepth 100000
namespace Go.Proofs.Ythdjblfiiogmgaa
open Go Go.ChangeShapes Go.WideShapes
/-! .. takes nothing. -/
end Go.Proofs.Ythdjblfiiogmgaa

set_option linter.unusedVariables false
set_option linter.unusedSimpArgs false
set_option maxRecDepth 100000
namespace Go.Proofs.Ythdjblfiiogmgaa
open Go Go.ChangeShapes Go.WideShapes
end Go.Proofs.Ythdjblfiiogmgaa

set_option linter.unusedVariables false
set_option linter.unusedSimpArgs false
set_option maxRecDepth 100000
namespace Go.Proofs.Ythdjblfiiogmgaa
open Go Go.ChangeShapes Go.WideShapes
end Go.Proofs.Ythdjblfiiogmgaa

set_option linter.unusedVariables false
set_option linter.unusedSimpArgs false
set_option maxRecDepth 100000
namespace Go.Proofs.Ythdjblfiiogmgaa
open Go Go.ChangeShapes Go.WideShapes
end Go.Proofs.Ythdjblfiiogmgaa

set_option linter.unusedVariables false
set_option linter.unusedSimpArgs false
set_option maxRecDepth 100000
namespace Go.Proofs.Ythdjblfiiogmgaa
open Go Go.ChangeShapes Go.WideShapes
def okC (c : Cst) : Prop := -9223372036854775808 ≤ c.n ∧ c.n ≤ 9223372036854775807
theorem l1 (b : List UInt8) (x : UInt8) : (b ++ [x]).length = b.length + 1 := by simp
theorem l2 (b : List UInt8) (x : UInt8) (l : List UInt8) : (b ++ [x] ++ l).length = b.length + 1 + l.length := by simp; omega
end Go.Proofs.Ythdjblfiiogmgaa

set_option linter.unusedVariables false
set_option linter.unusedSimpArgs false
set_option maxRecDepth 100000
namespace Go.Proofs.Ythdjblfiiogmgaa
open Go Go.ChangeShapes Go.WideShapes
def OpensF (P : Program) (fs : List Field) (off : Nat) {α : Type} (en : α → List D) (ms : α → Nat) (ok : α → Prop) : Prop :=
  ∀ (H : Type) (enc : TypeId × Value → H) (W : World) (n : Nat) (cs : List Value) (ys : List (DataW H × List MemPlace)), ys.length = fs.length →
    (∀ (i : Nat) f, fs[i]? = some f → ∃ y, ys[i]? = some y ∧ DataW.trod enc P W 0 (fun _ => true) true n f.type ((cs.drop f.offset).take (P.cellsOf f.type)) = some y) →
    (∀ k ∈ DataW.weightsEach P (fs.map (·.type)) (ys.map (·.1)), k ≤ reachBytes) →
    ∃ a, ok a ∧ RL (oldT W) W (en a) ((cs.drop off).take (en a).length) ∧ ms a ≤ bkAll (ys.map (·.1))
theorem opensF_nil (P : Program) (off : Nat) : OpensF P [] off (fun _ : Unit => []) (fun _ => 0) (fun _ => True) := by
  intro H enc W n cs ys hl _ _
  refine ⟨(), trivial, by simp [RL], Nat.zero_le _⟩
theorem opensF_cons {P : Program} {f : Field} {fs : List Field} {off sz : Nat} {α β : Type} {en1 : α → List D} {ms1 : α → Nat} {ok1 : α → Prop} {en2 : β → List D} {ms2 : β → Nat} {ok2 : β → Prop} (hoff : f.offset = off) (hsz : P.cellsOf f.type = sz)
    (hen : ∀ a, ok1 a → (en1 a).length = sz) (h1 : Opens P f.type en1 ms1 ok1) (h2 : OpensF P fs (off + sz) en2 ms2 ok2) :
    OpensF P (f :: fs) off (fun a : α × β => en1 a.1 ++ en2 a.2) (fun a => ms1 a.1 + ms2 a.2) (fun a => ok1 a.1 ∧ ok2 a.2) := by
  intro H enc W n cs ys hl hall hw
  match ys, hl with
  | y :: ys, hl =>
    obtain ⟨y', hy, ht⟩ := hall 0 f rfl
    have hy' : y = y' := by simpa using hy
    subst hy'
    simp only [List.map_cons, DataW.weightsEach, List.mem_append] at hw
    obtain ⟨a, o1, r1, b1⟩ := h1 H enc W n _ y ht (fun k hk => hw k (.inl hk))
    obtain ⟨b, o2, r2, b2⟩ := h2 H enc W n cs ys (by simpa using hl) (fun i g hg => by simpa using hall (i + 1) g (by simpa using hg)) (fun k hk => hw k (.inr hk))
    refine ⟨(a, b), ⟨o1, o2⟩, ?_, by simp only [List.map_cons, bkAll]; omega⟩
    simp only [List.length_append]
    rw [List.take_add, hen a o1, List.drop_drop]
    rw [hoff, hsz] at r1
    exact RL_append _ _ _ _ r1 r2
theorem opens_struct {P : Program} {t : TypeId} {fs : Array Field} {m : Nat} {α : Type} {en : α → List D} {ms : α → Nat} {ok : α → Prop} (ht : P.underlying t = some (.struct fs)) (hm : P.cellsOf t = m) (hen : ∀ a, ok a → (en a).length = m)
    (h : OpensF P fs.toList 0 en ms ok) : Opens P t en (fun a => ms a + 1) ok := by
  intro H enc W fuel cs x hx hw
  obtain ⟨xs, n, _, rfl, hl, hlen, hf⟩ := DataW.trod_struct ht hx
  obtain ⟨a, h1, h2, h3⟩ := h H enc W n cs xs (by simpa using hlen) (fun i f hf' => by
    have h1 := hf i f (by simpa using hf')
    have hi : i < xs.length := by
      have := (List.getElem?_eq_some_iff.1 hf').1
      simp at this; omega
    exact ⟨xs[i], List.getElem?_eq_getElem hi, by rw [h1, List.getElem?_eq_getElem hi]⟩) (fun k hk => hw k (by simpa [DataW.weights, ht] using hk))
  refine ⟨a, h1, ?_, by simp only [bk]; omega⟩
  rw [List.drop_zero, hen a h1, List.take_of_length_le (by omega)] at h2
  exact h2
theorem opensF_c {P : Program} {f : Field} {fs : List Field} {off sz : Nat} {α β : Type} {en1 : α → List D} {ms1 : α → Nat} {ok1 : α → Prop} {en2 : β → List D} {ms2 : β → Nat} {ok2 : β → Prop} (h1 : Opens P f.type en1 ms1 ok1) (h2 : OpensF P fs (off + sz) en2 ms2 ok2) (hoff : f.offset = off) (hsz : P.cellsOf f.type = sz)
    (hen : ∀ a, ok1 a → (en1 a).length = sz) : OpensF P (f :: fs) off (fun a : α × β => en1 a.1 ++ en2 a.2) (fun a => ms1 a.1 + ms2 a.2) (fun a => ok1 a.1 ∧ ok2 a.2) := opensF_cons hoff hsz hen h1 h2
end Go.Proofs.Ythdjblfiiogmgaa

set_option linter.unusedVariables false
set_option linter.unusedSimpArgs false
set_option maxRecDepth 100000
namespace Go.Proofs.Ythdjblfiiogmgaa
open Go Go.ChangeShapes Go.WideShapes
end Go.Proofs.Ythdjblfiiogmgaa

set_option linter.unusedVariables false
set_option linter.unusedSimpArgs false
set_option maxRecDepth 100000
namespace Go.Proofs.Ythdjblfiiogmgaa
open Go Go.ChangeShapes Go.WideShapes
theorem hRB : reachBytes = 140737488351232 := rfl
def okCs (c : Cst) : Prop := okC c ∧ c.s.size ≤ reachBytes
def okFct (f : Fct) : Prop := (f.a.size ≤ reachBytes ∧ f.b.size ≤ reachBytes ∧ f.p.size ≤ reachBytes) ∧ f.l.length * 32 ≤ reachBytes ∧ ∀ c ∈ f.l, okCs c
theorem o_int {t : TypeId} (h : Try.prog.underlying t = some (.int .i64)) : Opens Try.prog t (fun n : Int => [.c (.int .i64 n)]) (fun _ => 1) (fun n => IntKind.i64.min ≤ n ∧ n ≤ IntKind.i64.max) := opens_int h
theorem o_str : Opens Try.prog 9 (fun s : ByteArray => [.c (.string s)]) (fun s => s.size + 1) (fun s => s.size ≤ reachBytes) := opens_string (by kernel_rfl)
theorem o_boo : Opens Try.prog 4 (fun q : Bool => [.c (.bool q)]) (fun _ => 1) (fun _ => True) := opens_bool (by kernel_rfl)
theorem o_cst : Opens Try.prog 85 cstE (fun _ => 1) okCs := by
  have base := opens_struct (m := 3) Try.underlying85 (by kernel_rfl) (fun a _ => rfl) (opensF_c (sz := 1) o_boo (opensF_c (sz := 1) (o_int (t := 3) (by kernel_rfl)) (opensF_c (sz := 1) o_str (opensF_nil Try.prog 3) rfl (by kernel_rfl) (fun _ _ => rfl)) rfl (by kernel_rfl) (fun _ _ => rfl)) rfl (by kernel_rfl) (fun _ _ => rfl))
  exact base.mono (fun x => ⟨x.1, x.2.1, x.2.2.1⟩) (fun a _ => rfl) (fun a _ => by omega) (fun a h => ⟨h.2.1, h.2.2.1⟩)
theorem o_csts : Opens Try.prog 30 (fun l : List Cst => [.sl 3 l.length (flatE cstE l)]) (fun l => (l.map fun _ => 1).sum + 1) (fun l => l.length * 32 ≤ reachBytes ∧ ∀ c ∈ l, okCs c) :=
  opens_slice (e := 85) (by kernel_rfl) (by kernel_rfl) (by kernel_rfl) (fun a _ => rfl) o_cst
theorem o_fct : Opens Try.prog 32 fctE (fun _ => 1) okFct := by
  have base := opens_struct (m := 4) Try.underlying32 (by kernel_rfl) (fun a _ => rfl) (opensF_c (sz := 1) o_str (opensF_c (sz := 1) o_str (opensF_c (sz := 1) o_str (opensF_c (sz := 1) o_csts (opensF_nil Try.prog 4) rfl (by kernel_rfl) (fun _ _ => rfl)) rfl (by kernel_rfl) (fun _ _ => rfl)) rfl (by kernel_rfl) (fun _ _ => rfl)) rfl (by kernel_rfl) (fun _ _ => rfl))
  exact base.mono (fun x => ⟨x.1, x.2.1, x.2.2.1, x.2.2.2.1⟩) (fun a _ => rfl) (fun a _ => by omega) (fun a h => ⟨⟨h.1, h.2.1, h.2.2.1⟩, h.2.2.2.1⟩)
end Go.Proofs.Ythdjblfiiogmgaa

set_option linter.unusedVariables false
set_option linter.unusedSimpArgs false
set_option maxRecDepth 100000
namespace Go.Proofs.Ythdjblfiiogmgaa
open Go Go.ChangeShapes Go.WideShapes
end Go.Proofs.Ythdjblfiiogmgaa

set_option linter.unusedVariables false
set_option linter.unusedSimpArgs false
set_option maxRecDepth 100000
namespace Go.Proofs.Ythdjblfiiogmgaa
open Go Go.ChangeShapes Go.WideShapes
/-! .. and tells nothing. -/
end Go.Proofs.Ythdjblfiiogmgaa

set_option linter.unusedVariables false
set_option linter.unusedSimpArgs false
set_option maxRecDepth 100000
namespace Go.Proofs.Ythdjblfiiogmgaa
open Go Go.ChangeShapes Go.WideShapes
/-! The statement's examples of trails. -/
def fT (n : Int) : Fct := ⟨⟨#[97]⟩, ⟨#[97]⟩, ⟨#[112]⟩, [⟨true, n, ⟨#[]⟩⟩]⟩
end Go.Proofs.Ythdjblfiiogmgaa

set_option linter.unusedVariables false
set_option linter.unusedSimpArgs false
set_option maxRecDepth 100000
namespace Go.Proofs.Ythdjblfiiogmgaa
open Go Go.ChangeShapes Go.WideShapes
/-! Sorted lists of facts, with no program in sight. -/
def posF : List Fct → Fct → Nat
  | [], _ => 0
  | g :: d, f => if ordC g f < 0 then posF d f + 1 else 0
def srtF (d : List Fct) : Prop := d.Pairwise fun a b => ordC a b < 0
theorem posF_le : ∀ (d : List Fct) (f : Fct), posF d f ≤ d.length
  | [], _ => Nat.le_refl _
  | g :: d, f => by
    rw [posF]; split
    · have := posF_le d f; rw [List.length_cons]; omega
    · omega
theorem posF_lt : ∀ (d : List Fct) (f : Fct) (k : Nat) (h : k < d.length), k < posF d f → ordC d[k] f < 0
  | [], _, k, h, _ => by simp at h
  | g :: d, f, k, h, hk => by
    rw [posF] at hk
    split at hk
    · rename_i hg
      cases k with
      | zero => exact hg
      | succ k => exact posF_lt d f k (by simpa using h) (by omega)
    · omega
theorem posF_ge : ∀ (d : List Fct) (f : Fct), srtF d → ∀ (k : Nat) (h : k < d.length), posF d f ≤ k → 0 ≤ ordC d[k] f
  | [], _, _, k, h, _ => by simp at h
  | g :: d, f, hs, k, h, hk => by
    have hs2 := List.pairwise_cons.1 hs
    rw [posF] at hk
    split at hk
    · rename_i hg
      cases k with
      | zero => omega
      | succ k => exact posF_ge d f hs2.2 k (by simpa using h) (by omega)
    · rename_i hg
      cases k with
      | zero => simp only [List.getElem_cons_zero]; omega
      | succ k =>
        have hk2 : k < d.length := by simpa using h
        have h1 := hs2.1 _ (List.getElem_mem hk2)
        simp only [List.getElem_cons_succ]
        rcases Int.lt_or_le (ordC d[k] f) 0 with h2 | h2
        · exact absurd (isOrd.trans _ _ _ h1 h2) hg
        · exact h2
theorem ord_self (f : Fct) : ordC f f = 0 := (isOrd.zero f f).2 rfl
theorem posF_mem {d : List Fct} (hs : srtF d) (f : Fct) : decide (f ∈ d) = decide (∃ h : posF d f < d.length, ordC d[posF d f] f = 0) := by
  rw [Bool.eq_iff_iff, decide_eq_true_eq, decide_eq_true_eq]
  constructor
  · intro hm
    obtain ⟨k, hk, hf⟩ := List.mem_iff_getElem.1 hm
    have h1 : posF d f ≤ k := by
      rcases Nat.lt_or_ge k (posF d f) with h | h
      · have := posF_lt d f k hk h
        rw [hf, ord_self] at this; omega
      · exact h
    have hp : posF d f < d.length := by omega
    refine ⟨hp, ?_⟩
    rcases Nat.lt_or_eq_of_le h1 with h | h
    · have h2 := List.pairwise_iff_getElem.1 hs (posF d f) k hp hk h
      rw [hf] at h2
      have := posF_ge d f hs (posF d f) hp (Nat.le_refl _)
      omega
    · subst h
      have : ordC d[posF d f] f = ordC f f := by
        congr 1
      rw [this, ord_self]
  · rintro ⟨h, h0⟩
    rw [← (isOrd.zero _ _).1 h0]
    exact List.getElem_mem h
def insFc (d : List Fct) (f : Fct) : List Fct := d.take (posF d f) ++ [f] ++ d.drop (posF d f)
theorem insFc_len (d : List Fct) (f : Fct) : (insFc d f).length = d.length + 1 := by
  have := posF_le d f
  simp only [insFc, List.length_append, List.length_take, List.length_drop, List.length_singleton]; omega
theorem insFc_mem {d : List Fct} {f g : Fct} : g ∈ insFc d f ↔ g ∈ d ∨ g = f := by
  have h : g ∈ d ↔ g ∈ d.take (posF d f) ∨ g ∈ d.drop (posF d f) := by rw [← List.mem_append, List.take_append_drop]
  simp only [insFc, List.mem_append, List.mem_singleton]
  rw [h]
  constructor
  · rintro ((h | h) | h)
    · exact .inl (.inl h)
    · exact .inr h
    · exact .inl (.inr h)
  · rintro ((h | h) | h)
    · exact .inl (.inl h)
    · exact .inr h
    · exact .inl (.inr h)
theorem insFc_srt {d : List Fct} (hs : srtF d) {f : Fct} (hf : f ∉ d) : srtF (insFc d f) := by
  have hlt : ∀ g ∈ d.take (posF d f), ordC g f < 0 := by
    intro g hg
    obtain ⟨k, hk, rfl⟩ := List.mem_iff_getElem.1 hg
    rw [List.getElem_take]
    rw [List.length_take] at hk
    exact posF_lt d f k (by omega) (by omega)
  have hgt : ∀ g ∈ d.drop (posF d f), ordC f g < 0 := by
    intro g hg
    have hgd : g ∈ d := List.mem_of_mem_drop hg
    obtain ⟨k, hk, rfl⟩ := List.mem_iff_getElem.1 hg
    rw [List.length_drop] at hk
    have h0 := posF_ge d f hs (posF d f + k) (by omega) (by omega)
    rw [List.getElem_drop] at hgd ⊢
    have hne : ordC d[posF d f + k] f ≠ 0 := fun h => hf ((isOrd.zero _ _).1 h ▸ hgd)
    rw [isOrd.anti]; omega
  have h1 : srtF (d.take (posF d f)) := List.Pairwise.sublist (List.take_sublist _ _) hs
  have h2 : srtF (d.drop (posF d f)) := List.Pairwise.sublist (List.drop_sublist _ _) hs
  refine List.pairwise_append.2 ⟨List.pairwise_append.2 ⟨h1, List.pairwise_singleton _ _, fun a ha b hb => ?_⟩, h2, fun a ha b hb => ?_⟩
  · rw [List.mem_singleton] at hb; subst hb; exact hlt a ha
  · rcases List.mem_append.1 ha with h | h
    · exact isOrd.trans _ _ _ (hlt a h) (hgt b hb)
    · rw [List.mem_singleton] at h; subst h; exact hgt b hb
theorem srtF_nodup {d : List Fct} (h : srtF d) : d.Nodup := h.imp fun {a b} hab he => by subst he; rw [ord_self] at hab; omega
end Go.Proofs.Ythdjblfiiogmgaa

set_option linter.unusedVariables false
set_option linter.unusedSimpArgs false
set_option maxRecDepth 100000
namespace Go.Proofs.Ythdjblfiiogmgaa
open Go Go.ChangeShapes Go.WideShapes
/-! A table that no call made: nil, or one without a limit. -/
end Go.Proofs.Ythdjblfiiogmgaa
