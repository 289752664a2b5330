/- The frame of these proofs, part A: what a Go value stands for (a datum, a slice of data, a pointer to a struct of the call's own), and how that lasts while memory grows. -/
import Derived.Tactics
import Derived.Below
import Derived.OwnWalk
import Derived.Maps.AppendAt
import Derived.Laws.OwnMore
import Derived.WideLaws
set_option linter.unusedVariables false
set_option linter.unusedSimpArgs false
namespace Go.Proofs.YteeknmjjpcbphaaDoor
open Go

/-! ### Addresses -/
theorem addr_add_block (a : Addr) (n : Nat) : (a.add n).block = a.block := by unfold Addr.add; split <;> rfl
theorem addr_add_off (a : Addr) (n : Nat) : (a.add n).off = a.off + n := by unfold Addr.add; split <;> simp_all
theorem addr_add_add (a : Addr) (i j : Nat) : (a.add i).add j = a.add (i + j) := by
  unfold Addr.add
  by_cases hi : i = 0 <;> by_cases hj : j = 0 <;> simp [hi, hj, Nat.add_assoc]
theorem addr_add_zero (a : Addr) : a.add 0 = a := by simp [Addr.add]
theorem addr_plain (b i j : Nat) : (⟨b, i, none⟩ : Addr).add j = ⟨b, i + j, none⟩ := by unfold Addr.add; split <;> simp_all

/-! ### Data: values that depend on memory that nobody writes any more -/
inductive D where
  | c (x : Value)
  | sl (sz n : Nat) (xs : List D)
  | agg (xs : List D)

mutual
def RD (T : Nat → Nat) (w : World) : D → Value → Prop
  | .c y, x => x = y ∧ y.oneCell' = true
  | .sl sz n xs, x => xs.length = n * sz ∧ ∃ A c, x = .slice A n c ∧ n ≤ c ∧ (xs = [] ∨ ∃ ad, A = some ad ∧ RM T w xs ad)
  | .agg xs, x => ∃ vs : Array Value, x = .agg vs ∧ RL T w xs vs.toList
def RM (T : Nat → Nat) (w : World) : List D → Addr → Prop
  | [], _ => True
  | d :: ds, ad => (ad.off < T ad.block ∧ ∃ u, w.cell? ad = some u ∧ u.oneCell' = true ∧ RD T w d u) ∧ RM T w ds (ad.add 1)
def RL (T : Nat → Nat) (w : World) : List D → List Value → Prop
  | [], vs => vs = []
  | d :: ds, vs => ∃ v rest, vs = v :: rest ∧ v.oneCell' = true ∧ RD T w d v ∧ RL T w ds rest
end

/-- Memory has grown, and what was laid for good is as it was. -/
structure Lasts (T : Nat → Nat) (w : World) (T' : Nat → Nat) (w' : World) : Prop where
  mark : ∀ b, T b ≤ T' b
  cell : ∀ a : Addr, a.off < T a.block → w'.cell? a = w.cell? a
theorem Lasts.refl (T : Nat → Nat) (w : World) : Lasts T w T w := ⟨fun _ => Nat.le_refl _, fun _ _ => rfl⟩
theorem Lasts.trans {T T' T'' : Nat → Nat} {w w' w'' : World} (h : Lasts T w T' w') (k : Lasts T' w' T'' w'') : Lasts T w T'' w'' :=
  ⟨fun b => Nat.le_trans (h.mark b) (k.mark b), fun a ha => (k.cell a (Nat.lt_of_lt_of_le ha (h.mark _))).trans (h.cell a ha)⟩

mutual
theorem RD.lasts {T T' : Nat → Nat} {w w' : World} (hL : Lasts T w T' w') : ∀ (d : D) (x : Value), RD T w d x → RD T' w' d x
  | .c y, x, h => by simpa [RD] using h
  | .sl sz n xs, x, h => by
    simp only [RD] at h ⊢
    obtain ⟨hl, A, c, rfl, hc, hr⟩ := h
    refine ⟨hl, A, c, rfl, hc, ?_⟩
    rcases hr with h0 | ⟨ad, rfl, hm⟩
    · exact .inl h0
    · exact .inr ⟨ad, rfl, RM.lasts hL xs ad hm⟩
  | .agg xs, x, h => by
    simp only [RD] at h ⊢
    obtain ⟨vs, rfl, hr⟩ := h
    exact ⟨vs, rfl, RL.lasts hL xs _ hr⟩
theorem RM.lasts {T T' : Nat → Nat} {w w' : World} (hL : Lasts T w T' w') : ∀ (ds : List D) (ad : Addr), RM T w ds ad → RM T' w' ds ad
  | [], _, _ => by simp [RM]
  | d :: ds, ad, h => by
    simp only [RM] at h ⊢
    obtain ⟨⟨ho, u, hu, h1, hd⟩, hr⟩ := h
    exact ⟨⟨Nat.lt_of_lt_of_le ho (hL.mark _), u, (hL.cell ad ho).trans hu, h1, RD.lasts hL d u hd⟩, RM.lasts hL ds _ hr⟩
theorem RL.lasts {T T' : Nat → Nat} {w w' : World} (hL : Lasts T w T' w') : ∀ (ds : List D) (vs : List Value), RL T w ds vs → RL T' w' ds vs
  | [], _, h => by simpa [RL] using h
  | d :: ds, vs, h => by
    simp only [RL] at h ⊢
    obtain ⟨v, rest, rfl, h1, hd, hr⟩ := h
    exact ⟨v, rest, rfl, h1, RD.lasts hL d v hd, RL.lasts hL ds rest hr⟩
end

/-! ### Reading lists -/
theorem RM_get {T : Nat → Nat} {w : World} : ∀ (ds : List D) (ad : Addr), RM T w ds ad → ∀ (j : Nat) (d : D), ds[j]? = some d →
    ad.off + j < T ad.block ∧ ∃ u, w.cell? (ad.add j) = some u ∧ u.oneCell' = true ∧ RD T w d u
  | [], _, _, j, d, hd => by simp at hd
  | e :: ds, ad, h, 0, d, hd => by
    simp only [RM] at h
    simp at hd
    subst hd
    rw [addr_add_zero]
    exact ⟨h.1.1, h.1.2⟩
  | e :: ds, ad, h, j + 1, d, hd => by
    simp only [RM] at h
    have := RM_get ds (ad.add 1) h.2 j d (by simpa using hd)
    rw [addr_add_block, addr_add_off, addr_add_add] at this
    rw [show 1 + j = j + 1 from Nat.add_comm _ _] at this
    refine ⟨by omega, this.2⟩
theorem RM_of_get {T : Nat → Nat} {w : World} : ∀ (ds : List D) (ad : Addr), (∀ (j : Nat) (d : D), ds[j]? = some d →
    ad.off + j < T ad.block ∧ ∃ u, w.cell? (ad.add j) = some u ∧ u.oneCell' = true ∧ RD T w d u) → RM T w ds ad
  | [], _, _ => by simp [RM]
  | e :: ds, ad, h => by
    simp only [RM]
    have h0 := h 0 e (by simp)
    rw [addr_add_zero] at h0
    refine ⟨⟨by simpa using h0.1, h0.2⟩, RM_of_get ds (ad.add 1) fun j d hd => ?_⟩
    have := h (j + 1) d (by simpa using hd)
    rw [addr_add_block, addr_add_off, addr_add_add, show 1 + j = j + 1 from Nat.add_comm _ _]
    exact ⟨by omega, this.2⟩
theorem RM_drop {T : Nat → Nat} {w : World} (ds : List D) (ad : Addr) (h : RM T w ds ad) (k : Nat) : RM T w (ds.drop k) (ad.add k) := by
  refine RM_of_get _ _ fun j d hd => ?_
  have := RM_get ds ad h (k + j) d (by simpa [List.getElem?_drop] using hd)
  rw [addr_add_block, addr_add_off, addr_add_add]
  exact ⟨by omega, this.2⟩
theorem RM_take {T : Nat → Nat} {w : World} (ds : List D) (ad : Addr) (h : RM T w ds ad) (k : Nat) : RM T w (ds.take k) ad := by
  refine RM_of_get _ _ fun j d hd => ?_
  rw [List.getElem?_take] at hd
  split at hd
  · exact RM_get ds ad h j d hd
  · cases hd
theorem RM_append {T : Nat → Nat} {w : World} (ds es : List D) (ad : Addr) (h : RM T w ds ad) (k : RM T w es (ad.add ds.length)) : RM T w (ds ++ es) ad := by
  refine RM_of_get _ _ fun j d hd => ?_
  by_cases hj : j < ds.length
  · rw [List.getElem?_append_left hj] at hd
    exact RM_get ds ad h j d hd
  · rw [List.getElem?_append_right (by omega)] at hd
    have := RM_get es _ k _ d hd
    rw [addr_add_block, addr_add_off, addr_add_add, show ds.length + (j - ds.length) = j from by omega] at this
    exact ⟨by omega, this.2⟩
theorem RL_length {T : Nat → Nat} {w : World} : ∀ (ds : List D) (vs : List Value), RL T w ds vs → vs.length = ds.length
  | [], vs, h => by simp only [RL] at h; simp [h]
  | d :: ds, vs, h => by
    simp only [RL] at h
    obtain ⟨v, rest, rfl, _, _, hr⟩ := h
    simp [RL_length ds rest hr]
theorem RL_get {T : Nat → Nat} {w : World} : ∀ (ds : List D) (vs : List Value), RL T w ds vs → ∀ (j : Nat) (d : D), ds[j]? = some d → ∃ v, vs[j]? = some v ∧ v.oneCell' = true ∧ RD T w d v
  | [], _, _, j, d, hd => by simp at hd
  | e :: ds, vs, h, j, d, hd => by
    simp only [RL] at h
    obtain ⟨v, rest, rfl, h1, h2, hr⟩ := h
    cases j with
    | zero => simp at hd; subst hd; exact ⟨v, by simp, h1, h2⟩
    | succ j => simpa using RL_get ds rest hr j d (by simpa using hd)
theorem RL_of_get {T : Nat → Nat} {w : World} : ∀ (ds : List D) (vs : List Value), vs.length = ds.length → (∀ (j : Nat) (d : D), ds[j]? = some d → ∃ v, vs[j]? = some v ∧ v.oneCell' = true ∧ RD T w d v) → RL T w ds vs
  | [], vs, hl, _ => by simp only [RL]; exact List.eq_nil_of_length_eq_zero (by simpa using hl)
  | d :: ds, [], hl, _ => by simp at hl
  | d :: ds, v :: vs, hl, h => by
    simp only [RL]
    obtain ⟨v', hv, h1, h2⟩ := h 0 d (by simp)
    simp at hv
    subst hv
    exact ⟨v, vs, rfl, h1, h2, RL_of_get ds vs (by simpa using hl) fun j e he => by simpa using h (j + 1) e (by simpa using he)⟩
theorem RL_append {T : Nat → Nat} {w : World} (ds es : List D) (vs us : List Value) (h : RL T w ds vs) (k : RL T w es us) : RL T w (ds ++ es) (vs ++ us) := by
  have hl := RL_length ds vs h
  refine RL_of_get _ _ (by simp [hl, RL_length es us k]) fun j d hd => ?_
  by_cases hj : j < ds.length
  · rw [List.getElem?_append_left hj] at hd
    rw [List.getElem?_append_left (by omega)]
    exact RL_get ds vs h j d hd
  · rw [List.getElem?_append_right (by omega)] at hd
    rw [List.getElem?_append_right (by omega), hl]
    exact RL_get es us k _ d hd
theorem RL_take {T : Nat → Nat} {w : World} (ds : List D) (vs : List Value) (h : RL T w ds vs) (k : Nat) : RL T w (ds.take k) (vs.take k) := by
  have hl := RL_length ds vs h
  refine RL_of_get _ _ (by simp [hl]) fun j d hd => ?_
  rw [List.getElem?_take] at hd ⊢
  split at hd
  · rename_i hj; rw [if_pos hj]; exact RL_get ds vs h j d hd
  · cases hd
theorem RL_drop {T : Nat → Nat} {w : World} (ds : List D) (vs : List Value) (h : RL T w ds vs) (k : Nat) : RL T w (ds.drop k) (vs.drop k) := by
  have hl := RL_length ds vs h
  refine RL_of_get _ _ (by simp [hl]) fun j d hd => ?_
  rw [List.getElem?_drop] at hd ⊢
  exact RL_get ds vs h _ d hd
/-- The cells of a row of memory, as values. -/
theorem RM_values {T : Nat → Nat} {w : World} (ds : List D) (ad : Addr) (h : RM T w ds ad) : ∃ us : List Value, RL T w ds us ∧ ∀ (j : Nat) (u : Value), us[j]? = some u → w.cell? (ad.add j) = some u := by
  refine ⟨(List.range ds.length).map fun j => (w.cell? (ad.add j)).getD undef, RL_of_get _ _ (by simp) fun j d hd => ?_, fun j u hu => ?_⟩
  · have hj : j < ds.length := (List.getElem?_eq_some_iff.1 hd).1
    obtain ⟨_, u, hu, h1, h2⟩ := RM_get ds ad h j d hd
    exact ⟨u, by simp [hj, hu], h1, h2⟩
  · by_cases hj : j < ds.length
    · obtain ⟨_, v, hv, _, _⟩ := RM_get ds ad h j _ (List.getElem?_eq_getElem hj)
      simp [hj, hv] at hu
      rw [hv, hu]
    · simp [Nat.not_lt.1 hj] at hu
theorem RM_of_values {T : Nat → Nat} {w : World} (ds : List D) (ad : Addr) (us : List Value) (h : RL T w ds us) (hc : ∀ (j : Nat) (u : Value), us[j]? = some u → w.cell? (ad.add j) = some u)
    (hT : ad.off + ds.length ≤ T ad.block) : RM T w ds ad := by
  refine RM_of_get _ _ fun j d hd => ?_
  have hj : j < ds.length := (List.getElem?_eq_some_iff.1 hd).1
  obtain ⟨v, hv, h1, h2⟩ := RL_get ds us h j d hd
  exact ⟨by omega, v, hc j v hv, h1, h2⟩
theorem RL_one {T : Nat → Nat} {w : World} (ds : List D) (vs : List Value) (h : RL T w ds vs) : ∀ u ∈ vs, u.oneCell' = true := by
  intro u hu
  obtain ⟨j, hj, hju⟩ := List.mem_iff_getElem.1 hu
  have hl := RL_length ds vs h
  obtain ⟨v, hv, h1, _⟩ := RL_get ds vs h j _ (List.getElem?_eq_getElem (by omega))
  rw [List.getElem?_eq_getElem hj] at hv
  simp at hv
  rw [← hju, hv]
  exact h1
end Go.Proofs.YteeknmjjpcbphaaDoor
