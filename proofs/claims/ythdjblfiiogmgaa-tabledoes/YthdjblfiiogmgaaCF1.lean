/- The frame of these proofs: an abstract interpreter, proved sound once. -/
import Derived.Tactics
import Derived.Below
import Derived.OwnWalk
import Derived.Maps.AppendAt
import Derived.Laws.OwnMore
import Derived.WideLaws
import Derived.RangeFuncRecord
import Derived.TacticsIn
import Derived.Laws.Tables
import Derived.Laws.BytesString
import Derived.Laws.StructEq
import Derived.ChangeKeysEq
import Derived.Laws.Strings
/- The frame of these proofs, part A: what a Go value stands for (a datum, a slice of data, a pointer to a struct of the call's own), and how that lasts while memory grows. -/
set_option linter.unusedVariables false
set_option linter.unusedSimpArgs false
namespace Go.Proofs.Ythdjblfiiogmgaa
open Go

/-! ### Addresses -/
theorem addr_add_block (a : Addr) (n : Nat) : (a.add n).block = a.block := by unfold Addr.add; split <;> rfl
theorem addr_add_off (a : Addr) (n : Nat) : (a.add n).off = a.off + n := by unfold Addr.add; split <;> simp_all
theorem addr_add_add (a : Addr) (i j : Nat) : (a.add i).add j = a.add (i + j) := by
  unfold Addr.add
  by_cases hi : i = 0 <;> by_cases hj : j = 0 <;> simp [hi, hj, Nat.add_assoc]
theorem addr_add_zero (a : Addr) : a.add 0 = a := by simp [Addr.add]
theorem addr_plain (b i j : Nat) : (⟨b, i, none⟩ : Addr).add j = ⟨b, i + j, none⟩ := by unfold Addr.add; split <;> simp_all

/-! ### Data: values that depend on memory that nobody writes any more -/
inductive D where
  | c (x : Value)
  | sl (sz n : Nat) (xs : List D)
  | agg (xs : List D)
  | p (xs : List D)

mutual
def RD (T : Nat → Nat) (w : World) : D → Value → Prop
  | .c y, x => x = y ∧ y.oneCell' = true
  | .sl sz n xs, x => xs.length = n * sz ∧ ∃ A c, x = .slice A n c ∧ n ≤ c ∧ (xs = [] ∨ ∃ ad, A = some ad ∧ RM T w xs ad)
  | .agg xs, x => ∃ vs : Array Value, x = .agg vs ∧ RL T w xs vs.toList
  | .p xs, x => ∃ ad, x = .pointer (some ad) ∧ RM T w xs ad
def RM (T : Nat → Nat) (w : World) : List D → Addr → Prop
  | [], _ => True
  | d :: ds, ad => (ad.off < T ad.block ∧ ∃ u, w.cell? ad = some u ∧ u.oneCell' = true ∧ RD T w d u) ∧ RM T w ds (ad.add 1)
def RL (T : Nat → Nat) (w : World) : List D → List Value → Prop
  | [], vs => vs = []
  | d :: ds, vs => ∃ v rest, vs = v :: rest ∧ v.oneCell' = true ∧ RD T w d v ∧ RL T w ds rest
end

/-- Memory has grown, and what was laid for good is as it was. -/
structure Lasts (T : Nat → Nat) (w : World) (T' : Nat → Nat) (w' : World) : Prop where
  mark : ∀ b, T b ≤ T' b
  cell : ∀ a : Addr, a.off < T a.block → w'.cell? a = w.cell? a
theorem Lasts.refl (T : Nat → Nat) (w : World) : Lasts T w T w := ⟨fun _ => Nat.le_refl _, fun _ _ => rfl⟩
theorem Lasts.trans {T T' T'' : Nat → Nat} {w w' w'' : World} (h : Lasts T w T' w') (k : Lasts T' w' T'' w'') : Lasts T w T'' w'' :=
  ⟨fun b => Nat.le_trans (h.mark b) (k.mark b), fun a ha => (k.cell a (Nat.lt_of_lt_of_le ha (h.mark _))).trans (h.cell a ha)⟩

mutual
theorem RD.lasts {T T' : Nat → Nat} {w w' : World} (hL : Lasts T w T' w') : ∀ (d : D) (x : Value), RD T w d x → RD T' w' d x
  | .c y, x, h => by simpa [RD] using h
  | .sl sz n xs, x, h => by
    simp only [RD] at h ⊢
    obtain ⟨hl, A, c, rfl, hc, hr⟩ := h
    refine ⟨hl, A, c, rfl, hc, ?_⟩
    rcases hr with h0 | ⟨ad, rfl, hm⟩
    · exact .inl h0
    · exact .inr ⟨ad, rfl, RM.lasts hL xs ad hm⟩
  | .agg xs, x, h => by
    simp only [RD] at h ⊢
    obtain ⟨vs, rfl, hr⟩ := h
    exact ⟨vs, rfl, RL.lasts hL xs _ hr⟩
  | .p xs, x, h => by
    simp only [RD] at h ⊢
    obtain ⟨ad, rfl, hm⟩ := h
    exact ⟨ad, rfl, RM.lasts hL xs ad hm⟩
theorem RM.lasts {T T' : Nat → Nat} {w w' : World} (hL : Lasts T w T' w') : ∀ (ds : List D) (ad : Addr), RM T w ds ad → RM T' w' ds ad
  | [], _, _ => by simp [RM]
  | d :: ds, ad, h => by
    simp only [RM] at h ⊢
    obtain ⟨⟨ho, u, hu, h1, hd⟩, hr⟩ := h
    exact ⟨⟨Nat.lt_of_lt_of_le ho (hL.mark _), u, (hL.cell ad ho).trans hu, h1, RD.lasts hL d u hd⟩, RM.lasts hL ds _ hr⟩
theorem RL.lasts {T T' : Nat → Nat} {w w' : World} (hL : Lasts T w T' w') : ∀ (ds : List D) (vs : List Value), RL T w ds vs → RL T' w' ds vs
  | [], _, h => by simpa [RL] using h
  | d :: ds, vs, h => by
    simp only [RL] at h ⊢
    obtain ⟨v, rest, rfl, h1, hd, hr⟩ := h
    exact ⟨v, rest, rfl, h1, RD.lasts hL d v hd, RL.lasts hL ds rest hr⟩
end

/-! ### Reading lists -/
theorem RM_get {T : Nat → Nat} {w : World} : ∀ (ds : List D) (ad : Addr), RM T w ds ad → ∀ (j : Nat) (d : D), ds[j]? = some d →
    ad.off + j < T ad.block ∧ ∃ u, w.cell? (ad.add j) = some u ∧ u.oneCell' = true ∧ RD T w d u
  | [], _, _, j, d, hd => by simp at hd
  | e :: ds, ad, h, 0, d, hd => by
    simp only [RM] at h
    simp at hd
    subst hd
    rw [addr_add_zero]
    exact ⟨h.1.1, h.1.2⟩
  | e :: ds, ad, h, j + 1, d, hd => by
    simp only [RM] at h
    have := RM_get ds (ad.add 1) h.2 j d (by simpa using hd)
    rw [addr_add_block, addr_add_off, addr_add_add] at this
    rw [show 1 + j = j + 1 from Nat.add_comm _ _] at this
    refine ⟨by omega, this.2⟩
theorem RM_of_get {T : Nat → Nat} {w : World} : ∀ (ds : List D) (ad : Addr), (∀ (j : Nat) (d : D), ds[j]? = some d →
    ad.off + j < T ad.block ∧ ∃ u, w.cell? (ad.add j) = some u ∧ u.oneCell' = true ∧ RD T w d u) → RM T w ds ad
  | [], _, _ => by simp [RM]
  | e :: ds, ad, h => by
    simp only [RM]
    have h0 := h 0 e (by simp)
    rw [addr_add_zero] at h0
    refine ⟨⟨by simpa using h0.1, h0.2⟩, RM_of_get ds (ad.add 1) fun j d hd => ?_⟩
    have := h (j + 1) d (by simpa using hd)
    rw [addr_add_block, addr_add_off, addr_add_add, show 1 + j = j + 1 from Nat.add_comm _ _]
    exact ⟨by omega, this.2⟩
theorem RM_drop {T : Nat → Nat} {w : World} (ds : List D) (ad : Addr) (h : RM T w ds ad) (k : Nat) : RM T w (ds.drop k) (ad.add k) := by
  refine RM_of_get _ _ fun j d hd => ?_
  have := RM_get ds ad h (k + j) d (by simpa [List.getElem?_drop] using hd)
  rw [addr_add_block, addr_add_off, addr_add_add]
  exact ⟨by omega, this.2⟩
theorem RM_take {T : Nat → Nat} {w : World} (ds : List D) (ad : Addr) (h : RM T w ds ad) (k : Nat) : RM T w (ds.take k) ad := by
  refine RM_of_get _ _ fun j d hd => ?_
  rw [List.getElem?_take] at hd
  split at hd
  · exact RM_get ds ad h j d hd
  · cases hd
theorem RM_append {T : Nat → Nat} {w : World} (ds es : List D) (ad : Addr) (h : RM T w ds ad) (k : RM T w es (ad.add ds.length)) : RM T w (ds ++ es) ad := by
  refine RM_of_get _ _ fun j d hd => ?_
  by_cases hj : j < ds.length
  · rw [List.getElem?_append_left hj] at hd
    exact RM_get ds ad h j d hd
  · rw [List.getElem?_append_right (by omega)] at hd
    have := RM_get es _ k _ d hd
    rw [addr_add_block, addr_add_off, addr_add_add, show ds.length + (j - ds.length) = j from by omega] at this
    exact ⟨by omega, this.2⟩
theorem RL_length {T : Nat → Nat} {w : World} : ∀ (ds : List D) (vs : List Value), RL T w ds vs → vs.length = ds.length
  | [], vs, h => by simp only [RL] at h; simp [h]
  | d :: ds, vs, h => by
    simp only [RL] at h
    obtain ⟨v, rest, rfl, _, _, hr⟩ := h
    simp [RL_length ds rest hr]
theorem RL_get {T : Nat → Nat} {w : World} : ∀ (ds : List D) (vs : List Value), RL T w ds vs → ∀ (j : Nat) (d : D), ds[j]? = some d → ∃ v, vs[j]? = some v ∧ v.oneCell' = true ∧ RD T w d v
  | [], _, _, j, d, hd => by simp at hd
  | e :: ds, vs, h, j, d, hd => by
    simp only [RL] at h
    obtain ⟨v, rest, rfl, h1, h2, hr⟩ := h
    cases j with
    | zero => simp at hd; subst hd; exact ⟨v, by simp, h1, h2⟩
    | succ j => simpa using RL_get ds rest hr j d (by simpa using hd)
theorem RL_of_get {T : Nat → Nat} {w : World} : ∀ (ds : List D) (vs : List Value), vs.length = ds.length → (∀ (j : Nat) (d : D), ds[j]? = some d → ∃ v, vs[j]? = some v ∧ v.oneCell' = true ∧ RD T w d v) → RL T w ds vs
  | [], vs, hl, _ => by simp only [RL]; exact List.eq_nil_of_length_eq_zero (by simpa using hl)
  | d :: ds, [], hl, _ => by simp at hl
  | d :: ds, v :: vs, hl, h => by
    simp only [RL]
    obtain ⟨v', hv, h1, h2⟩ := h 0 d (by simp)
    simp at hv
    subst hv
    exact ⟨v, vs, rfl, h1, h2, RL_of_get ds vs (by simpa using hl) fun j e he => by simpa using h (j + 1) e (by simpa using he)⟩
theorem RL_append {T : Nat → Nat} {w : World} (ds es : List D) (vs us : List Value) (h : RL T w ds vs) (k : RL T w es us) : RL T w (ds ++ es) (vs ++ us) := by
  have hl := RL_length ds vs h
  refine RL_of_get _ _ (by simp [hl, RL_length es us k]) fun j d hd => ?_
  by_cases hj : j < ds.length
  · rw [List.getElem?_append_left hj] at hd
    rw [List.getElem?_append_left (by omega)]
    exact RL_get ds vs h j d hd
  · rw [List.getElem?_append_right (by omega)] at hd
    rw [List.getElem?_append_right (by omega), hl]
    exact RL_get es us k _ d hd
theorem RL_take {T : Nat → Nat} {w : World} (ds : List D) (vs : List Value) (h : RL T w ds vs) (k : Nat) : RL T w (ds.take k) (vs.take k) := by
  have hl := RL_length ds vs h
  refine RL_of_get _ _ (by simp [hl]) fun j d hd => ?_
  rw [List.getElem?_take] at hd ⊢
  split at hd
  · rename_i hj; rw [if_pos hj]; exact RL_get ds vs h j d hd
  · cases hd
theorem RL_drop {T : Nat → Nat} {w : World} (ds : List D) (vs : List Value) (h : RL T w ds vs) (k : Nat) : RL T w (ds.drop k) (vs.drop k) := by
  have hl := RL_length ds vs h
  refine RL_of_get _ _ (by simp [hl]) fun j d hd => ?_
  rw [List.getElem?_drop] at hd ⊢
  exact RL_get ds vs h _ d hd
/-- The cells of a row of memory, as values. -/
theorem RM_values {T : Nat → Nat} {w : World} (ds : List D) (ad : Addr) (h : RM T w ds ad) : ∃ us : List Value, RL T w ds us ∧ ∀ (j : Nat) (u : Value), us[j]? = some u → w.cell? (ad.add j) = some u := by
  refine ⟨(List.range ds.length).map fun j => (w.cell? (ad.add j)).getD undef, RL_of_get _ _ (by simp) fun j d hd => ?_, fun j u hu => ?_⟩
  · have hj : j < ds.length := (List.getElem?_eq_some_iff.1 hd).1
    obtain ⟨_, u, hu, h1, h2⟩ := RM_get ds ad h j d hd
    exact ⟨u, by simp [hj, hu], h1, h2⟩
  · by_cases hj : j < ds.length
    · obtain ⟨_, v, hv, _, _⟩ := RM_get ds ad h j _ (List.getElem?_eq_getElem hj)
      simp [hj, hv] at hu
      rw [hv, hu]
    · simp [Nat.not_lt.1 hj] at hu
theorem RM_of_values {T : Nat → Nat} {w : World} (ds : List D) (ad : Addr) (us : List Value) (h : RL T w ds us) (hc : ∀ (j : Nat) (u : Value), us[j]? = some u → w.cell? (ad.add j) = some u)
    (hT : ad.off + ds.length ≤ T ad.block) : RM T w ds ad := by
  refine RM_of_get _ _ fun j d hd => ?_
  have hj : j < ds.length := (List.getElem?_eq_some_iff.1 hd).1
  obtain ⟨v, hv, h1, h2⟩ := RL_get ds us h j d hd
  exact ⟨by omega, v, hc j v hv, h1, h2⟩
theorem RL_one {T : Nat → Nat} {w : World} (ds : List D) (vs : List Value) (h : RL T w ds vs) : ∀ u ∈ vs, u.oneCell' = true := by
  intro u hu
  obtain ⟨j, hj, hju⟩ := List.mem_iff_getElem.1 hu
  have hl := RL_length ds vs h
  obtain ⟨v, hv, h1, _⟩ := RL_get ds vs h j _ (List.getElem?_eq_getElem (by omega))
  rw [List.getElem?_eq_getElem hj] at hv
  simp at hv
  rw [← hju, hv]
  exact h1
end Go.Proofs.Ythdjblfiiogmgaa
/- The frame of these proofs, part B: what stands in a slot, what a call has of its own (growing rows, structs behind pointers), and steps from world to world. -/
set_option linter.unusedVariables false
set_option linter.unusedSimpArgs false
namespace Go.Proofs.Ythdjblfiiogmgaa
open Go

/-- How a slice may be appended to: never in place (it is full), or in place as long as it is the row's newest end; 'sp': what its spare places hold is known. -/
inductive Mo where
  | full
  | own (i : Nat)
  | sp (ys : List D)

/-- What stands in a slot. -/
inductive AV where
  | d (x : D)
  | sl (m : Mo) (sz n : Nat) (xs : List D)
  | ptr (i off : Nat)
  | el (xs : List D)
  | osl (i off sz n : Nat)
  | csl (i off sz n c : Nat)
  | tup (l : List AV)
  | agg (l : List AV)
  | fn (f : Fn) (first cap : List AV)
  | mp (i : Nat)
  | yv (l : Nat) (L : Loop) (sl : List AV)
  | top

/-- A map's entries; or any other object that the call has (a loop's record): its block, and what lies there. -/
inductive MX where
  | m (l : List (D × D))
  | o (b : Nat) (x : Obj)
/-- What a call has of its own: a row that grows (its cells so far), a struct or array that is written, a map or another object. -/
inductive Res where
  | tok (k : Nat)
  | obj (l : List AV)
  | mpx (x : MX)
@[match_pattern, reducible] def Res.map (l : List (D × D)) : Res := .mpx (.m l)
@[match_pattern, reducible] def Res.ob (b : Nat) (x : Obj) : Res := .mpx (.o b x)
/-- What package variables read as; the round that is walked, if one is; where the blocks begin whose calls are deferred by ranges over functions, if there are any. -/
structure GR where
  g : Nat → List D
  ro : Option Nat := none
  n0 : Option Nat := none
/-- .. where blocks begin at n; in a round. -/
def GR.at (G : GR) (n : Nat) : GR := { G with n0 := some n }
def GR.inR (G : GR) (l : Nat) : GR := { G with ro := some l, n0 := none }
instance : CoeFun GR (fun _ => Nat → List D) := ⟨GR.g⟩

abbrev Rs := List (Option Res)

structure Env where
  T : Nat → Nat
  bl : Nat → Option Nat

def MoOK (E : Env) (r : Rs) (w : World) (sz n len : Nat) (A : Option Addr) (c : Nat) : Mo → Prop
  | .full => c = n
  | .own i => i < r.length ∧ ∀ k, r[i]? = some (some (.tok k)) → len ≤ k ∧ (len = k → match E.bl i with
      | none => c = n
      | some b => A = some ⟨b, 0, none⟩ ∧ ∃ e, w.shape? b = some (e, c * sz))
  | .sp ys => ∃ k, ys.length = k * sz ∧ n + k ≤ c ∧ (ys = [] ∨ ∃ ad, A = some ad ∧ RM E.T w ys (ad.add len))

mutual
def RA (E : Env) (r : Rs) (w : World) : AV → Value → Prop
  | .d y, x => RD E.T w y x
  | .sl m sz n xs, x => xs.length = n * sz ∧ ∃ A c, x = .slice A n c ∧ n ≤ c ∧ (xs = [] ∨ ∃ ad, A = some ad ∧ RM E.T w xs ad) ∧ MoOK E r w sz n xs.length A c m
  | .ptr i off, x => i < r.length ∧ ∀ l, r[i]? = some (some (.obj l)) → ∃ b, E.bl i = some b ∧ x = .pointer (some ⟨b, off, none⟩)
  | .el xs, x => ∃ ad, x = .pointer (some ad) ∧ RM E.T w xs ad
  | .osl i off sz n, x => i < r.length ∧ ∃ A c, x = .slice A n c ∧ n ≤ c ∧ ∀ l, r[i]? = some (some (.obj l)) → off + n * sz ≤ l.length ∧ (0 < n → ∃ b, E.bl i = some b ∧ A = some ⟨b, off, none⟩)
  | .csl i off sz n c, x => i < r.length ∧ ∃ A, x = .slice A n c ∧ n ≤ c ∧ ∀ l, r[i]? = some (some (.obj l)) → off + c * sz ≤ l.length ∧ (0 < c → ∃ b, E.bl i = some b ∧ A = some ⟨b, off, none⟩)
  | .tup l, x => ∃ vs : Array Value, x = .tuple vs ∧ RAL E r w l vs.toList
  | .agg l, x => ∃ vs : Array Value, x = .agg vs ∧ RAL E r w l vs.toList ∧ ∀ u ∈ vs.toList, u.oneCell' = true
  | .fn f first cap, x => ∃ vs us : Array Value, x = .func f vs us ∧ RAL E r w first vs.toList ∧ RAL E r w cap us.toList
  | .mp i, x => i < r.length ∧ ∀ l, r[i]? = some (some (.mpx l)) → ∃ b, E.bl i = some b ∧ x = .map (some b)
  | .yv l L sl, x => x = .func (.yield l) #[] #[] ∧ RAL E r w sl L.tmps.toList
  | .top, _ => True
def RAL (E : Env) (r : Rs) (w : World) : List AV → List Value → Prop
  | [], vs => vs = []
  | d :: ds, vs => ∃ v rest, vs = v :: rest ∧ RA E r w d v ∧ RAL E r w ds rest
end

/-- The names of what a call has last: no new name takes an old one's place. -/
structure Names (E : Env) (r : Rs) (E' : Env) (r' : Rs) : Prop where
  len : r.length ≤ r'.length
  tok : ∀ i k', i < r.length → r'[i]? = some (some (.tok k')) → ∃ k, r[i]? = some (some (.tok k)) ∧ k ≤ k' ∧ (k' = k → E'.bl i = E.bl i)
  obj : ∀ i l', i < r.length → r'[i]? = some (some (.obj l')) → ∃ l, r[i]? = some (some (.obj l)) ∧ l.length = l'.length ∧ E'.bl i = E.bl i
  map : ∀ i l', i < r.length → r'[i]? = some (some (.mpx l')) → ∃ l, r[i]? = some (some (.mpx l)) ∧ E'.bl i = E.bl i
theorem Names.refl (E : Env) (r : Rs) : Names E r E r :=
  ⟨Nat.le_refl _, fun i k' _ h => ⟨k', h, Nat.le_refl _, fun _ => rfl⟩, fun i l' _ h => ⟨l', h, rfl, rfl⟩, fun i l' _ h => ⟨l', h, rfl⟩⟩
theorem Names.trans {E E' E'' : Env} {r r' r'' : Rs} (h : Names E r E' r') (k : Names E' r' E'' r'') : Names E r E'' r'' := by
  refine ⟨Nat.le_trans h.len k.len, fun i k' hi hr => ?_, fun i l' hi hr => ?_, fun i l' hi hr => ?_⟩
  · obtain ⟨k1, hk1, hle1, he1⟩ := k.tok i k' (Nat.lt_of_lt_of_le hi h.len) hr
    obtain ⟨k2, hk2, hle2, he2⟩ := h.tok i k1 hi hk1
    exact ⟨k2, hk2, Nat.le_trans hle2 hle1, fun he => (he1 (by omega)).trans (he2 (by omega))⟩
  · obtain ⟨l1, hl1, hn1, he1⟩ := k.obj i l' (Nat.lt_of_lt_of_le hi h.len) hr
    obtain ⟨l2, hl2, hn2, he2⟩ := h.obj i l1 hi hl1
    exact ⟨l2, hl2, hn2.trans hn1, he1.trans he2⟩
  · obtain ⟨l1, hl1, he1⟩ := k.map i l' (Nat.lt_of_lt_of_le hi h.len) hr
    obtain ⟨l2, hl2, he2⟩ := h.map i l1 hi hl1
    exact ⟨l2, hl2, he1.trans he2⟩

def ShapeLasts (w w' : World) : Prop := ∀ b s, w.shape? b = some s → w'.shape? b = some s
theorem ShapeLasts.refl (w : World) : ShapeLasts w w := fun _ _ h => h
theorem ShapeLasts.trans {w w' w'' : World} (h : ShapeLasts w w') (k : ShapeLasts w' w'') : ShapeLasts w w'' := fun b s hs => k b s (h b s hs)

theorem MoOK.lasts {E E' : Env} {r r' : Rs} {w w' : World} (hL : Lasts E.T w E'.T w') (hN : Names E r E' r') (hS : ShapeLasts w w') {sz n len : Nat} {A : Option Addr} {c : Nat} : ∀ {m : Mo}, MoOK E r w sz n len A c m → MoOK E' r' w' sz n len A c m
  | .full, h => h
  | .sp ys, h => by
    obtain ⟨k, h1, h2, h3⟩ := h
    refine ⟨k, h1, h2, ?_⟩
    rcases h3 with h3 | ⟨ad, h3, h4⟩
    · exact .inl h3
    · exact .inr ⟨ad, h3, RM.lasts hL _ _ h4⟩
  | .own i, h => by
    refine ⟨Nat.lt_of_lt_of_le h.1 hN.len, fun k' hk' => ?_⟩
    obtain ⟨k, hk, hle, he⟩ := hN.tok i k' h.1 hk'
    obtain ⟨h1, h2⟩ := h.2 k hk
    refine ⟨Nat.le_trans h1 hle, fun hl => ?_⟩
    have hkk : k' = k := by omega
    rw [he hkk]
    have := h2 (by omega)
    cases hb : E.bl i with
    | none => rw [hb] at this; exact this
    | some b =>
      rw [hb] at this
      obtain ⟨ha, e, hs⟩ := this
      exact ⟨ha, e, hS _ _ hs⟩

mutual
theorem RA.lasts {E E' : Env} {r r' : Rs} {w w' : World} (hL : Lasts E.T w E'.T w') (hN : Names E r E' r') (hS : ShapeLasts w w') : ∀ (a : AV) (x : Value), RA E r w a x → RA E' r' w' a x
  | .d y, x, h => by simp only [RA] at h ⊢; exact RD.lasts hL y x h
  | .sl m sz n xs, x, h => by
    simp only [RA] at h ⊢
    obtain ⟨hl, A, c, rfl, hc, hr, hm⟩ := h
    refine ⟨hl, A, c, rfl, hc, ?_, hm.lasts hL hN hS⟩
    rcases hr with h0 | ⟨ad, rfl, hrm⟩
    · exact .inl h0
    · exact .inr ⟨ad, rfl, RM.lasts hL xs ad hrm⟩
  | .ptr i off, x, h => by
    simp only [RA] at h ⊢
    refine ⟨Nat.lt_of_lt_of_le h.1 hN.len, fun l' hl' => ?_⟩
    obtain ⟨l, hl, _, he⟩ := hN.obj i l' h.1 hl'
    rw [he]
    exact h.2 l hl
  | .el xs, x, h => by
    simp only [RA] at h ⊢
    obtain ⟨ad, rfl, hm⟩ := h
    exact ⟨ad, rfl, RM.lasts hL xs ad hm⟩
  | .osl i off sz n, x, h => by
    simp only [RA] at h ⊢
    obtain ⟨h1, A, c, rfl, hc, h2⟩ := h
    refine ⟨Nat.lt_of_lt_of_le h1 hN.len, A, c, rfl, hc, fun l' hl' => ?_⟩
    obtain ⟨l, hl, hn, he⟩ := hN.obj i l' h1 hl'
    rw [he, ← hn]
    exact h2 l hl
  | .csl i off sz n c, x, h => by
    simp only [RA] at h ⊢
    obtain ⟨h1, A, rfl, hc, h2⟩ := h
    refine ⟨Nat.lt_of_lt_of_le h1 hN.len, A, rfl, hc, fun l' hl' => ?_⟩
    obtain ⟨l, hl, hn, he⟩ := hN.obj i l' h1 hl'
    rw [he, ← hn]
    exact h2 l hl
  | .tup l, x, h => by
    simp only [RA] at h ⊢
    obtain ⟨vs, rfl, hr⟩ := h
    exact ⟨vs, rfl, RAL.lasts hL hN hS l _ hr⟩
  | .agg l, x, h => by
    simp only [RA] at h ⊢
    obtain ⟨vs, rfl, hr, h1⟩ := h
    exact ⟨vs, rfl, RAL.lasts hL hN hS l _ hr, h1⟩
  | .fn f first cap, x, h => by
    simp only [RA] at h ⊢
    obtain ⟨vs, us, rfl, h1, h2⟩ := h
    exact ⟨vs, us, rfl, RAL.lasts hL hN hS first _ h1, RAL.lasts hL hN hS cap _ h2⟩
  | .mp i, x, h => by
    simp only [RA] at h ⊢
    refine ⟨Nat.lt_of_lt_of_le h.1 hN.len, fun l' hl' => ?_⟩
    obtain ⟨l, hl, he⟩ := hN.map i l' h.1 hl'
    rw [he]
    exact h.2 l hl
  | .yv l L sl, x, h => by
    simp only [RA] at h ⊢
    exact ⟨h.1, RAL.lasts hL hN hS sl _ h.2⟩
  | .top, _, _ => by simp [RA]
theorem RAL.lasts {E E' : Env} {r r' : Rs} {w w' : World} (hL : Lasts E.T w E'.T w') (hN : Names E r E' r') (hS : ShapeLasts w w') : ∀ (l : List AV) (vs : List Value), RAL E r w l vs → RAL E' r' w' l vs
  | [], _, h => by simpa [RAL] using h
  | a :: l, vs, h => by
    simp only [RAL] at h ⊢
    obtain ⟨v, rest, rfl, h1, h2⟩ := h
    exact ⟨v, rest, rfl, RA.lasts hL hN hS a v h1, RAL.lasts hL hN hS l rest h2⟩
end

/-- The blocks that are the call's own. -/
def Own (E : Env) (r : Rs) (b : Nat) : Prop := ∃ i x, r[i]? = some (some x) ∧ E.bl i = some b

def noCells : Obj → Bool
  | .cells _ _ _ => false
  | _ => true
/-- The map's block reads as these entries. -/
def MapIs (E : Env) (w : World) : MX → Nat → Prop
  | .o b' o, b => b' = b ∧ w.heap[b]? = some o ∧ noCells o = true
  | .m l, b => ∃ es clock, w.heap[b]? = some (.map es clock) ∧ es.size = l.length ∧ ∀ (j : Nat) k d, l[j]? = some (k, d) → ∃ e, es[j]? = some e ∧ RD E.T w k e.key ∧ e.born < clock ∧ RD E.T w d e.val

/-- All that the call has is there, each in a block of its own. -/
structure Good (G : GR) (E : Env) (r : Rs) (w : World) : Prop where
  tok : ∀ i k b, r[i]? = some (some (.tok k)) → E.bl i = some b → E.T b = k ∧ ∃ cur e, w.heap[b]? = some (.cells cur e (0, 0)) ∧ k ≤ cur.size
  obj : ∀ i l, r[i]? = some (some (.obj l)) → ∃ b, E.bl i = some b ∧ E.T b = 0 ∧ ∃ vs e, w.heap[b]? = some (.cells vs e (0, 0)) ∧ RAL E r w l vs.toList ∧ ∀ u ∈ vs.toList, u.oneCell' = true
  map : ∀ i l, r[i]? = some (some (.mpx l)) → ∃ b, E.bl i = some b ∧ E.T b = 0 ∧ MapIs E w l b
  one : ∀ i j x y b, r[i]? = some (some x) → r[j]? = some (some y) → E.bl i = some b → E.bl j = some b → i = j
  fresh : ∀ b, w.heap.size ≤ b → E.T b = 0
  glob : ∀ g, RM E.T w (G g) ⟨g, 0, none⟩

/-- From one world to a later one: nothing that isn't the call's own has turned. -/
structure Step (E : Env) (r : Rs) (w : World) (E' : Env) (r' : Rs) (w' : World) : Prop where
  os : w'.os = w.os
  tape : w'.tape = w.tape
  output : w'.output = w.output
  size : w.heap.size ≤ w'.heap.size
  block : ∀ b, b < w.heap.size → ¬ Own E r b → w'.heap[b]? = w.heap[b]? ∧ E'.T b = E.T b
  own : ∀ b, Own E' r' b → Own E r b ∨ w.heap.size ≤ b
  lasts : Lasts E.T w E'.T w'
  shape : ShapeLasts w w'
  names : Names E r E' r'
theorem Step.refl (E : Env) (r : Rs) (w : World) : Step E r w E r w :=
  ⟨rfl, rfl, rfl, Nat.le_refl _, fun _ _ _ => ⟨rfl, rfl⟩, fun _ h => .inl h, Lasts.refl _ _, ShapeLasts.refl _, Names.refl _ _⟩
theorem Step.trans {E E' E'' : Env} {r r' r'' : Rs} {w w' w'' : World} (h : Step E r w E' r' w') (k : Step E' r' w' E'' r'' w'') : Step E r w E'' r'' w'' := by
  refine ⟨k.os.trans h.os, k.tape.trans h.tape, k.output.trans h.output, Nat.le_trans h.size k.size, fun b hb hn => ?_, fun b hb => ?_, h.lasts.trans k.lasts, h.shape.trans k.shape, h.names.trans k.names⟩
  · have hn' : ¬ Own E' r' b := fun ho => by
      rcases h.own b ho with h1 | h1
      · exact hn h1
      · omega
    have h1 := h.block b hb hn
    have h2 := k.block b (Nat.lt_of_lt_of_le hb h.size) hn'
    exact ⟨h2.1.trans h1.1, h2.2.trans h1.2⟩
  · rcases k.own b hb with h1 | h1
    · exact h.own b h1
    · exact .inr (Nat.le_trans h.size h1)
theorem RA.step {E E' : Env} {r r' : Rs} {w w' : World} (h : Step E r w E' r' w') {a : AV} {x : Value} (hr : RA E r w a x) : RA E' r' w' a x := RA.lasts h.lasts h.names h.shape a x hr
theorem RAL.step {E E' : Env} {r r' : Rs} {w w' : World} (h : Step E r w E' r' w') {l : List AV} {vs : List Value} (hr : RAL E r w l vs) : RAL E' r' w' l vs := RAL.lasts h.lasts h.names h.shape l vs hr

/-- What a function's frame holds. 'b' is what stood at a loop's head, 'l' what has been written since. -/
structure St where
  b : Nat → AV
  l : List (Nat × AV)
  r : Rs
def lk : List (Nat × AV) → (Nat → AV) → Nat → AV
  | [], b, i => b i
  | (j, v) :: l, b, i => if i = j then v else lk l b i
def St.get (σ : St) (i : Nat) : AV := lk σ.l σ.b i
def St.put (σ : St) (i : Nat) (v : AV) : St := { σ with l := (i, v) :: σ.l }
def St.putO (σ : St) (d : Option Tmp) (v : AV) : St := match d with | some i => σ.put i v | none => σ

/-- The calls that ranges over functions have deferred: their blocks hold none, and are nobody's. -/
def DefOK (n0 : Option Nat) (E : Env) (r : Rs) (w : World) (ds : List Deferred) : Prop := match n0 with
  | none => ds = []
  | some n => (n ≤ w.heap.size ∧ ds.Nodup) ∧ ∀ d ∈ ds, ∃ D, d = ⟨.collected D, #[]⟩ ∧ n ≤ D ∧ w.heap[D]? = some (.deferred (some [])) ∧ ¬ Own E r D
theorem DefOK.move {n0 : Option Nat} {E E' : Env} {r r' : Rs} {w w' : World} {ds : List Deferred} (h : DefOK n0 E r w ds) (hz : w.heap.size ≤ w'.heap.size) (hb : ∀ b, b < w.heap.size → ¬ Own E r b → w'.heap[b]? = w.heap[b]?) (ho : ∀ b, Own E' r' b → Own E r b ∨ w.heap.size ≤ b) : DefOK n0 E' r' w' ds := by
  cases n0 with
  | none => exact h
  | some n =>
    refine ⟨⟨Nat.le_trans h.1.1 hz, h.1.2⟩, fun d hd => ?_⟩
    obtain ⟨D, h1, h2, h3, h4⟩ := h.2 d hd
    have hlt := (Array.getElem?_eq_some_iff.1 h3).1
    refine ⟨D, h1, h2, (hb D hlt h4).trans h3, fun k => ?_⟩
    rcases ho D k with k | k
    · exact h4 k
    · omega
theorem DefOK.step {n0 : Option Nat} {E E' : Env} {r r' : Rs} {w w' : World} {ds : List Deferred} (h : DefOK n0 E r w ds) (hs : Step E r w E' r' w') : DefOK n0 E' r' w' ds :=
  h.move hs.size (fun b h1 h2 => (hs.block b h1 h2).1) hs.own
structure Rel (G : GR) (N : Nat) (E : Env) (σ : St) (a : Act) (w : World) : Prop where
  size : a.tmps.size = N
  slot : ∀ i, RA E σ.r w (σ.get i) (a.tmps.getD i undef)
  good : Good G E σ.r w
  defers : DefOK G.n0 E σ.r w a.defers

theorem get_put (σ : St) (i j : Nat) (v : AV) : (σ.put i v).get j = if j = i then v else σ.get j := rfl
theorem getD_setIfInBounds (t : Array Value) (i j : Nat) (x u : Value) : (t.setIfInBounds i x).getD j u = if j = i ∧ i < t.size then x else t.getD j u := by
  simp only [Array.getD_eq_getD_getElem?, Array.getElem?_setIfInBounds]
  by_cases h : i = j
  · subst h
    by_cases hs : i < t.size
    · simp [hs]
    · simp [hs, Array.getElem?_eq_none (Nat.not_lt.1 hs)]
  · have : ¬ j = i := fun e => h e.symm
    simp [h, this]
/-- A slot is written. -/
theorem Rel.put {G : GR} {N : Nat} {E E' : Env} {σ : St} {a : Act} {w w' : World} {r' : Rs} (h : Rel G N E σ a w) (hs : Step E σ.r w E' r' w') (hg : Good G E' r' w') {i : Nat} (hi : i < N) {v : AV} {x : Value}
    (hv : RA E' r' w' v x) : Rel G N E' { σ.put i v with r := r' } (a.put (some i) x) w' := by
  refine ⟨by simp [Act.put, h.size], fun j => ?_, hg, h.defers.step hs⟩
  show RA E' r' w' (lk ((i, v) :: σ.l) σ.b j) ((a.tmps.setIfInBounds i x).getD j undef)
  rw [getD_setIfInBounds]
  by_cases hj : j = i
  · subst hj
    simp only [lk, if_true, h.size, hi, and_true]
    exact hv
  · simp only [lk, hj, if_false, false_and]
    exact (h.slot j).step hs
theorem Rel.put_same {G : GR} {N : Nat} {E : Env} {σ : St} {a : Act} {w : World} (h : Rel G N E σ a w) {i : Nat} (hi : i < N) {v : AV} {x : Value} (hv : RA E σ.r w v x) : Rel G N E (σ.put i v) (a.put (some i) x) w :=
  Rel.put h (Step.refl _ _ _) h.good hi hv
theorem Rel.move {G : GR} {N : Nat} {E E' : Env} {σ : St} {a : Act} {w w' : World} {r' : Rs} (h : Rel G N E σ a w) (hs : Step E σ.r w E' r' w') (hg : Good G E' r' w') : Rel G N E' { σ with r := r' } a w' :=
  ⟨h.size, fun j => (h.slot j).step hs, hg, h.defers.step hs⟩
end Go.Proofs.Ythdjblfiiogmgaa
/- The frame of these proofs, part C: a new block, a row written in place: what lasts. -/
set_option linter.unusedVariables false
set_option linter.unusedSimpArgs false
namespace Go.Proofs.Ythdjblfiiogmgaa
open Go

theorem upd_same {α : Type} (f : Nat → α) (b : Nat) (v : α) : (fun i => if i = b then v else f i) b = v := by simp
def updN {α : Type} (f : Nat → α) (b : Nat) (v : α) : Nat → α := fun i => if i = b then v else f i
theorem updN_same {α : Type} (f : Nat → α) (b : Nat) (v : α) : updN f b v b = v := by simp [updN]
theorem updN_ne {α : Type} (f : Nat → α) (b : Nat) (v : α) {i : Nat} (h : i ≠ b) : updN f b v i = f i := by simp [updN, h]

/-- All blocks that are there stay as they are. -/
def Keeps (w w' : World) : Prop := w.heap.size ≤ w'.heap.size ∧ ∀ b, b < w.heap.size → w'.heap[b]? = w.heap[b]?
theorem Keeps.refl (w : World) : Keeps w w := ⟨Nat.le_refl _, fun _ _ => rfl⟩
theorem Keeps.trans {w w' w'' : World} (h : Keeps w w') (k : Keeps w' w'') : Keeps w w'' := ⟨Nat.le_trans h.1 k.1, fun b hb => (k.2 b (Nat.lt_of_lt_of_le hb h.1)).trans (h.2 b hb)⟩
theorem Keeps.cell {w w' : World} (h : Keeps w w') {a : Addr} {v : Value} (hv : w.cell? a = some v) : w'.cell? a = some v := by
  unfold World.cell? at hv ⊢
  have hb : a.block < w.heap.size := by
    rcases Nat.lt_or_ge a.block w.heap.size with h1 | h1
    · exact h1
    · simp [Array.getElem?_eq_none h1] at hv
  rw [h.2 _ hb]
  exact hv
theorem Keeps.alloc (w : World) (o : Obj) : Keeps w (w.alloc o) := ⟨by simp, fun b hb => heap_alloc_old w o b hb⟩
theorem Keeps.drew (w : World) : Keeps w w.drew := ⟨Nat.le_refl _, fun b hb => rfl⟩

variable {G : GR} {E : Env} {r : Rs} {w : World}

theorem MapIs.at {x : MX} {b : Nat} (h : MapIs E w x b) : ∃ o, w.heap[b]? = some o := by
  cases x with
  | m l => obtain ⟨es, cl, hh, _⟩ := h; exact ⟨_, hh⟩
  | o b' o => exact ⟨_, h.2.1⟩
theorem Good.lt (h : Good G E r w) {i b : Nat} {x : Res} (hx : r[i]? = some (some x)) (hb : E.bl i = some b) : b < w.heap.size := by
  have key : ∀ o : Obj, w.heap[b]? = some o → b < w.heap.size := fun o ho => (Array.getElem?_eq_some_iff.1 ho).1
  cases x with
  | tok k => obtain ⟨_, cur, e, hh, _⟩ := h.tok i k b hx hb; exact key _ hh
  | obj l =>
    obtain ⟨b', hb', _, vs, e, hh, _⟩ := h.obj i l hx
    rw [hb] at hb'; injection hb' with hb'; subst hb'
    exact key _ hh
  | mpx l =>
    obtain ⟨b', hb', _, hm⟩ := h.map i l hx
    rw [hb] at hb'; injection hb' with hb'; subst hb'
    obtain ⟨o, hh⟩ := hm.at
    exact key _ hh
theorem Good.own_lt (h : Good G E r w) {b : Nat} (ho : Own E r b) : b < w.heap.size := by
  obtain ⟨i, x, hx, hb⟩ := ho
  exact h.lt hx hb
theorem Good.pub_lt (h : Good G E r w) {a : Addr} (ha : a.off < E.T a.block) : a.block < w.heap.size := by
  rcases Nat.lt_or_ge a.block w.heap.size with h1 | h1
  · exact h1
  · have := h.fresh _ h1; omega

theorem MapIs.lasts {T' : Nat → Nat} {E' : Env} {w' : World} {l : MX} {b : Nat} (h : MapIs E w l b) (hh : w'.heap[b]? = w.heap[b]?) (hL : Lasts E.T w E'.T w') : MapIs E' w' l b := by
  cases l with
  | o b' o => exact ⟨h.1, hh.trans h.2.1, h.2.2⟩
  | m l =>
  obtain ⟨es, cl, h1, h2, h3⟩ := h
  refine ⟨es, cl, hh.trans h1, h2, fun j k d hj => ?_⟩
  obtain ⟨e, he, hk, hbn, hd⟩ := h3 j k d hj
  exact ⟨e, he, RD.lasts hL k _ hk, hbn, RD.lasts hL d _ hd⟩

theorem shape_alloc (w : World) (o : Obj) : ShapeLasts w (w.alloc o) := by
  intro b s hs
  unfold World.shape? at hs ⊢
  have hb : b < w.heap.size := by
    rcases Nat.lt_or_ge b w.heap.size with h | h
    · exact h
    · simp [Array.getElem?_eq_none h] at hs
  rw [heap_alloc_old w o b hb]
  exact hs
theorem lasts_alloc (hG : Good G E r w) (o : Obj) (t : Nat) : Lasts E.T w (updN E.T w.heap.size t) (w.alloc o) := by
  refine ⟨fun b => ?_, fun a ha => World.cell?_alloc_lt w o a (hG.pub_lt ha)⟩
  by_cases hb : b = w.heap.size
  · subst hb; have := hG.fresh _ (Nat.le_refl _); omega
  · rw [updN_ne _ _ _ hb]; exact Nat.le_refl _

/-- A new block of cells that are laid for good, or that nobody has. -/
theorem step_alloc (hG : Good G E r w) (o : Obj) (t : Nat) : Step E r w ⟨updN E.T w.heap.size t, E.bl⟩ r (w.alloc o) := by
  refine ⟨rfl, rfl, rfl, by simp, fun b hb _ => ⟨heap_alloc_old w o b hb, updN_ne _ _ _ (by omega)⟩, fun b hb => .inl hb, lasts_alloc hG o t, shape_alloc w o, ?_⟩
  exact ⟨Nat.le_refl _, fun i k' _ h => ⟨k', h, Nat.le_refl _, fun _ => rfl⟩, fun i l' _ h => ⟨l', h, rfl, rfl⟩, fun i l' _ h => ⟨l', h, rfl⟩⟩
theorem good_alloc (hG : Good G E r w) (o : Obj) (t : Nat) : Good G ⟨updN E.T w.heap.size t, E.bl⟩ r (w.alloc o) := by
  have hs := step_alloc hG o t
  refine ⟨fun i k b hi hb => ?_, fun i l hi => ?_, fun i l hi => ?_, hG.one, fun b hb => ?_, fun g => ?_⟩
  · obtain ⟨h1, cur, e, h2, h3⟩ := hG.tok i k b hi hb
    have hlt := hG.lt hi hb
    exact ⟨(updN_ne _ _ _ (by omega)).trans h1, cur, e, (heap_alloc_old w o b hlt).trans h2, h3⟩
  · obtain ⟨b, hb, h1, vs, e, h2, h3, h4⟩ := hG.obj i l hi
    have hlt := hG.lt hi hb
    exact ⟨b, hb, (updN_ne _ _ _ (by omega)).trans h1, vs, e, (heap_alloc_old w o b hlt).trans h2, h3.step hs, h4⟩
  · obtain ⟨b, hb, h1, h2⟩ := hG.map i l hi
    have hlt := hG.lt hi hb
    exact ⟨b, hb, (updN_ne _ _ _ (by omega)).trans h1, h2.lasts (T' := E.T) (heap_alloc_old w o b hlt) hs.lasts⟩
  · have : b ≠ w.heap.size := by simp at hb; omega
    show updN E.T w.heap.size t b = 0
    rw [updN_ne _ _ _ this]
    exact hG.fresh b (by simp at hb; omega)
  · exact RM.lasts hs.lasts _ _ (hG.glob g)

/-- A name more: what a call has of its own. -/
theorem names_push (E : Env) (r : Rs) (T' : Nat → Nat) (x : Option Res) (v : Option Nat) : Names E r ⟨T', updN E.bl r.length v⟩ (r ++ [x]) := by
  refine ⟨by simp, fun i k' hi h => ?_, fun i l' hi h => ?_, fun i l' hi h => ?_⟩
  all_goals rw [List.getElem?_append_left hi] at h
  · exact ⟨k', h, Nat.le_refl _, fun _ => updN_ne _ _ _ (by omega)⟩
  · exact ⟨l', h, rfl, updN_ne _ _ _ (by omega)⟩
  · exact ⟨l', h, updN_ne _ _ _ (by omega)⟩
theorem own_push {E : Env} {r : Rs} {T' : Nat → Nat} {x : Option Res} {v : Option Nat} {b : Nat} (h : Own ⟨T', updN E.bl r.length v⟩ (r ++ [x]) b) : Own E r b ∨ v = some b := by
  obtain ⟨i, y, hy, hb⟩ := h
  by_cases hi : i < r.length
  · rw [List.getElem?_append_left hi] at hy
    refine .inl ⟨i, y, hy, ?_⟩
    rw [← hb]
    exact (updN_ne _ _ _ (by omega)).symm
  · have hle : i < (r ++ [x]).length := (List.getElem?_eq_some_iff.1 hy).1
    have : i = r.length := by simp at hle; omega
    subst this
    right
    rw [← hb]
    exact (updN_same _ _ _).symm
theorem step_push_none (hG : Good G E r w) (x : Option Res) : Step E r w ⟨E.T, updN E.bl r.length none⟩ (r ++ [x]) w := by
  refine ⟨rfl, rfl, rfl, Nat.le_refl _, fun b hb _ => ⟨rfl, rfl⟩, fun b hb => ?_, Lasts.refl _ _, ShapeLasts.refl _, names_push _ _ _ _ _⟩
  rcases own_push hb with h | h
  · exact .inl h
  · cases h
theorem step_push (hG : Good G E r w) (o : Obj) (t : Nat) (x : Option Res) : Step E r w ⟨updN E.T w.heap.size t, updN E.bl r.length (some w.heap.size)⟩ (r ++ [x]) (w.alloc o) := by
  refine ⟨rfl, rfl, rfl, by simp, fun b hb _ => ⟨heap_alloc_old w o b hb, updN_ne _ _ _ (by omega)⟩, fun b hb => ?_, lasts_alloc hG o t, shape_alloc w o, names_push _ _ _ _ _⟩
  rcases own_push hb with h | h
  · exact .inl h
  · injection h with h; subst h; exact .inr (Nat.le_refl _)
/-- What must be shown of a new name alone. -/
structure NewOK (E' : Env) (r' : Rs) (w' : World) (b : Nat) (x : Res) : Prop where
  tok : ∀ k, x = .tok k → E'.T b = k ∧ ∃ cur e, w'.heap[b]? = some (.cells cur e (0, 0)) ∧ k ≤ cur.size
  obj : ∀ l, x = .obj l → E'.T b = 0 ∧ ∃ vs e, w'.heap[b]? = some (.cells vs e (0, 0)) ∧ RAL E' r' w' l vs.toList ∧ ∀ u ∈ vs.toList, u.oneCell' = true
  map : ∀ l, x = .mpx l → E'.T b = 0 ∧ MapIs E' w' l b
theorem getElem?_push_cases {r : Rs} {y : Option Res} {i : Nat} {x : Res} (h : (r ++ [y])[i]? = some (some x)) : (i < r.length ∧ r[i]? = some (some x)) ∨ (i = r.length ∧ y = some x) := by
  by_cases hi : i < r.length
  · rw [List.getElem?_append_left hi] at h
    exact .inl ⟨hi, h⟩
  · have hle := (List.getElem?_eq_some_iff.1 h).1
    have : i = r.length := by simp at hle; omega
    subst this
    simp at h
    exact .inr ⟨rfl, h⟩
theorem good_push (hG : Good G E r w) (o : Obj) (t : Nat) (x : Res) (hx : NewOK ⟨updN E.T w.heap.size t, updN E.bl r.length (some w.heap.size)⟩ (r ++ [some x]) (w.alloc o) w.heap.size x) :
    Good G ⟨updN E.T w.heap.size t, updN E.bl r.length (some w.heap.size)⟩ (r ++ [some x]) (w.alloc o) := by
  have hs := step_push hG o t (some x)
  have hbl : ∀ i, i < r.length → updN E.bl r.length (some w.heap.size) i = E.bl i := fun i hi => updN_ne _ _ _ (by omega)
  refine ⟨fun i k b hi hb => ?_, fun i l hi => ?_, fun i l hi => ?_, fun i j y z b hi hj hbi hbj => ?_, fun b hb => ?_, fun g => ?_⟩
  · rcases getElem?_push_cases hi with ⟨hlt, hi2⟩ | ⟨rfl, hi2⟩
    · rw [show (Env.bl _ i) = _ from hbl i hlt] at hb
      obtain ⟨h1, cur, e, h2, h3⟩ := hG.tok i k b hi2 hb
      have hlt := hG.lt hi2 hb
      exact ⟨(updN_ne _ _ _ (by omega)).trans h1, cur, e, (heap_alloc_old w o b hlt).trans h2, h3⟩
    · rw [show (Env.bl _ r.length) = _ from updN_same _ _ _] at hb
      injection hb with hb; subst hb; injection hi2 with hi2
      exact hx.tok k hi2
  · rcases getElem?_push_cases hi with ⟨hlt, hi2⟩ | ⟨rfl, hi2⟩
    · obtain ⟨b, hb, h1, vs, e, h2, h3, h4⟩ := hG.obj i l hi2
      have hltb := hG.lt hi2 hb
      exact ⟨b, (hbl i hlt).trans hb, (updN_ne _ _ _ (by omega)).trans h1, vs, e, (heap_alloc_old w o b hltb).trans h2, h3.step hs, h4⟩
    · injection hi2 with hi2
      obtain ⟨h1, h2⟩ := hx.obj l hi2
      exact ⟨w.heap.size, updN_same _ _ _, h1, h2⟩
  · rcases getElem?_push_cases hi with ⟨hlt, hi2⟩ | ⟨rfl, hi2⟩
    · obtain ⟨b, hb, h1, h2⟩ := hG.map i l hi2
      have hltb := hG.lt hi2 hb
      exact ⟨b, (hbl i hlt).trans hb, (updN_ne _ _ _ (by omega)).trans h1, h2.lasts (T' := E.T) (heap_alloc_old w o b hltb) hs.lasts⟩
    · injection hi2 with hi2
      obtain ⟨h1, h2⟩ := hx.map l hi2
      exact ⟨w.heap.size, updN_same _ _ _, h1, h2⟩
  · rcases getElem?_push_cases hi with ⟨hli, hi2⟩ | ⟨rfl, hi2⟩ <;> rcases getElem?_push_cases hj with ⟨hlj, hj2⟩ | ⟨rfl, hj2⟩
    · rw [show (Env.bl _ i) = _ from hbl i hli] at hbi
      rw [show (Env.bl _ j) = _ from hbl j hlj] at hbj
      exact hG.one i j y z b hi2 hj2 hbi hbj
    · rw [show (Env.bl _ i) = _ from hbl i hli] at hbi
      rw [show (Env.bl _ r.length) = _ from updN_same _ _ _] at hbj
      injection hbj with hbj
      have := hG.lt hi2 hbi; omega
    · rw [show (Env.bl _ j) = _ from hbl j hlj] at hbj
      rw [show (Env.bl _ r.length) = _ from updN_same _ _ _] at hbi
      injection hbi with hbi
      have := hG.lt hj2 hbj; omega
    · rfl
  · have : b ≠ w.heap.size := by simp at hb; omega
    show updN E.T w.heap.size t b = 0
    rw [updN_ne _ _ _ this]
    exact hG.fresh b (by simp at hb; omega)
  · exact RM.lasts hs.lasts _ _ (hG.glob g)
theorem good_push_none (hG : Good G E r w) (x : Option Res) (hx : ∀ y, x = some y → ∃ k, y = .tok k) : Good G ⟨E.T, updN E.bl r.length none⟩ (r ++ [x]) w := by
  have hs := step_push_none hG x
  have hbl : ∀ i, i < r.length → updN E.bl r.length none i = E.bl i := fun i hi => updN_ne _ _ _ (by omega)
  refine ⟨fun i k b hi hb => ?_, fun i l hi => ?_, fun i l hi => ?_, fun i j y z b hi hj hbi hbj => ?_, hG.fresh, hG.glob⟩
  · rcases getElem?_push_cases hi with ⟨hlt, hi2⟩ | ⟨rfl, hi2⟩
    · rw [show (Env.bl _ i) = _ from hbl i hlt] at hb
      exact hG.tok i k b hi2 hb
    · rw [show (Env.bl _ r.length) = _ from updN_same _ _ _] at hb
      cases hb
  · rcases getElem?_push_cases hi with ⟨hlt, hi2⟩ | ⟨rfl, hi2⟩
    · obtain ⟨b, hb, h1, vs, e, h2, h3, h4⟩ := hG.obj i l hi2
      exact ⟨b, (hbl i hlt).trans hb, h1, vs, e, h2, h3.step hs, h4⟩
    · obtain ⟨k, hk⟩ := hx _ hi2; cases hk
  · rcases getElem?_push_cases hi with ⟨hlt, hi2⟩ | ⟨rfl, hi2⟩
    · obtain ⟨b, hb, h1, h2⟩ := hG.map i l hi2
      exact ⟨b, (hbl i hlt).trans hb, h1, h2.lasts (T' := E.T) rfl hs.lasts⟩
    · obtain ⟨k, hk⟩ := hx _ hi2; cases hk
  · rcases getElem?_push_cases hi with ⟨hli, hi2⟩ | ⟨rfl, hi2⟩ <;> rcases getElem?_push_cases hj with ⟨hlj, hj2⟩ | ⟨rfl, hj2⟩
    · rw [show (Env.bl _ i) = _ from hbl i hli] at hbi
      rw [show (Env.bl _ j) = _ from hbl j hlj] at hbj
      exact hG.one i j y z b hi2 hj2 hbi hbj
    · rw [show (Env.bl _ r.length) = _ from updN_same _ _ _] at hbj; cases hbj
    · rw [show (Env.bl _ r.length) = _ from updN_same _ _ _] at hbi; cases hbi
    · rfl

/-! ### A draw -/
theorem step_drew (E : Env) (r : Rs) (w : World) : Step E r w E r w.drew :=
  ⟨rfl, rfl, rfl, Nat.le_refl _, fun _ _ _ => ⟨rfl, rfl⟩, fun _ h => .inl h, ⟨fun _ => Nat.le_refl _, fun _ _ => rfl⟩, fun _ _ h => h, Names.refl _ _⟩
theorem good_drew (h : Good G E r w) : Good G E r w.drew := by
  have hs := step_drew E r w
  refine ⟨h.tok, fun i l hi => ?_, fun i l hi => ?_, h.one, h.fresh, fun g => RM.lasts hs.lasts _ _ (h.glob g)⟩
  · obtain ⟨b, hb, h1, vs, e, h2, h3, h4⟩ := h.obj i l hi
    exact ⟨b, hb, h1, vs, e, h2, h3.step hs, h4⟩
  · obtain ⟨b, hb, h1, h2⟩ := h.map i l hi
    exact ⟨b, hb, h1, h2.lasts (T' := E.T) rfl hs.lasts⟩

/-! ### A row written in place -/
theorem heap_setRow_other (w : World) (g : Nat) (cs : Array Value) {b : Nat} (h : b ≠ g) : (w.setRow g cs).heap[b]? = w.heap[b]? := by
  simp [World.setRow, Array.getElem?_modify, Ne.symm h]
theorem shape_setRow (w : World) (g : Nat) (old cs : Array Value) (t : TypeId) (hg : w.heap[g]? = some (.cells old t (0, 0))) (hs : cs.size = old.size) : ShapeLasts w (w.setRow g cs) := by
  intro b s h
  by_cases hb : b = g
  · subst hb
    unfold World.shape? at h ⊢
    rw [setRow_heap w b old cs t (0, 0) hg]
    rw [hg] at h
    simpa [hs] using h
  · unfold World.shape? at h ⊢
    rw [heap_setRow_other w g cs hb]
    exact h
theorem lasts_setRow {i g : Nat} {old cs : Array Value} {t : TypeId} {t' : Nat} (hg : w.heap[g]? = some (.cells old t (0, 0))) (hsz : cs.size = old.size) (hT : E.T g ≤ t') (hc : ∀ j, j < E.T g → cs[j]? = old[j]?) :
    Lasts E.T w (updN E.T g t') (w.setRow g cs) := by
  refine ⟨fun b => ?_, fun a ha => ?_⟩
  · by_cases hb : b = g
    · subst hb; rw [updN_same]; exact hT
    · rw [updN_ne _ _ _ hb]; exact Nat.le_refl _
  · by_cases hb : a.block = g
    · subst hb
      unfold World.cell?
      rw [setRow_heap w _ old cs t (0, 0) hg, hg]
      simp only
      split
      · rfl
      · exact hc _ ha
    · exact World.cell?_of_block (heap_setRow_other w g cs hb)
theorem getElem?_set_cases {r : Rs} {i j : Nat} {y z : Option Res} (h : (r.set i y)[j]? = some z) : (j = i ∧ z = y) ∨ (j ≠ i ∧ r[j]? = some z) := by
  by_cases hij : j = i
  · subst hij
    have hlt := (List.getElem?_eq_some_iff.1 h).1
    simp at hlt
    simp [List.getElem?_set, hlt] at h
    exact .inl ⟨rfl, h.symm⟩
  · rw [List.getElem?_set_ne (fun e => hij e.symm)] at h
    exact .inr ⟨hij, h⟩
theorem step_setRow (hG : Good G E r w) {i g : Nat} {x x' : Res} (hi : r[i]? = some (some x)) (hb : E.bl i = some g) {old cs : Array Value} {t : TypeId} {t' : Nat} (hg : w.heap[g]? = some (.cells old t (0, 0))) (hsz : cs.size = old.size)
    (hT : E.T g ≤ t') (hc : ∀ j, j < E.T g → cs[j]? = old[j]?)
    (hx : (∃ k k', x = .tok k ∧ x' = .tok k' ∧ k ≤ k') ∨ ∃ l l', x = .obj l ∧ x' = .obj l' ∧ l.length = l'.length) :
    Step E r w ⟨updN E.T g t', E.bl⟩ (r.set i (some x')) (w.setRow g cs) := by
  have hown : Own E r g := ⟨i, x, hi, hb⟩
  refine ⟨rfl, rfl, rfl, by simp [World.setRow], fun b hlt hn => ?_, fun b ho => ?_, lasts_setRow (i := i) hg hsz hT hc, shape_setRow w g old cs t hg hsz, ?_⟩
  · have hne : b ≠ g := fun e => hn (e ▸ hown)
    exact ⟨heap_setRow_other w g cs hne, updN_ne _ _ _ hne⟩
  · obtain ⟨j, y, hj, hbj⟩ := ho
    rcases getElem?_set_cases hj with ⟨rfl, _⟩ | ⟨_, hj⟩
    · exact .inl ⟨j, x, hi, hbj⟩
    · exact .inl ⟨j, y, hj, hbj⟩
  · refine ⟨by simp, fun j k' _ hj => ?_, fun j l' _ hj => ?_, fun j l' _ hj => ?_⟩
    · rcases getElem?_set_cases hj with ⟨rfl, hy⟩ | ⟨_, hj⟩
      · injection hy with hy
        subst hy
        rcases hx with ⟨k, k2, rfl, h2, hle⟩ | ⟨l, l', rfl, h2, _⟩
        · injection h2 with h2; subst h2
          exact ⟨k, hi, hle, fun _ => rfl⟩
        · cases h2
      · exact ⟨k', hj, Nat.le_refl _, fun _ => rfl⟩
    · rcases getElem?_set_cases hj with ⟨rfl, hy⟩ | ⟨_, hj⟩
      · injection hy with hy
        subst hy
        rcases hx with ⟨k, k2, rfl, h2, hle⟩ | ⟨l, l2, rfl, h2, hl⟩
        · cases h2
        · injection h2 with h2; subst h2
          exact ⟨l, hi, hl, rfl⟩
      · exact ⟨l', hj, rfl, rfl⟩
    · rcases getElem?_set_cases hj with ⟨rfl, hy⟩ | ⟨_, hj⟩
      · injection hy with hy
        subst hy
        rcases hx with ⟨k, k2, rfl, h2, hle⟩ | ⟨l, l2, rfl, h2, hl⟩
        · cases h2
        · cases h2
      · exact ⟨l', hj, rfl⟩
theorem good_setRow (hG : Good G E r w) {i g : Nat} {x x' : Res} (hi : r[i]? = some (some x)) (hb : E.bl i = some g) {old cs : Array Value} {t : TypeId} {t' : Nat} (hg : w.heap[g]? = some (.cells old t (0, 0))) (hsz : cs.size = old.size)
    (hT : E.T g ≤ t') (hc : ∀ j, j < E.T g → cs[j]? = old[j]?)
    (hx : (∃ k k', x = .tok k ∧ x' = .tok k' ∧ k ≤ k' ∧ t' = k' ∧ k' ≤ cs.size) ∨
      ∃ l l', x = .obj l ∧ x' = .obj l' ∧ l.length = l'.length ∧ t' = 0 ∧ (∀ u ∈ cs.toList, u.oneCell' = true) ∧ RAL ⟨updN E.T g t', E.bl⟩ (r.set i (some x')) (w.setRow g cs) l' cs.toList) :
    Good G ⟨updN E.T g t', E.bl⟩ (r.set i (some x')) (w.setRow g cs) := by
  have hs : Step E r w ⟨updN E.T g t', E.bl⟩ (r.set i (some x')) (w.setRow g cs) := step_setRow hG hi hb hg hsz hT hc (by
    rcases hx with ⟨k, k', h1, h2, h3, _⟩ | ⟨l, l', h1, h2, h3, _⟩
    · exact .inl ⟨k, k', h1, h2, h3⟩
    · exact .inr ⟨l, l', h1, h2, h3⟩)
  have hne : ∀ j y b, j ≠ i → r[j]? = some (some y) → E.bl j = some b → b ≠ g := fun j y b hji hj hbj e => hji (hG.one j i y x g hj hi (e ▸ hbj) hb)
  refine ⟨fun j k b hj hbj => ?_, fun j l hj => ?_, fun j l hj => ?_, fun j k y z b hj hk hbj hbk => ?_, fun b hbs => ?_, fun gl => RM.lasts hs.lasts _ _ (hG.glob gl)⟩
  · rcases getElem?_set_cases hj with ⟨rfl, hy⟩ | ⟨hji, hj⟩
    · injection hy with hy
      subst hy
      rw [show (Env.bl _ j) = _ from hb] at hbj
      injection hbj with hbj
      subst hbj
      rcases hx with ⟨k1, k2, rfl, h2, hle, rfl, hks⟩ | ⟨l, l', rfl, h2, _⟩
      · injection h2 with h2; subst h2
        exact ⟨updN_same _ _ _, cs, t, setRow_heap w _ old cs t (0, 0) hg, hks⟩
      · cases h2
    · have hbg := hne j _ b hji hj hbj
      obtain ⟨h1, cur, e, h2, h3⟩ := hG.tok j k b hj hbj
      exact ⟨(updN_ne _ _ _ hbg).trans h1, cur, e, (heap_setRow_other w g cs hbg).trans h2, h3⟩
  · rcases getElem?_set_cases hj with ⟨rfl, hy⟩ | ⟨hji, hj⟩
    · injection hy with hy
      subst hy
      rcases hx with ⟨k1, k2, rfl, h2, _⟩ | ⟨l1, l2, rfl, h2, _, rfl, hone, hral⟩
      · cases h2
      · injection h2 with h2; subst h2
        exact ⟨g, hb, updN_same _ _ _, cs, t, setRow_heap w _ old cs t (0, 0) hg, hral, hone⟩
    · obtain ⟨b, hbj, h1, vs, e, h2, h3, h4⟩ := hG.obj j l hj
      have hbg := hne j _ b hji hj hbj
      exact ⟨b, hbj, (updN_ne _ _ _ hbg).trans h1, vs, e, (heap_setRow_other w g cs hbg).trans h2, h3.step hs, h4⟩
  · rcases getElem?_set_cases hj with ⟨rfl, hy⟩ | ⟨hji, hj⟩
    · injection hy with hy
      subst hy
      rcases hx with ⟨k1, k2, rfl, h2, _⟩ | ⟨l1, l2, rfl, h2, _⟩ <;> cases h2
    · obtain ⟨b, hbj, h1, h2⟩ := hG.map j l hj
      have hbg := hne j _ b hji hj hbj
      exact ⟨b, hbj, (updN_ne _ _ _ hbg).trans h1, h2.lasts (T' := E.T) (heap_setRow_other w g cs hbg) hs.lasts⟩
  · have h1 : ∃ y', r[j]? = some (some y') := by
      rcases getElem?_set_cases hj with ⟨rfl, _⟩ | ⟨_, hj⟩
      · exact ⟨_, hi⟩
      · exact ⟨_, hj⟩
    have h2 : ∃ y', r[k]? = some (some y') := by
      rcases getElem?_set_cases hk with ⟨rfl, _⟩ | ⟨_, hk⟩
      · exact ⟨_, hi⟩
      · exact ⟨_, hk⟩
    obtain ⟨y', hy'⟩ := h1
    obtain ⟨z', hz'⟩ := h2
    exact hG.one j k y' z' b hy' hz' hbj hbk
  · have hlt : g < w.heap.size := hG.lt hi hb
    have hsz' : w.heap.size ≤ b := by simpa [World.setRow] using hbs
    show updN E.T g t' b = 0
    rw [updN_ne _ _ _ (by omega)]
    exact hG.fresh b hsz'
end Go.Proofs.Ythdjblfiiogmgaa
/- The frame of these proofs, part D: what an operation that only computes comes to, by sight of the slots. -/
set_option linter.unusedVariables false
set_option linter.unusedSimpArgs false
namespace Go.Proofs.Ythdjblfiiogmgaa
open Go

/-! ### Types -/
structure TI where
  u : TypeDesc
  size : Nat
  bytes : Nat
  zero : Value
/-- The types; 'lit': a slice that is made of parts is the call's own (it may be marked as a text's bytes, or written). -/
structure Ti where
  f : TypeId → Option TI
  lit : Bool
instance : CoeFun Ti (fun _ => TypeId → Option TI) := ⟨Ti.f⟩
def TiOK (P : Program) (ti : Ti) : Prop := ∀ t i, ti t = some i → P.underlying t = some i.u ∧ ∃ f, P.info? t = some f ∧ f.size = i.size ∧ f.bytes = i.bytes ∧ f.zero = some i.zero ∧ i.zero.cells.size = i.size ∧ P.stoodInHeld t = false
def isAggD : TypeDesc → Bool
  | .struct _ => true
  | .array _ _ => true
  | _ => false

/-- 'x', where 'c' holds; else nothing is said. -/
def chk {α : Type} (c : Prop) [Decidable c] (x : Option α) : Option α := if c then x else none
theorem chk_pos {α : Type} {c : Prop} [Decidable c] {x : Option α} (h : c) : chk c x = x := if_pos h
theorem chk_some {α : Type} {c : Prop} [Decidable c] {x : Option α} {v : α} (h : chk c x = some v) : c ∧ x = some v := by
  unfold chk at h
  split at h
  · exact ⟨‹_›, h⟩
  · cases h

/-! ### Numbers, texts, truth values -/
def vAr (f : Int → Int → Int) : Value → Value → Option Value
  | .int k a, .int k' b => if k = k' then some (.int k (k.wrap (f a b))) else none
  | _, _ => none
def vAdd : Value → Value → Option Value
  | .int k a, .int k' b => if k = k' then some (.int k (k.wrap (a + b))) else none
  | .string a, .string b => chk (a.size + b.size ≤ 9223372036854775807) (some (.string (a ++ b)))
  | _, _ => none
def vDiv (f : Int → Int → Int) (wr : Bool) : Value → Value → Option Value
  | .int k a, .int k' b => if k = k' then chk (b ≠ 0) (some (.int k (if wr then k.wrap (f a b) else f a b))) else none
  | _, _ => none
def ibits (op : BinOp) (k : IntKind) (x y : Int) : Int :=
  match op with
  | .and => k.wrap ((BitVec.ofInt k.bits x &&& BitVec.ofInt k.bits y).toNat : Int)
  | .or => k.wrap ((BitVec.ofInt k.bits x ||| BitVec.ofInt k.bits y).toNat : Int)
  | .xor => k.wrap ((BitVec.ofInt k.bits x ^^^ BitVec.ofInt k.bits y).toNat : Int)
  | _ => k.wrap ((BitVec.ofInt k.bits x &&& ~~~(BitVec.ofInt k.bits y)).toNat : Int)
def vBits (op : BinOp) : Value → Value → Option Value
  | .int k a, .int k' b => if k = k' then some (.int k (ibits op k a b)) else none
  | _, _ => none
def ishl (k : IntKind) (x y : Int) : Int := k.wrap (x * 2 ^ (min y.toNat k.bits))
def ishr (k : IntKind) (x y : Int) : Int := x.fdiv (2 ^ (min y.toNat k.bits))
def vSh (f : IntKind → Int → Int → Int) : Value → Value → Option Value
  | .int k a, .int _ b => chk (0 ≤ b) (some (.int k (f k a b)))
  | _, _ => none
def vCmp (f : Int → Int → Bool) (g : List UInt8 → List UInt8 → Bool) : Value → Value → Option Value
  | .int k a, .int k' b => if k = k' then some (.bool (f a b)) else none
  | .string a, .string b => some (.bool (g a.toList b.toList))
  | _, _ => none
def vEq (isB neg : Bool) : Value → Value → Option Value
  | .int k a, .int k' b => if k = k' then some (.bool (if neg then a != b else a == b)) else none
  | .string a, .string b => some (.bool (if neg then !(a.toList == b.toList) else a.toList == b.toList))
  | .bool a, .bool b => if isB = true then some (.bool (if neg then !(a == b) else a == b)) else none
  | _, _ => none
def vBin (isB : Bool) (op : BinOp) (a b : Value) : Option Value :=
  match op with
  | .add => vAdd a b
  | .sub => vAr (fun x y => x - y) a b
  | .mul => vAr (fun x y => x * y) a b
  | .quo => vDiv (fun x y => x.tdiv y) true a b
  | .rem => vDiv (fun x y => x.tmod y) false a b
  | .and => vBits .and a b
  | .or => vBits .or a b
  | .xor => vBits .xor a b
  | .andNot => vBits .andNot a b
  | .shl => vSh ishl a b
  | .shr => vSh ishr a b
  | .eql => vEq isB false a b
  | .neq => vEq isB true a b
  | .lss => vCmp (fun x y => decide (x < y)) (fun x y => Op.bytesLess x y) a b
  | .leq => vCmp (fun x y => decide (x ≤ y)) (fun x y => Op.bytesLess x y || x == y) a b
  | .gtr => vCmp (fun x y => decide (x > y)) (fun x y => !(Op.bytesLess x y || x == y)) a b
  | .geq => vCmp (fun x y => decide (x ≥ y)) (fun x y => !(Op.bytesLess x y)) a b

theorem vEq_run {P : Program} {t : TypeId} {isB : Bool} (hB : isB = true → P.underlying t = some .bool) {a b v : Value} (w : World) : ∀ {neg : Bool}, vEq isB neg a b = some v → (binOp (if neg then .neq else .eql) t a b).run P w = .ok v w := by
  intro neg h
  unfold vEq at h
  split at h
  · split at h
    · rename_i hk; subst hk
      injection h with h; subst h
      cases neg <;> simp [binOp, Op.intCmp]
    · cases h
  · injection h with h; subst h
    cases neg <;> simp [binOp, Op.stringOp]
  · split at h
    · rename_i a b hu
      injection h with h; subst h
      have key : ∀ d : Nat, (Op.equalIn (d + 1) t (.bool a) (.bool b)).run P w = .ok (a == b) w := fun d => by simp [Op.equalIn, run_underlying (hB hu)]
      have k2 : (Op.equal t (.bool a) (.bool b)).run P w = .ok (a == b) w := key 9999
      cases neg <;> simp only [binOp, Sem.run_bind, k2, Result.andThen_ok, Sem.run_pure, if_true, if_false, Bool.false_eq_true]
    · cases h
  · cases h
theorem vBin_run {P : Program} {op : BinOp} {t : TypeId} {isB : Bool} (hB : isB = true → P.underlying t = some .bool) {a b v : Value} (h : vBin isB op a b = some v) (w : World) : (binOp op t a b).run P w = .ok v w := by
  cases op
  case eql => exact vEq_run hB (neg := false) w h
  case neq => exact vEq_run hB (neg := true) w h
  case add =>
    simp only [vBin] at h
    unfold vAdd at h
    split at h
    · split at h
      · rename_i hk; subst hk; injection h with h; subst h; simp [binOp, Op.intArith]
      · cases h
    · obtain ⟨hc, h⟩ := chk_some h
      injection h with h; subst h
      simp only [binOp, Op.stringOp]
      rw [if_neg (by simp [IntKind.max, IntKind.bits]; omega)]
      rfl
    · cases h
  case sub | mul =>
    simp only [vBin] at h
    unfold vAr at h
    split at h
    · split at h
      · rename_i hk; subst hk; injection h with h; subst h; simp [binOp, Op.intArith]
      · cases h
    · cases h
  case quo | rem =>
    simp only [vBin] at h
    unfold vDiv at h
    split at h
    · split at h
      · rename_i hk; subst hk
        obtain ⟨hc, h⟩ := chk_some h
        injection h with h; subst h; simp [binOp, Op.intDiv, hc]
      · cases h
    · cases h
  case and | or | xor | andNot =>
    simp only [vBin] at h
    unfold vBits at h
    split at h
    · split at h
      · rename_i hk; subst hk; injection h with h; subst h; simp [binOp, Op.intBits, ibits]
      · cases h
    · cases h
  case shl | shr =>
    simp only [vBin] at h
    unfold vSh at h
    split at h
    · obtain ⟨hc, h⟩ := chk_some h
      injection h with h; subst h; simp [binOp, Op.shift, ishl, ishr, Int.not_lt.2 hc]
    · cases h
  case lss | leq | gtr | geq =>
    simp only [vBin] at h
    unfold vCmp at h
    split at h
    · split at h
      · rename_i hk; subst hk; injection h with h; subst h; simp [binOp, Op.intCmp]
      · cases h
    · injection h with h; subst h; simp [binOp, Op.stringOp]
    · cases h
theorem vEq_guard {P : Program} {t : TypeId} {isB : Bool} {a b v : Value} {neg : Bool} (h : vEq isB neg a b = some v) (op : BinOp) (x y : Operand) (w : World) : (eqGuard op t x y a b).run P w = .ok () w := by
  unfold vEq at h
  split at h
  all_goals first
    | (cases h; done)
    | (unfold eqGuard; split <;> simp)
theorem vBin_guard {P : Program} {op : BinOp} {t : TypeId} {isB : Bool} {a b v : Value} (h : vBin isB op a b = some v) (x y : Operand) (w : World) : (eqGuard op t x y a b).run P w = .ok () w := by
  cases op
  case eql => exact vEq_guard (neg := false) h _ x y w
  case neq => exact vEq_guard (neg := true) h _ x y w
  all_goals simp [eqGuard]
def vUn : UnOp → Value → Option Value
  | .neg, .int k n => some (.int k (k.wrap (0 - n)))
  | .xor, .int k n => some (.int k (ibits .xor k (if k.signed then -1 else k.max) n))
  | .not, .bool b => some (.bool !b)
  | _, _ => none
theorem vUn_run {P : Program} {op : UnOp} {a v : Value} (h : vUn op a = some v) (w : World) : (Op.unary op a).run P w = .ok v w := by
  unfold vUn at h
  split at h
  · injection h with h; subst h; simp [Op.unary, Op.intArith]
  · injection h with h; subst h; simp [Op.unary, Op.intBits, ibits]
  · injection h with h; subst h; simp [Op.unary]
  · cases h
end Go.Proofs.Ythdjblfiiogmgaa
/- The frame of these proofs, part E: operations that only compute, over what stands in the slots. -/
set_option linter.unusedVariables false
set_option linter.unusedSimpArgs false
namespace Go.Proofs.Ythdjblfiiogmgaa
open Go

/-! ### Lists of what stands in slots -/
theorem RAL_length {E : Env} {r : Rs} {w : World} : ∀ (l : List AV) (vs : List Value), RAL E r w l vs → vs.length = l.length
  | [], vs, h => by simp only [RAL] at h; simp [h]
  | a :: l, vs, h => by
    simp only [RAL] at h
    obtain ⟨v, rest, rfl, _, hr⟩ := h
    simp [RAL_length l rest hr]
theorem RAL_get {E : Env} {r : Rs} {w : World} : ∀ (l : List AV) (vs : List Value), RAL E r w l vs → ∀ (j : Nat) (a : AV), l[j]? = some a → ∃ v, vs[j]? = some v ∧ RA E r w a v
  | [], _, _, j, a, hd => by simp at hd
  | e :: l, vs, h, j, a, hd => by
    simp only [RAL] at h
    obtain ⟨v, rest, rfl, h2, hr⟩ := h
    cases j with
    | zero => simp at hd; subst hd; exact ⟨v, by simp, h2⟩
    | succ j => simpa using RAL_get l rest hr j a (by simpa using hd)
theorem RAL_of_get {E : Env} {r : Rs} {w : World} : ∀ (l : List AV) (vs : List Value), vs.length = l.length → (∀ (j : Nat) (a : AV), l[j]? = some a → ∃ v, vs[j]? = some v ∧ RA E r w a v) → RAL E r w l vs
  | [], vs, hl, _ => by simp only [RAL]; exact List.eq_nil_of_length_eq_zero (by simpa using hl)
  | d :: ds, [], hl, _ => by simp at hl
  | d :: ds, v :: vs, hl, h => by
    simp only [RAL]
    obtain ⟨v', hv, h2⟩ := h 0 d (by simp)
    simp at hv
    subst hv
    exact ⟨v, vs, rfl, h2, RAL_of_get ds vs (by simpa using hl) fun j e he => by simpa using h (j + 1) e (by simpa using he)⟩
theorem RAL_map_d {E : Env} {r : Rs} {w : World} (ds : List D) (vs : List Value) (h : RL E.T w ds vs) : RAL E r w (ds.map .d) vs := by
  refine RAL_of_get _ _ (by simp [RL_length ds vs h]) fun j a ha => ?_
  simp only [List.getElem?_map, Option.map_eq_some_iff] at ha
  obtain ⟨d, hd, rfl⟩ := ha
  obtain ⟨v, hv, _, h2⟩ := RL_get ds vs h j d hd
  exact ⟨v, hv, by simpa [RA] using h2⟩
theorem RAL_take {E : Env} {r : Rs} {w : World} (l : List AV) (vs : List Value) (h : RAL E r w l vs) (k : Nat) : RAL E r w (l.take k) (vs.take k) := by
  refine RAL_of_get _ _ (by simp [RAL_length l vs h]) fun j d hd => ?_
  rw [List.getElem?_take] at hd ⊢
  split at hd
  · rename_i hj; rw [if_pos hj]; exact RAL_get l vs h j d hd
  · cases hd
theorem RAL_drop {E : Env} {r : Rs} {w : World} (l : List AV) (vs : List Value) (h : RAL E r w l vs) (k : Nat) : RAL E r w (l.drop k) (vs.drop k) := by
  refine RAL_of_get _ _ (by simp [RAL_length l vs h]) fun j d hd => ?_
  rw [List.getElem?_drop] at hd ⊢
  exact RAL_get l vs h _ d hd
theorem RAL_append {E : Env} {r : Rs} {w : World} (l m : List AV) (vs us : List Value) (h : RAL E r w l vs) (k : RAL E r w m us) : RAL E r w (l ++ m) (vs ++ us) := by
  have hl := RAL_length l vs h
  refine RAL_of_get _ _ (by simp [hl, RAL_length m us k]) fun j d hd => ?_
  by_cases hj : j < l.length
  · rw [List.getElem?_append_left hj] at hd
    rw [List.getElem?_append_left (by omega)]
    exact RAL_get l vs h j d hd
  · rw [List.getElem?_append_right (by omega)] at hd
    rw [List.getElem?_append_right (by omega), hl]
    exact RAL_get m us k _ d hd

/-! ### What stands in a slot, as a datum -/
mutual
def toD : AV → Option D
  | .d x => some x
  | .sl _ sz n xs => some (.sl sz n xs)
  | .agg l => (allD l).map .agg
  | .el xs => some (.p xs)
  | _ => none
def allD : List AV → Option (List D)
  | [] => some []
  | a :: l => match toD a, allD l with
    | some d, some ds => some (d :: ds)
    | _, _ => none
end
def oneAV : AV → Bool
  | .agg _ => false
  | .d (.agg _) => false
  | .tup _ => false
  | .top => false
  | _ => true
theorem RA_one {E : Env} {r : Rs} {w : World} {a : AV} {x : Value} (h : RA E r w a x) (h1 : oneAV a = true) (hlive : ∀ i, (a = .mp i ∨ (∃ off, a = .ptr i off) ∨ ∃ off sz n, a = .osl i off sz n) → x.oneCell' = true) : x.oneCell' = true := by
  cases a with
  | d y =>
    cases y with
    | c v => simp only [RA, RD] at h; rw [h.1]; exact h.2
    | sl sz n xs => simp only [RA, RD] at h; obtain ⟨_, A, c, rfl, _⟩ := h; rfl
    | agg xs => simp [oneAV] at h1
    | p xs => simp only [RA, RD] at h; obtain ⟨ad, rfl, _⟩ := h; rfl
  | sl m sz n xs => simp only [RA] at h; obtain ⟨_, A, c, rfl, _⟩ := h; rfl
  | ptr i off => exact hlive i (.inr (.inl ⟨off, rfl⟩))
  | el xs => simp only [RA] at h; obtain ⟨ad, rfl, _⟩ := h; rfl
  | osl i off sz n => exact hlive i (.inr (.inr ⟨off, sz, n, rfl⟩))
  | csl i off sz n c => simp only [RA] at h; obtain ⟨_, A, rfl, _⟩ := h; rfl
  | tup l => simp [oneAV] at h1
  | agg l => simp [oneAV] at h1
  | fn f a b => simp only [RA] at h; obtain ⟨vs, us, rfl, _⟩ := h; rfl
  | yv l L sl => simp only [RA] at h; rw [h.1]; rfl
  | mp i => exact hlive i (.inl rfl)
  | top => simp [oneAV] at h1
mutual
theorem toD_sound {E : Env} {r : Rs} {w : World} : ∀ (a : AV) (x : Value) (d : D), RA E r w a x → toD a = some d → RD E.T w d x
  | .d y, x, d, h, e => by simp only [toD] at e; injection e with e; subst e; simpa [RA] using h
  | .sl m sz n xs, x, d, h, e => by
    simp only [toD] at e; injection e with e; subst e
    simp only [RA] at h
    obtain ⟨hl, A, c, rfl, hc, hr, _⟩ := h
    simp only [RD]
    exact ⟨hl, A, c, rfl, hc, hr⟩
  | .agg l, x, d, h, e => by
    simp only [toD, Option.map_eq_some_iff] at e
    obtain ⟨ds, hds, rfl⟩ := e
    simp only [RA] at h
    obtain ⟨vs, rfl, hr, h1⟩ := h
    simp only [RD]
    exact ⟨vs, rfl, allD_sound l _ ds hr hds h1⟩
  | .ptr _ _, _, _, _, e => by simp [toD] at e
  | .el xs, x, d, h, e => by
    simp only [toD] at e; injection e with e; subst e
    simpa [RA, RD] using h
  | .osl _ _ _ _, _, _, _, e => by simp [toD] at e
  | .csl _ _ _ _ _, _, _, _, e => by simp [toD] at e
  | .tup _, _, _, _, e => by simp [toD] at e
  | .fn _ _ _, _, _, _, e => by simp [toD] at e
  | .yv _ _ _, _, _, _, e => by simp [toD] at e
  | .mp _, _, _, _, e => by simp [toD] at e
  | .top, _, _, _, e => by simp [toD] at e
theorem allD_sound {E : Env} {r : Rs} {w : World} : ∀ (l : List AV) (vs : List Value) (ds : List D), RAL E r w l vs → allD l = some ds → (∀ u ∈ vs, u.oneCell' = true) → RL E.T w ds vs
  | [], vs, ds, h, e, _ => by
    simp only [allD] at e; injection e with e; subst e
    simpa [RAL, RL] using h
  | a :: l, vs, ds, h, e, h1 => by
    simp only [allD] at e
    split at e
    · rename_i d ds' hd hds
      injection e with e; subst e
      simp only [RAL] at h
      obtain ⟨v, rest, rfl, hv, hr⟩ := h
      simp only [RL]
      exact ⟨v, rest, rfl, h1 v (by simp), toD_sound a v d hv hd, allD_sound l rest ds' hr hds fun u hu => h1 u (by simp [hu])⟩
    · cases e
end
/-- A struct's or an array's value out of its cells. -/
def mkAgg (l : List AV) : AV := match allD l with
  | some ds => .d (.agg ds)
  | none => .agg l
theorem mkAgg_sound {E : Env} {r : Rs} {w : World} {l : List AV} {vs : Array Value} (h : RAL E r w l vs.toList) (h1 : ∀ u ∈ vs.toList, u.oneCell' = true) : RA E r w (mkAgg l) (.agg vs) := by
  unfold mkAgg
  split
  · rename_i ds hds
    simp only [RA, RD]
    exact ⟨vs, rfl, allD_sound l _ ds h hds h1⟩
  · simp only [RA]
    exact ⟨vs, rfl, h, h1⟩
theorem allD_map (ds : List D) : allD (ds.map .d) = some ds := by
  induction ds with
  | nil => simp [allD]
  | cons d ds ih => simp [allD, toD, ih]
/-- A value's cells. -/
def cellsAV : AV → Option (List AV)
  | .d (.agg xs) => some (xs.map .d)
  | .agg l => some l
  | .tup _ => none
  | .top => none
  | a => some [a]

/-! ### Operands -/
def constAV : Value → AV
  | .agg cs => if cs.toList.all Value.oneCell' then .d (.agg (cs.toList.map .c)) else .top
  | .tuple vs => if vs.size = 0 then .tup [] else .top
  | v => .d (.c v)
theorem RL_consts {T : Nat → Nat} {w : World} : ∀ (l : List Value), l.all Value.oneCell' = true → RL T w (l.map .c) l
  | [], _ => by simp [RL]
  | v :: l, h => by
    simp only [List.all_cons, Bool.and_eq_true] at h
    simp only [List.map_cons, RL, RD]
    exact ⟨v, l, rfl, h.1, ⟨rfl, h.1⟩, RL_consts l h.2⟩
theorem constAV_sound (E : Env) (r : Rs) (w : World) (v : Value) : RA E r w (constAV v) v := by
  unfold constAV
  split
  · rename_i cs
    split
    · rename_i h
      simp only [RA, RD]
      exact ⟨cs, rfl, RL_consts _ h⟩
    · simp [RA]
  · rename_i vs
    split
    · rename_i h
      simp only [RA, RAL]
      exact ⟨vs, rfl, by simpa using h⟩
    · simp [RA]
  · rename_i h1 h2
    simp only [RA, RD, true_and]
    cases v <;> first | rfl | (exact absurd rfl (h1 _)) | (exact absurd rfl (h2 _))
def St.ev (σ : St) (G : GR) : Operand → AV
  | .tmp t => σ.get t
  | .const v => constAV v
  | .global g => .el (G g)
  | .func f => .fn (.func f) [] []
theorem ev_sound {G : GR} {N : Nat} {E : Env} {σ : St} {a : Act} {w : World} (h : Rel G N E σ a w) (o : Operand) : RA E σ.r w (σ.ev G o) (a.eval o) := by
  cases o with
  | tmp t => exact h.slot t
  | const v => exact constAV_sound E σ.r w v
  | global g => simp only [St.ev, RA, Act.eval]; exact ⟨_, rfl, h.good.glob g⟩
  | func f => simp only [St.ev, RA, Act.eval, RAL]; exact ⟨#[], #[], rfl, rfl, rfl⟩

/-! ### Slices, as one word for data and for the call's own rows -/
/-- 'n' elements of 'sz' cells each; which mode; which cells. -/
def slOf (sz : Nat) : AV → Option (Option Mo × Nat × List D)
  | .d (.sl sz' n xs) => if sz' = sz then some (none, n, xs) else none
  | .d (.c (.slice none 0 0)) => some (some .full, 0, [])
  | .d (.c (.slice (some _) 0 _)) => some (none, 0, [])
  | .sl m sz' n xs => if sz' = sz then some (some m, n, xs) else none
  | _ => none
def MoO (E : Env) (r : Rs) (w : World) (sz n len : Nat) (A : Option Addr) (c : Nat) : Option Mo → Prop
  | some m => MoOK E r w sz n len A c m
  | none => True
theorem slOf_sound {E : Env} {r : Rs} {w : World} {sz : Nat} {a : AV} {x : Value} {m : Option Mo} {n : Nat} {xs : List D} (h : RA E r w a x) (e : slOf sz a = some (m, n, xs)) :
    xs.length = n * sz ∧ ∃ A c, x = .slice A n c ∧ n ≤ c ∧ (xs = [] ∨ ∃ ad, A = some ad ∧ RM E.T w xs ad) ∧ MoO E r w sz n xs.length A c m := by
  unfold slOf at e
  split at e
  · split at e
    · rename_i hs; subst hs
      simp only [Option.some.injEq, Prod.mk.injEq] at e
      obtain ⟨rfl, rfl, rfl⟩ := e
      simp only [RA, RD] at h
      obtain ⟨hl, A, c, rfl, hc, hr⟩ := h
      exact ⟨hl, A, c, rfl, hc, hr, trivial⟩
    · cases e
  · simp only [Option.some.injEq, Prod.mk.injEq] at e
    obtain ⟨rfl, rfl, rfl⟩ := e
    simp only [RA, RD] at h
    exact ⟨by simp, none, 0, h.1, Nat.le_refl _, .inl rfl, rfl⟩
  · rename_i ad c
    simp only [Option.some.injEq, Prod.mk.injEq] at e
    obtain ⟨rfl, rfl, rfl⟩ := e
    simp only [RA, RD] at h
    exact ⟨by simp, some ad, c, h.1, Nat.zero_le _, .inl rfl, trivial⟩
  · split at e
    · rename_i hs; subst hs
      simp only [Option.some.injEq, Prod.mk.injEq] at e
      obtain ⟨rfl, rfl, rfl⟩ := e
      simp only [RA] at h
      obtain ⟨hl, A, c, rfl, hc, hr, hm⟩ := h
      exact ⟨hl, A, c, rfl, hc, hr, hm⟩
    · cases e
  · cases e
end Go.Proofs.Ythdjblfiiogmgaa
/- The frame of these proofs, part F: each operation that only computes: what it comes to, and that it does. -/
set_option linter.unusedVariables false
set_option linter.unusedSimpArgs false
namespace Go.Proofs.Ythdjblfiiogmgaa
open Go

theorem ti_u {P : Program} {ti : Ti} (hti : TiOK P ti) {t : TypeId} {i : TI} (h : ti t = some i) : P.underlying t = some i.u := (hti t i h).1
theorem ti_run {P : Program} {ti : Ti} (hti : TiOK P ti) {t : TypeId} {i : TI} (h : ti t = some i) (w : World) : (underlying t).run P w = .ok i.u w := run_underlying (ti_u hti h) w
theorem ti_size {P : Program} {ti : Ti} (hti : TiOK P ti) {t : TypeId} {i : TI} (h : ti t = some i) (w : World) : (sizeOf t).run P w = .ok i.size w := by
  obtain ⟨_, f, hf, hs, _⟩ := hti t i h
  simp [sizeOf, typeInfo, hf, hs]
theorem ti_zero {P : Program} {ti : Ti} (hti : TiOK P ti) {t : TypeId} {i : TI} (h : ti t = some i) (w : World) : (zeroValue t).run P w = .ok i.zero w := by
  obtain ⟨_, f, hf, _, _, hz, _⟩ := hti t i h
  simp [zeroValue, typeInfo, hf, hz]
theorem ti_agg {P : Program} {ti : Ti} (hti : TiOK P ti) {t : TypeId} {i : TI} (h : ti t = some i) (w : World) : (isAgg t).run P w = .ok (isAggD i.u) w := by
  simp only [isAgg, Sem.run_bind, ti_run hti h, Result.andThen_ok]
  cases i.u <;> simp [isAggD]

/-- The size of a slice type's elements. -/
def szOf (ti : Ti) (t : TypeId) : Option Nat := match ti t with
  | some ⟨.slice e, _, _, _⟩ => (ti e).map (·.size)
  | _ => none
theorem szOf_sound {ti : Ti} {t : TypeId} {sz : Nat} (h : szOf ti t = some sz) : ∃ e s b z i, ti t = some ⟨.slice e, s, b, z⟩ ∧ ti e = some i ∧ i.size = sz := by
  unfold szOf at h
  split at h
  · rename_i e s b z he
    simp only [Option.map_eq_some_iff] at h
    obtain ⟨i, hi, rfl⟩ := h
    exact ⟨e, s, b, z, i, he, hi, rfl⟩
  · cases h

/-! ### Conversions -/
def toBytes : List D → Option (List UInt8)
  | [] => some []
  | .c (.int .u8 n) :: l => (toBytes l).map (UInt8.ofNat n.toNat :: ·)
  | _ => none
def bD (l : List UInt8) : List D := l.map fun b => .c (.int .u8 b.toNat)
theorem toBytes_bD (l : List UInt8) : toBytes (bD l) = some l := by
  induction l with
  | nil => rfl
  | cons b l ih => simp only [bD] at ih; simp [bD, toBytes, ih]
def evConv (ti : Ti) (src dst : TypeId) (x : AV) : Option AV :=
  match ti src, ti dst with
  | some s, some t => match t.u, x with
    | .int k, .d (.c (.int _ n)) => some (.d (.c (.int k (k.wrap n))))
    | .string, .d (.c (.string s)) => some (.d (.c (.string s)))
    | .string, x => match s.u with
      | .slice e => match ti e, slOf 1 x with
        | some ⟨.int .u8, _, _, _⟩, some (_, n, xs) => (toBytes xs).map fun l => .d (.c (.string ⟨l.toArray⟩))
        | _, _ => none
      | _ => none
    | _, _ => none
  | _, _ => none

theorem toBytes_cells {T : Nat → Nat} {w : World} : ∀ (xs : List D) (l : List UInt8) (vs : List Value), toBytes xs = some l → RL T w xs vs → ∃ ns : List Int, vs = ns.map (Value.int .u8) ∧ l = ns.map fun n => UInt8.ofNat n.toNat
  | [], l, vs, h, hr => by
    simp only [toBytes] at h; injection h with h; subst h
    simp only [RL] at hr
    exact ⟨[], by simp [hr], rfl⟩
  | x :: xs, l, vs, h, hr => by
    simp only [RL] at hr
    obtain ⟨v, rest, rfl, _, hd, hr⟩ := hr
    unfold toBytes at h
    split at h
    · rename_i heq; cases heq
    · rename_i n ys heq
      injection heq with h1 h2
      subst h1; subst h2
      simp only [Option.map_eq_some_iff] at h
      obtain ⟨l', hl', rfl⟩ := h
      obtain ⟨ns, hns, hl2⟩ := toBytes_cells _ l' rest hl' hr
      simp only [RD] at hd
      exact ⟨n :: ns, by simp [hd.1, hns], by simp [hl2]⟩
    · cases h
theorem foldl_push : ∀ (ns : List Int) (s : ByteArray), ns.foldl (fun r n => r.push (UInt8.ofNat n.toNat)) s = ⟨s.data ++ (ns.map fun n => UInt8.ofNat n.toNat).toArray⟩
  | [], s => by cases s; simp
  | n :: ns, s => by
    rw [List.foldl_cons, foldl_push ns]
    cases s
    simp [ByteArray.push]
theorem bytesToString_run {P : Program} {T : Nat → Nat} {w : World} {xs : List D} {l : List UInt8} {A : Option Addr} {n c : Nat} (hl : xs.length = n) (h : toBytes xs = some l) (hr : xs = [] ∨ ∃ ad, A = some ad ∧ RM T w xs ad) :
    (Conv.bytesToString (.slice A n c)).run P w = .ok (.string ⟨l.toArray⟩) w := by
  cases A with
  | none =>
    have hx : xs = [] := by
      rcases hr with h0 | ⟨ad, h0, _⟩
      · exact h0
      · cases h0
    subst hx
    simp only [toBytes] at h; injection h with h; subst h
    rfl
  | some ad =>
    have hm : RM T w xs ad := by
      rcases hr with h0 | ⟨ad', h0, hm⟩
      · subst h0; simp [RM]
      · injection h0 with h0; subst h0; exact hm
    obtain ⟨us, hus, hcell⟩ := RM_values xs ad hm
    have hlen := RL_length xs us hus
    obtain ⟨ns, rfl, rfl⟩ := toBytes_cells xs l us h hus
    have hload := run_loadCells_list (P := P) w ad (ns.map (Value.int .u8)) hcell
    rw [hlen, hl] at hload
    rw [run_bytesToString w ad n c ns hload, foldl_push]
    congr 3
    show #[] ++ _ = _
    simp
theorem evConv_sound {P : Program} {ti : Ti} (hti : TiOK P ti) {E : Env} {r : Rs} {w : World} {src dst : TypeId} {x v : AV} {y : Value} (hx : RA E r w x y) (h : evConv ti src dst x = some v) :
    ∃ z, (convert src dst y).run P w = .ok z w ∧ RA E r w v z := by
  unfold evConv at h
  split at h
  · rename_i s t hs ht
    have hus := ti_u hti hs
    have hut := ti_u hti ht
    split at h
    · rename_i k _ n hu
      injection h with h; subst h
      simp only [RA, RD] at hx
      obtain ⟨rfl, _⟩ := hx
      rw [hu] at hut
      exact ⟨.int k (k.wrap n), by simp [convert, run_underlying hus, run_underlying hut, Conv.intToInt], by simp [RA, RD, Value.oneCell']⟩
    · rename_i _ b hu
      injection h with h; subst h
      simp only [RA, RD] at hx
      obtain ⟨rfl, _⟩ := hx
      rw [hu] at hut
      exact ⟨.string b, by simp [convert, run_underlying hus, run_underlying hut], by simp [RA, RD, Value.oneCell']⟩
    · rename_i hu _
      split at h
      · rename_i e hse
        split at h
        · rename_i _ _ _ _ m n xs he hsl
          simp only [Option.map_eq_some_iff] at h
          obtain ⟨l, hl, rfl⟩ := h
          obtain ⟨hlen, A, c, rfl, hc, hr, _⟩ := slOf_sound hx hsl
          rw [hu] at hut
          rw [hse] at hus
          have hue := ti_u hti he
          refine ⟨.string ⟨l.toArray⟩, ?_, by simp [RA, RD, Value.oneCell']⟩
          rw [run_convert_bytes_string w src dst e A n c hus hue hut]
          exact bytesToString_run (by simpa using hlen) hl hr
        · cases h
      · cases h
    · cases h
  · cases h

/-! ### Slicing -/
def intOfA : AV → Option Int
  | .d (.c (.int _ n)) => some n
  | _ => none
def optI : Option AV → Option (Option Int)
  | none => some none
  | some a => (intOfA a).map some
/-- 's[lo:hi:mx]' of a slice of 'n' elements, of which it is known whether it is full. -/
def cutSl (sz : Nat) (m : Option Mo) (n : Nat) (xs : List D) (lo hi mx : Option Int) : Option AV :=
  let l := lo.getD 0
  let h := hi.getD n
  let ys := (xs.drop (l.toNat * sz)).take ((h.toNat - l.toNat) * sz)
  match mx with
  | some k => match hi with
    | some h => chk (0 ≤ l ∧ l ≤ h ∧ h ≤ n ∧ k = h) (some (.sl .full sz (h.toNat - l.toNat) ys))
    | none => none
  | none => match hi, m with
    | none, some .full => chk (0 ≤ l ∧ l ≤ n) (some (.sl .full sz (n - l.toNat) (xs.drop (l.toNat * sz))))
    | none, _ => chk (0 ≤ l ∧ l ≤ n) (some (.d (.sl sz (n - l.toNat) (xs.drop (l.toNat * sz)))))
    | some h, some (.own _) => chk (0 ≤ l ∧ l ≤ h ∧ h ≤ n) (some (.sl (.sp (xs.drop (h.toNat * sz))) sz (h.toNat - l.toNat) ys))
    | some h, some (.sp zs) => chk (0 ≤ l ∧ l ≤ h ∧ (h.toNat - n) * sz ≤ zs.length ∧ 0 < sz) (some (.d (.sl sz (h.toNat - l.toNat) (((xs ++ zs).drop (l.toNat * sz)).take ((h.toNat - l.toNat) * sz)))))
    | some h, _ => chk (0 ≤ l ∧ l ≤ h ∧ h ≤ n) (some (.d (.sl sz (h.toNat - l.toNat) ys)))
theorem RM_cut {T : Nat → Nat} {w : World} {xs : List D} {A : Option Addr} {sz n l h : Nat} (hlen : xs.length = n * sz) (hr : xs = [] ∨ ∃ ad, A = some ad ∧ RM T w xs ad) (h1 : l ≤ h) (h2 : h ≤ n) (m : Nat) (hm : h ≤ m) :
    ((xs.drop (l * sz)).take ((h - l) * sz)).length = (h - l) * sz ∧
      ((xs.drop (l * sz)).take ((h - l) * sz) = [] ∨ ∃ ad, (if m = l then A else A.map (·.add (l * sz))) = some ad ∧ RM T w ((xs.drop (l * sz)).take ((h - l) * sz)) ad) := by
  have hle : (h - l) * sz ≤ xs.length - l * sz := by
    rw [hlen, ← Nat.sub_mul]
    exact Nat.mul_le_mul_right _ (by omega)
  refine ⟨by rw [List.length_take, List.length_drop]; omega, ?_⟩
  by_cases hm' : m = l
  · left
    have : h - l = 0 := by omega
    simp [this]
  · rcases hr with h0 | ⟨ad, rfl, hrm⟩
    · left; simp [h0]
    · right
      rw [if_neg hm']
      exact ⟨ad.add (l * sz), rfl, RM_take _ _ (RM_drop xs ad hrm _) _⟩
theorem drop_take_all {xs : List D} {sz n l : Nat} (hlen : xs.length = n * sz) : (xs.drop (l * sz)).take ((n - l) * sz) = xs.drop (l * sz) := by
  apply List.take_of_length_le
  rw [List.length_drop, hlen, Nat.sub_mul]
  exact Nat.le_refl _
theorem bound_run {P : Program} {w : World} {k : IntKind} {i : Int} {y : Nat} (c : BoundsCode) (h0 : 0 ≤ i) (h1 : i ≤ y) : (Instr.sliceBound (.int k i) y c).run P w = .ok i.toNat w := by
  simp [Instr.sliceBound, asIntOf, h0, h1]
/-- An integer that stands in a slot, or none. -/
def IsI (o : Option Value) (i : Option Int) : Prop := match i with
  | none => o = none
  | some n => ∃ k, o = some (.int k n)
theorem bounds_run {P : Program} {w : World} {isS : Bool} {len cap : Nat} {lo hi mx : Option Value} {l h k : Option Int} (hlo : IsI lo l) (hhi : IsI hi h) (hmx : IsI mx k)
    (hc : len ≤ cap) (h0 : 0 ≤ l.getD 0) (h1 : l.getD 0 ≤ h.getD len) (h2 : h.getD len ≤ cap) (h3 : ∀ m, k = some m → h.getD len ≤ m ∧ m ≤ cap ∧ h.isSome = true) :
    (Instr.sliceBounds isS len cap lo hi mx).run P w = .ok ((l.getD 0).toNat, (h.getD len).toNat, (k.getD cap).toNat) w := by
  unfold Instr.sliceBounds
  cases k with
  | none =>
    simp only [IsI] at hmx; subst hmx
    cases h with
    | none =>
      simp only [IsI] at hhi; subst hhi
      cases l with
      | none => simp only [IsI] at hlo; subst hlo; simp
      | some n =>
        simp only [IsI] at hlo; obtain ⟨kk, rfl⟩ := hlo
        simp only [Option.getD_some, Option.getD_none] at h0 h1
        simp [bound_run _ h0 h1]
    | some m =>
      simp only [IsI] at hhi; obtain ⟨kk', rfl⟩ := hhi
      simp only [Option.getD_some] at h1 h2
      cases l with
      | none =>
        simp only [IsI] at hlo; subst hlo
        simp only [Option.getD_none] at h1
        simp [bound_run _ h1 h2]
      | some n =>
        simp only [IsI] at hlo; obtain ⟨kk, rfl⟩ := hlo
        simp only [Option.getD_some] at h0 h1
        have hm : 0 ≤ m := by omega
        have hnm : n ≤ (m.toNat : Int) := by omega
        simp [bound_run _ hm h2, bound_run _ h0 hnm]
  | some q =>
    obtain ⟨h3a, h3b, h3c⟩ := h3 q rfl
    simp only [IsI] at hmx; obtain ⟨kk, rfl⟩ := hmx
    cases h with
    | none => simp at h3c
    | some m =>
      simp only [IsI] at hhi; obtain ⟨kk', rfl⟩ := hhi
      simp only [Option.getD_some] at h1 h2 h3a
      have hq : 0 ≤ q := by
        cases l with
        | none => simp only [Option.getD_none] at h1; omega
        | some n => simp only [Option.getD_some] at h0 h1; omega
      have hmq : m ≤ (q.toNat : Int) := by omega
      cases l with
      | none =>
        simp only [IsI] at hlo; subst hlo
        simp only [Option.getD_none] at h1
        simp [bound_run _ hq h3b, bound_run _ h1 hmq]
      | some n =>
        simp only [IsI] at hlo; obtain ⟨kk, rfl⟩ := hlo
        simp only [Option.getD_some] at h0 h1
        have hm : 0 ≤ m := by omega
        have hnm : n ≤ (m.toNat : Int) := by omega
        simp [bound_run _ hq h3b, bound_run _ hm hmq, bound_run _ h0 hnm]
end Go.Proofs.Ythdjblfiiogmgaa
/- The frame of these proofs, part G: slicing, indexing, fields, loads; all operations that only compute in one word. -/
set_option linter.unusedVariables false
set_option linter.unusedSimpArgs false
namespace Go.Proofs.Ythdjblfiiogmgaa
open Go

theorem intOfA_sound {E : Env} {r : Rs} {w : World} {a : AV} {x : Value} {n : Int} (h : RA E r w a x) (e : intOfA a = some n) : ∃ k, x = .int k n := by
  unfold intOfA at e
  split at e
  · rename_i k _
    injection e with e; subst e
    simp only [RA, RD] at h
    exact ⟨k, h.1⟩
  · cases e
theorem optI_sound {G : GR} {N : Nat} {E : Env} {σ : St} {a : Act} {w : World} (h : Rel G N E σ a w) {o : Option Operand} {i : Option Int} (e : optI (o.map (σ.ev G)) = some i) : IsI (o.map a.eval) i := by
  cases o with
  | none => simp only [Option.map_none, optI] at e; injection e with e; subst e; rfl
  | some o =>
    simp only [Option.map_some, optI, Option.map_eq_some_iff] at e
    obtain ⟨n, hn, rfl⟩ := e
    obtain ⟨k, hk⟩ := intOfA_sound (ev_sound h o) hn
    exact ⟨k, by simp [hk]⟩

theorem cutSl_sound {P : Program} {ti : Ti} (hti : TiOK P ti) {E : Env} {r : Rs} {w : World} {t : TypeId} {sz : Nat} {x v : AV} {y : Value} {m : Option Mo} {n : Nat} {xs : List D} {lo hi mx : Option Value} {l h k : Option Int}
    (hz : szOf ti t = some sz) (hx : RA E r w x y) (hs : slOf sz x = some (m, n, xs)) (hlo : IsI lo l) (hhi : IsI hi h) (hmx : IsI mx k) (e : cutSl sz m n xs l h k = some v) :
    ∃ z, (∀ w', (Instr.sliceAt t y lo hi mx).run P w' = .ok z w') ∧ RA E r w v z := by
  obtain ⟨el, s, b, zv, ie, hte, hee, rfl⟩ := szOf_sound hz
  have hut := fun w' => ti_run (P := P) hti hte w'
  obtain ⟨hlen, A, c, rfl, hnc, hr, hm⟩ := slOf_sound hx hs
  have hsz := fun w' => ti_size (P := P) hti hee w'
  have run : ∀ (L H M : Nat), (∀ w', (Instr.sliceBounds true n c lo hi mx).run P w' = .ok (L, H, M) w') → ∀ w', (Instr.sliceAt t (.slice A n c) lo hi mx).run P w' = .ok (.slice (if M = L then A else A.map (·.add (L * ie.size))) (H - L) (M - L)) w' := by
    intro L H M hb w'
    simp [Instr.sliceAt, hut, Instr.slice, hb, hsz]
  unfold cutSl at e
  cases k with
  | some k =>
    cases h with
    | none => cases e
    | some h =>
      obtain ⟨⟨h0, h1, h2, h3⟩, e⟩ := chk_some e
      injection e with e; subst e; subst h3
      have hb := fun w' => bounds_run (P := P) (w := w') (isS := true) (len := n) (cap := c) hlo hhi hmx hnc h0 (by simpa using h1) (by simp; omega) (by intro m hm; injection hm with hm; subst hm; simp; omega)
      have hcut := RM_cut hlen hr (l := (l.getD 0).toNat) (h := k.toNat) (by omega) (by omega) k.toNat (Nat.le_refl _)
      refine ⟨_, run _ _ _ hb, ?_⟩
      simp only [RA, Option.getD_some]
      exact ⟨hcut.1, _, _, rfl, Nat.le_refl _, hcut.2, rfl⟩
  | none =>
    cases h with
    | none =>
      have key : 0 ≤ l.getD 0 ∧ l.getD 0 ≤ n → (∀ w', (Instr.sliceBounds true n c lo hi mx).run P w' = .ok ((l.getD 0).toNat, n, c) w') ∧ (xs.drop ((l.getD 0).toNat * ie.size)).length = (n - (l.getD 0).toNat) * ie.size ∧
          (xs.drop ((l.getD 0).toNat * ie.size) = [] ∨ ∃ ad, (if c = (l.getD 0).toNat then A else A.map (·.add ((l.getD 0).toNat * ie.size))) = some ad ∧ RM E.T w (xs.drop ((l.getD 0).toNat * ie.size)) ad) := by
        rintro ⟨h0, h1⟩
        have hb := fun w' => bounds_run (P := P) (w := w') (isS := true) (len := n) (cap := c) hlo hhi hmx hnc h0 (by simpa using h1) (by simp; omega) (by intro m hm; cases hm)
        have hcut := RM_cut hlen hr (l := (l.getD 0).toNat) (h := n) (by omega) (Nat.le_refl _) c hnc
        rw [drop_take_all hlen] at hcut
        exact ⟨fun w' => by simpa using hb w', hcut⟩
      by_cases hf : m = some .full
      · subst hf
        obtain ⟨hc, e⟩ := chk_some (by simpa using e)
        injection e with e; subst e
        obtain ⟨k1, k2, k3⟩ := key hc
        refine ⟨_, run _ _ _ k1, ?_⟩
        simp only [RA]
        have hcn : c = n := hm
        exact ⟨k2, _, _, rfl, by omega, k3, by show c - _ = n - _; omega⟩
      · have e' : chk (0 ≤ l.getD 0 ∧ l.getD 0 ≤ n) (some (AV.d (.sl ie.size (n - (l.getD 0).toNat) (xs.drop ((l.getD 0).toNat * ie.size))))) = some v := by
          rw [← e]
          cases m with
          | none => rfl
          | some m => cases m with
            | full => exact absurd rfl hf
            | own i => rfl
            | sp ys => rfl
        obtain ⟨hc, e⟩ := chk_some e'
        injection e with e; subst e
        obtain ⟨k1, k2, k3⟩ := key hc
        refine ⟨_, run _ _ _ k1, ?_⟩
        simp only [RA, RD]
        exact ⟨k2, _, _, rfl, by omega, k3⟩
    | some h =>
      have plain : chk (0 ≤ l.getD 0 ∧ l.getD 0 ≤ h ∧ h ≤ n) (some (AV.d (.sl ie.size (h.toNat - (l.getD 0).toNat) ((xs.drop ((l.getD 0).toNat * ie.size)).take ((h.toNat - (l.getD 0).toNat) * ie.size))))) = some v → ∃ z, (∀ w', (Instr.sliceAt t (.slice A n c) lo hi mx).run P w' = .ok z w') ∧ RA E r w v z := by
        intro e
        obtain ⟨⟨h0, h1, h2⟩, e⟩ := chk_some e
        injection e with e; subst e
        have hb := fun w' => bounds_run (P := P) (w := w') (isS := true) (len := n) (cap := c) hlo hhi hmx hnc h0 (by simpa using h1) (by simp; omega) (by intro m hm; cases hm)
        have hcut := RM_cut hlen hr (l := (l.getD 0).toNat) (h := h.toNat) (by omega) (by omega) c (by omega)
        refine ⟨_, run _ _ _ hb, ?_⟩
        simp only [RA, RD, Option.getD_some, Option.getD_none, Int.toNat_natCast]
        exact ⟨hcut.1, _, _, rfl, by omega, hcut.2⟩
      cases m with
      | none => exact plain e
      | some m => cases m with
        | full => exact plain e
        | own i =>
          obtain ⟨⟨h0, h1, h2⟩, e⟩ := chk_some e
          injection e with e; subst e
          have hb := fun w' => bounds_run (P := P) (w := w') (isS := true) (len := n) (cap := c) hlo hhi hmx hnc h0 (by simpa using h1) (by simp; omega) (by intro m hm; cases hm)
          have hcut := RM_cut hlen hr (l := (l.getD 0).toNat) (h := h.toNat) (by omega) (by omega) c (by omega)
          refine ⟨_, run _ _ _ hb, ?_⟩
          simp only [RA, Option.getD_some, Option.getD_none, Int.toNat_natCast]
          refine ⟨hcut.1, _, _, rfl, by omega, hcut.2, n - h.toNat, ?_, by omega, ?_⟩
          · rw [List.length_drop, hlen, ← Nat.sub_mul]
          · rcases hr with h3 | ⟨ad, rfl, hrm⟩
            · left; simp [h3]
            · by_cases hcl : c = (l.getD 0).toNat
              · left
                apply List.drop_eq_nil_of_le
                rw [hlen]
                exact Nat.mul_le_mul_right _ (by omega)
              · right
                rw [if_neg hcl]
                refine ⟨ad.add ((l.getD 0).toNat * ie.size), rfl, ?_⟩
                rw [hcut.1, addr_add_add, ← Nat.add_mul, show (l.getD 0).toNat + (h.toNat - (l.getD 0).toNat) = h.toNat by omega]
                exact RM_drop xs ad hrm _
        | sp zs =>
          obtain ⟨⟨h0, h1, h2, hpos⟩, e⟩ := chk_some e
          injection e with e; subst e
          obtain ⟨q, hq, hqc, hz3⟩ := hm
          have hle : h.toNat ≤ n + q := by
            have : (h.toNat - n) * ie.size ≤ q * ie.size := by rw [← hq]; exact h2
            have := Nat.le_of_mul_le_mul_right this hpos
            omega
          have hb := fun w' => bounds_run (P := P) (w := w') (isS := true) (len := n) (cap := c) hlo hhi hmx hnc h0 (by simpa using h1) (by simp; omega) (by intro m hm; cases hm)
          have hlen2 : (xs ++ zs).length = (n + q) * ie.size := by rw [List.length_append, hlen, hq, Nat.add_mul]
          have hr2 : xs ++ zs = [] ∨ ∃ ad, A = some ad ∧ RM E.T w (xs ++ zs) ad := by
            rcases hr with h3 | ⟨ad, rfl, hrm⟩
            · subst h3
              rcases hz3 with h4 | ⟨ad, rfl, h4⟩
              · left; simp [h4]
              · right
                refine ⟨ad, rfl, ?_⟩
                rw [List.length_nil, addr_add_zero] at h4
                simpa using h4
            · right
              refine ⟨ad, rfl, RM_append xs zs ad hrm ?_⟩
              rcases hz3 with h4 | ⟨ad', h5, h4⟩
              · subst h4; simp [RM]
              · injection h5 with h5; subst h5; exact h4
          have hcut := RM_cut hlen2 hr2 (l := (l.getD 0).toNat) (h := h.toNat) (by omega) hle c (by omega)
          refine ⟨_, run _ _ _ hb, ?_⟩
          simp only [RA, RD, Option.getD_some, Option.getD_none, Int.toNat_natCast]
          exact ⟨hcut.1, _, _, rfl, by omega, hcut.2⟩
end Go.Proofs.Ythdjblfiiogmgaa
/- The frame of these proofs, part H: indexing, fields, loads, builds; all operations that only compute in one word. -/
set_option linter.unusedVariables false
set_option linter.unusedSimpArgs false
namespace Go.Proofs.Ythdjblfiiogmgaa
open Go

def objOf (r : Rs) (i : Nat) : Option (List AV) := match r[i]? with
  | some (some (.obj l)) => some l
  | _ => none
theorem objOf_some {r : Rs} {i : Nat} {l : List AV} (h : objOf r i = some l) : r[i]? = some (some (.obj l)) := by
  unfold objOf at h
  split at h
  · injection h with h; subst h; assumption
  · cases h
/-- The byte of a text at a place. -/
def sB (s : ByteArray) (k : Nat) : Int := ((s.toList.getD k 0).toNat : Int)

/-! ### Slicing of texts, of arrays, of slices of arrays -/
def evSlice (ti : Ti) (r : Rs) (t : TypeId) (x : AV) (lo hi mx : Option Int) : Option AV :=
  match x with
  | .d (.c (.string s)) => match ti t, mx with
    | some ⟨.string, _, _, _⟩, none => chk (0 ≤ lo.getD 0 ∧ lo.getD 0 ≤ hi.getD s.size ∧ hi.getD s.size ≤ s.size) (some (.d (.c (.string (s.extract (lo.getD 0).toNat (hi.getD s.size).toNat)))))
    | _, _ => none
  | .osl i off sz n => match mx with
    | none => chk (szOf ti t = some sz ∧ 0 ≤ lo.getD 0 ∧ lo.getD 0 ≤ hi.getD n ∧ hi.getD n ≤ n) (some (.osl i (off + (lo.getD 0).toNat * sz) sz ((hi.getD n).toNat - (lo.getD 0).toNat)))
    | _ => none
  | .csl i off sz n c => match mx with
    | none => chk (szOf ti t = some sz ∧ 0 ≤ lo.getD 0 ∧ lo.getD 0 ≤ hi.getD n ∧ hi.getD n ≤ c) (some (.csl i (off + (lo.getD 0).toNat * sz) sz ((hi.getD n).toNat - (lo.getD 0).toNat) (c - (lo.getD 0).toNat)))
    | some m => chk (szOf ti t = some sz ∧ 0 ≤ lo.getD 0 ∧ lo.getD 0 ≤ hi.getD n ∧ hi.getD n ≤ m ∧ m ≤ c ∧ hi.isSome = true) (some (.csl i (off + (lo.getD 0).toNat * sz) sz ((hi.getD n).toNat - (lo.getD 0).toNat) (m.toNat - (lo.getD 0).toNat)))
  | .ptr i off => match ti t, mx, objOf r i with
    | some ⟨.array n e, _, _, _⟩, none, some l => match ti e with
      | some ie => chk (off + n * ie.size ≤ l.length ∧ 0 ≤ lo.getD 0 ∧ lo.getD 0 ≤ hi.getD n ∧ hi.getD n ≤ n) (some (.osl i (off + (lo.getD 0).toNat * ie.size) ie.size ((hi.getD n).toNat - (lo.getD 0).toNat)))
      | none => none
    | _, _, _ => none
  | .el xs => match ti t, mx with
    | some ⟨.array n e, _, _, _⟩, none => match ti e with
      | some ie => chk (n * ie.size ≤ xs.length ∧ 0 ≤ lo.getD 0 ∧ lo.getD 0 ≤ hi.getD n ∧ hi.getD n ≤ n) (some (.d (.sl ie.size ((hi.getD n).toNat - (lo.getD 0).toNat) ((xs.drop ((lo.getD 0).toNat * ie.size)).take (((hi.getD n).toNat - (lo.getD 0).toNat) * ie.size)))))
      | none => none
    | _, _ => none
  | x => match szOf ti t with
    | some sz => match slOf sz x with
      | some (m, n, xs) => cutSl sz m n xs lo hi mx
      | none => none
    | none => none

theorem evSlice_sound {P : Program} {ti : Ti} (hti : TiOK P ti) {G : GR} {E : Env} {r : Rs} {w : World} (hG : Good G E r w) {t : TypeId} {x v : AV} {y : Value} {lo hi mx : Option Value} {l h k : Option Int}
    (hx : RA E r w x y) (hlo : IsI lo l) (hhi : IsI hi h) (hmx : IsI mx k) (e : evSlice ti r t x l h k = some v) :
    ∃ z, (∀ w', (Instr.sliceAt t y lo hi mx).run P w' = .ok z w') ∧ RA E r w v z := by
  unfold evSlice at e
  split at e
  · rename_i s
    simp only [RA, RD] at hx
    obtain ⟨rfl, _⟩ := hx
    split at e
    · rename_i hie
      obtain ⟨⟨h0, h1, h2⟩, e⟩ := chk_some e
      injection e with e; subst e
      have hb := fun w' => bounds_run (P := P) (w := w') (isS := false) (len := s.size) (cap := s.size) hlo hhi (show IsI none none from rfl) (Nat.le_refl _) h0 h1 h2 (by intro m hm; cases hm)
      have hut := fun w' => ti_run (P := P) hti hie w'
      have hmxn : mx = none := hmx
      subst hmxn
      exact ⟨.string (s.extract (l.getD 0).toNat (h.getD s.size).toNat), fun w' => by simp [Instr.sliceAt, hut, Instr.slice, hb], by simp [RA, RD, Value.oneCell']⟩
    · cases e
  · rename_i i off sz n
    split at e
    · obtain ⟨⟨hz, h0, h1, h2⟩, e⟩ := chk_some e
      injection e with e; subst e
      obtain ⟨el, s, b, zv, ie, hte, hee, rfl⟩ := szOf_sound hz
      have hmxn : mx = none := hmx
      subst hmxn
      simp only [RA] at hx
      obtain ⟨hi', A, c, rfl, hnc, hl⟩ := hx
      have hb := fun w' => bounds_run (P := P) (w := w') (isS := true) (len := n) (cap := c) hlo hhi (show IsI none none from rfl) hnc h0 h1 (by omega) (by intro m hm; cases hm)
      have hut := fun w' => ti_run (P := P) hti hte w'
      have hsz := fun w' => ti_size (P := P) hti hee w'
      refine ⟨.slice (if c = (l.getD 0).toNat then A else A.map (·.add ((l.getD 0).toNat * ie.size))) ((h.getD n).toNat - (l.getD 0).toNat) (c - (l.getD 0).toNat), fun w' => by simp [Instr.sliceAt, hut, Instr.slice, hb, hsz], ?_⟩
      simp only [RA]
      refine ⟨hi', _, _, rfl, by omega, fun lst hlst => ?_⟩
      obtain ⟨k1, k2⟩ := hl lst hlst
      have hmul : (l.getD 0).toNat * ie.size + ((h.getD n).toNat - (l.getD 0).toNat) * ie.size ≤ n * ie.size := by
        rw [← Nat.add_mul]; exact Nat.mul_le_mul_right _ (by omega)
      refine ⟨by omega, fun hp => ?_⟩
      obtain ⟨b, hb, rfl⟩ := k2 (by omega)
      refine ⟨b, hb, ?_⟩
      rw [if_neg (by omega)]
      simp [addr_plain]
    · cases e
  · rename_i i off sz n c
    split at e
    · obtain ⟨⟨hz, h0, h1, h2⟩, e⟩ := chk_some e
      injection e with e; subst e
      obtain ⟨el, s, b, zv, ie, hte, hee, rfl⟩ := szOf_sound hz
      have hmxn : mx = none := hmx
      subst hmxn
      simp only [RA] at hx
      obtain ⟨hi', A, rfl, hnc, hl⟩ := hx
      have hb := fun w' => bounds_run (P := P) (w := w') (isS := true) (len := n) (cap := c) hlo hhi (show IsI none none from rfl) hnc h0 h1 (by omega) (by intro m hm; cases hm)
      have hut := fun w' => ti_run (P := P) hti hte w'
      have hsz := fun w' => ti_size (P := P) hti hee w'
      refine ⟨.slice (if c = (l.getD 0).toNat then A else A.map (·.add ((l.getD 0).toNat * ie.size))) ((h.getD n).toNat - (l.getD 0).toNat) (c - (l.getD 0).toNat), fun w' => by simp [Instr.sliceAt, hut, Instr.slice, hb, hsz], ?_⟩
      simp only [RA]
      refine ⟨hi', _, rfl, by omega, fun lst hlst => ?_⟩
      obtain ⟨k1, k2⟩ := hl lst hlst
      have hmul : (l.getD 0).toNat * ie.size + (c - (l.getD 0).toNat) * ie.size = c * ie.size := by
        rw [← Nat.add_mul]; congr 1; omega
      refine ⟨by omega, fun hp => ?_⟩
      obtain ⟨b, hb, rfl⟩ := k2 (by omega)
      refine ⟨b, hb, ?_⟩
      rw [if_neg (by omega)]
      simp [addr_plain]
    · rename_i m
      obtain ⟨⟨hz, h0, h1, h2, h3, h4⟩, e⟩ := chk_some e
      injection e with e; subst e
      obtain ⟨el, s, b, zv, ie, hte, hee, rfl⟩ := szOf_sound hz
      simp only [RA] at hx
      obtain ⟨hi', A, rfl, hnc, hl⟩ := hx
      have hb := fun w' => bounds_run (P := P) (w := w') (isS := true) (len := n) (cap := c) hlo hhi hmx hnc h0 h1 (by omega) (by intro q hq; injection hq with hq; subst hq; exact ⟨h2, h3, h4⟩)
      have hut := fun w' => ti_run (P := P) hti hte w'
      have hsz := fun w' => ti_size (P := P) hti hee w'
      refine ⟨.slice (if m.toNat = (l.getD 0).toNat then A else A.map (·.add ((l.getD 0).toNat * ie.size))) ((h.getD n).toNat - (l.getD 0).toNat) (m.toNat - (l.getD 0).toNat), fun w' => by simp [Instr.sliceAt, hut, Instr.slice, hb, hsz], ?_⟩
      simp only [RA]
      refine ⟨hi', _, rfl, by omega, fun lst hlst => ?_⟩
      obtain ⟨k1, k2⟩ := hl lst hlst
      have hmul : (l.getD 0).toNat * ie.size + (m.toNat - (l.getD 0).toNat) * ie.size = m.toNat * ie.size := by
        rw [← Nat.add_mul]; congr 1; omega
      have hmul2 : m.toNat * ie.size ≤ c * ie.size := Nat.mul_le_mul_right _ (by omega)
      refine ⟨by omega, fun hp => ?_⟩
      obtain ⟨b, hb, rfl⟩ := k2 (by omega)
      refine ⟨b, hb, ?_⟩
      rw [if_neg (by omega)]
      simp [addr_plain]
  · rename_i i off
    split at e
    · rename_i n el _ _ _ lst hte hobj
      split at e
      · rename_i ie hee
        obtain ⟨⟨hle, h0, h1, h2⟩, e⟩ := chk_some e
        injection e with e; subst e
        have hmxn : mx = none := hmx
        subst hmxn
        simp only [RA] at hx
        obtain ⟨b, hb1, rfl⟩ := hx.2 lst (objOf_some hobj)
        have hb := fun w' => bounds_run (P := P) (w := w') (isS := false) (len := n) (cap := n) hlo hhi (show IsI none none from rfl) (Nat.le_refl _) h0 h1 h2 (by intro m hm; cases hm)
        have hut := fun w' => ti_run (P := P) hti hte w'
        have hsz := fun w' => ti_size (P := P) hti hee w'
        refine ⟨.slice (some (if n = (l.getD 0).toNat then ⟨b, off, none⟩ else (⟨b, off, none⟩ : Addr).add ((l.getD 0).toNat * ie.size))) ((h.getD n).toNat - (l.getD 0).toNat) (n - (l.getD 0).toNat), fun w' => by simp [Instr.sliceAt, hut, Instr.sureAddr, hb, hsz], ?_⟩
        simp only [RA]
        refine ⟨hx.1, _, _, rfl, by omega, fun lst' hlst' => ?_⟩
        rw [objOf_some hobj] at hlst'
        injection hlst' with hlst'; injection hlst' with hlst'; injection hlst' with hlst'; subst hlst'
        have hmul : (l.getD 0).toNat * ie.size + ((h.getD n).toNat - (l.getD 0).toNat) * ie.size ≤ n * ie.size := by
          rw [← Nat.add_mul]; exact Nat.mul_le_mul_right _ (by omega)
        refine ⟨by omega, fun hp => ⟨b, hb1, ?_⟩⟩
        rw [if_neg (by omega), addr_plain]
      · cases e
    · cases e
  · rename_i xs
    split at e
    · rename_i n el _ _ _ hte
      split at e
      · rename_i ie hee
        obtain ⟨⟨hle, h0, h1, h2⟩, e⟩ := chk_some e
        injection e with e; subst e
        have hmxn : mx = none := hmx
        subst hmxn
        simp only [RA] at hx
        obtain ⟨ad, rfl, hrm⟩ := hx
        have hb := fun w' => bounds_run (P := P) (w := w') (isS := false) (len := n) (cap := n) hlo hhi (show IsI none none from rfl) (Nat.le_refl _) h0 h1 h2 (by intro m hm; cases hm)
        have hut := fun w' => ti_run (P := P) hti hte w'
        have hsz := fun w' => ti_size (P := P) hti hee w'
        have hcut := RM_cut (T := E.T) (w := w) (xs := xs.take (n * ie.size)) (A := some ad) (sz := ie.size) (n := n) (l := (l.getD 0).toNat) (h := (h.getD n).toNat) (by rw [List.length_take]; omega) (.inr ⟨ad, rfl, RM_take _ _ hrm _⟩) (by omega) (by omega) n (by omega)
        have htt : ((xs.take (n * ie.size)).drop ((l.getD 0).toNat * ie.size)).take (((h.getD n).toNat - (l.getD 0).toNat) * ie.size) = (xs.drop ((l.getD 0).toNat * ie.size)).take (((h.getD n).toNat - (l.getD 0).toNat) * ie.size) := by
          have hmul : (l.getD 0).toNat * ie.size + ((h.getD n).toNat - (l.getD 0).toNat) * ie.size ≤ n * ie.size := by
            rw [← Nat.add_mul]; exact Nat.mul_le_mul_right _ (by omega)
          rw [List.drop_take, List.take_take, Nat.min_eq_left (by omega)]
        rw [htt] at hcut
        refine ⟨.slice (some (if n = (l.getD 0).toNat then ad else ad.add ((l.getD 0).toNat * ie.size))) ((h.getD n).toNat - (l.getD 0).toNat) (n - (l.getD 0).toNat), fun w' => by simp [Instr.sliceAt, hut, Instr.sureAddr, hb, hsz], ?_⟩
        simp only [RA, RD]
        refine ⟨hcut.1, _, _, rfl, by omega, ?_⟩
        rcases hcut.2 with h3 | ⟨ad', h3, h4⟩
        · exact .inl h3
        · refine .inr ⟨ad', ?_, h4⟩
          split at h3 <;> simp_all
      · cases e
    · cases e
  · split at e
    · rename_i sz hz
      split at e
      · rename_i m n xs hs
        exact cutSl_sound hti hz hx hs hlo hhi hmx e
      · cases e
    · cases e

/-! ### Addresses of elements and fields -/
def evIndexAddr (ti : Ti) (r : Rs) (t : TypeId) (x : AV) (i : Int) : Option AV :=
  match x with
  | .ptr o off => match ti t, objOf r o with
    | some ⟨.array n e, _, _, _⟩, some l => match ti e with
      | some ie => chk (0 ≤ i ∧ i < n) (some (.ptr o (off + i.toNat * ie.size)))
      | none => none
    | _, _ => none
  | .el xs => match ti t with
    | some ⟨.array n e, _, _, _⟩ => match ti e with
      | some ie => chk (0 ≤ i ∧ i < n) (some (.el (xs.drop (i.toNat * ie.size))))
      | none => none
    | _ => none
  | .osl o off sz n => match objOf r o with
    | some l => chk (szOf ti t = some sz ∧ 0 ≤ i ∧ i < n) (some (.ptr o (off + i.toNat * sz)))
    | none => none
  | x => match szOf ti t with
    | some sz => match slOf sz x with
      | some (_, n, xs) => chk (0 ≤ i ∧ i < n ∧ 0 < sz) (some (.el (xs.drop (i.toNat * sz))))
      | none => none
    | none => none
theorem evIndexAddr_sound {P : Program} {ti : Ti} (hti : TiOK P ti) {E : Env} {r : Rs} {w : World} {t : TypeId} {x v : AV} {y : Value} {kd : IntKind} {i : Int}
    (hx : RA E r w x y) (e : evIndexAddr ti r t x i = some v) : ∃ z, (∀ w', (Instr.indexAt t y (.int kd i)).run P w' = .ok z w') ∧ RA E r w v z := by
  unfold evIndexAddr at e
  split at e
  · rename_i o off
    split at e
    · rename_i n el _ _ _ l hte hobj
      split at e
      · rename_i ie hee
        obtain ⟨⟨h0, h1⟩, e⟩ := chk_some e
        injection e with e; subst e
        simp only [RA] at hx
        obtain ⟨b, hb, rfl⟩ := hx.2 l (objOf_some hobj)
        have hut := fun w' => ti_run (P := P) hti hte w'
        have hsz := fun w' => ti_size (P := P) hti hee w'
        refine ⟨.pointer (some ((⟨b, off, none⟩ : Addr).add (i.toNat * ie.size))), fun w' => by simp [Instr.indexAt, asIntOf, hut, Instr.sureAddr, h0, h1, hsz], ?_⟩
        simp only [RA]
        refine ⟨hx.1, fun l' hl' => ⟨b, hb, by rw [addr_plain]⟩⟩
      · cases e
    · cases e
  · rename_i xs
    split at e
    · rename_i n el _ _ _ hte
      split at e
      · rename_i ie hee
        obtain ⟨⟨h0, h1⟩, e⟩ := chk_some e
        injection e with e; subst e
        simp only [RA] at hx
        obtain ⟨ad, rfl, hrm⟩ := hx
        have hut := fun w' => ti_run (P := P) hti hte w'
        have hsz := fun w' => ti_size (P := P) hti hee w'
        exact ⟨.pointer (some (ad.add (i.toNat * ie.size))), fun w' => by simp [Instr.indexAt, asIntOf, hut, Instr.sureAddr, h0, h1, hsz], by simp only [RA]; exact ⟨_, rfl, RM_drop xs ad hrm _⟩⟩
      · cases e
    · cases e
  · rename_i o off sz n
    split at e
    · rename_i l hobj
      obtain ⟨⟨hz, h0, h1⟩, e⟩ := chk_some e
      injection e with e; subst e
      obtain ⟨el, s, b, zv, ie, hte, hee, rfl⟩ := szOf_sound hz
      simp only [RA] at hx
      obtain ⟨hi, A, c, rfl, hc, hl⟩ := hx
      obtain ⟨h2, h3⟩ := hl l (objOf_some hobj)
      obtain ⟨b, hb, rfl⟩ := h3 (by omega)
      have hut := fun w' => ti_run (P := P) hti hte w'
      have hsz := fun w' => ti_size (P := P) hti hee w'
      refine ⟨.pointer (some ((⟨b, off, none⟩ : Addr).add (i.toNat * ie.size))), fun w' => by simp [Instr.indexAt, asIntOf, hut, h0, h1, hsz], ?_⟩
      simp only [RA]
      refine ⟨hi, fun l' hl' => ⟨b, hb, by rw [addr_plain]⟩⟩
    · cases e
  · split at e
    · rename_i sz hz
      split at e
      · rename_i m n xs hs
        obtain ⟨⟨h0, h1, h2⟩, e⟩ := chk_some e
        injection e with e; subst e
        obtain ⟨el, s, b, zv, ie, hte, hee, rfl⟩ := szOf_sound hz
        obtain ⟨hlen, A, c, rfl, hnc, hr, _⟩ := slOf_sound hx hs
        have hut := fun w' => ti_run (P := P) hti hte w'
        have hsz := fun w' => ti_size (P := P) hti hee w'
        have hne : xs ≠ [] := by
          rintro rfl
          have : 0 < n * ie.size := Nat.mul_pos (by omega) h2
          simp at hlen
          omega
        rcases hr with h3 | ⟨ad, rfl, hrm⟩
        · exact absurd h3 hne
        · exact ⟨.pointer (some (ad.add (i.toNat * ie.size))), fun w' => by simp [Instr.indexAt, asIntOf, hut, h0, h1, hsz], by simp only [RA]; exact ⟨_, rfl, RM_drop xs ad hrm _⟩⟩
      · cases e
    · cases e

/-- A struct type's field: its place and its type. -/
def fieldOf (ti : Ti) (t : TypeId) (f : Nat) : Option (Nat × TypeId) := match ti t with
  | some ⟨.struct fs, _, _, _⟩ => (fs[f]?).map fun x => (x.offset, x.type)
  | _ => none
def evFieldAddr (ti : Ti) (r : Rs) (t : TypeId) (x : AV) (f : Nat) : Option AV :=
  match fieldOf ti t f with
  | some (off', ft) => match ti ft with
    | some ie => match x with
      | .ptr o off => (objOf r o).bind fun _ => chk (ie.size ≠ 0) (some (.ptr o (off + off')))
      | .el xs => chk (ie.size ≠ 0) (some (.el (xs.drop off')))
      | _ => none
    | none => none
  | none => none
theorem evFieldAddr_sound {P : Program} {ti : Ti} (hti : TiOK P ti) {E : Env} {r : Rs} {w : World} {t : TypeId} {x v : AV} {y : Value} {f : Nat}
    (hx : RA E r w x y) (e : evFieldAddr ti r t x f = some v) : ∃ z, (∀ w', (Instr.fieldAt t y f).run P w' = .ok z w') ∧ RA E r w v z := by
  unfold evFieldAddr at e
  split at e
  · rename_i off' ft hf
    unfold fieldOf at hf
    split at hf
    · rename_i fs _ _ _ hte
      simp only [Option.map_eq_some_iff, Prod.mk.injEq] at hf
      obtain ⟨fld, hfld, rfl, rfl⟩ := hf
      have hut := fun w' => ti_run (P := P) hti hte w'
      split at e
      · rename_i ie hie
        have hsz := fun w' => ti_size (P := P) hti hie w'
        split at e
        · rename_i o off
          simp only [Option.bind_eq_some_iff] at e
          obtain ⟨l, hl, e⟩ := e
          obtain ⟨h0, e⟩ := chk_some e
          injection e with e; subst e
          simp only [RA] at hx
          obtain ⟨b, hb, rfl⟩ := hx.2 l (objOf_some hl)
          refine ⟨.pointer (some ((⟨b, off, none⟩ : Addr).add fld.offset)), fun w' => by simp [Instr.fieldAt, hut, hfld, Instr.sureAddr, fieldPlace, hsz, h0], ?_⟩
          simp only [RA]
          refine ⟨hx.1, fun l' hl' => ⟨b, hb, by rw [addr_plain]⟩⟩
        · rename_i xs
          obtain ⟨h0, e⟩ := chk_some e
          injection e with e; subst e
          simp only [RA] at hx
          obtain ⟨ad, rfl, hrm⟩ := hx
          exact ⟨.pointer (some (ad.add fld.offset)), fun w' => by simp [Instr.fieldAt, hut, hfld, Instr.sureAddr, fieldPlace, hsz, h0], by simp only [RA]; exact ⟨_, rfl, RM_drop xs ad hrm _⟩⟩
        · cases e
      · cases e
    · cases hf
  · cases e

/-! ### Loads -/
def evLoad (ti : Ti) (r : Rs) (t : TypeId) (x : AV) : Option AV :=
  match ti t with
  | some i => match x with
    | .el xs => if isAggD i.u = true then chk (i.size ≤ xs.length) (some (.d (.agg (xs.take i.size)))) else (xs[0]?).map .d
    | .ptr o off => match objOf r o with
      | some l => if isAggD i.u = true then chk (off + i.size ≤ l.length) (some (mkAgg ((l.drop off).take i.size))) else l[off]?
      | none => none
    | _ => none
  | none => none
theorem obj_cell {G : GR} {E : Env} {r : Rs} {w : World} (hG : Good G E r w) {o : Nat} {l : List AV} (ho : objOf r o = some l) : ∃ b vs e, E.bl o = some b ∧ w.heap[b]? = some (.cells vs e (0, 0)) ∧ RAL E r w l vs.toList ∧ (∀ u ∈ vs.toList, u.oneCell' = true) ∧
    ∀ off, w.cell? ⟨b, off, none⟩ = vs[off]? := by
  obtain ⟨b, hb, _, vs, e, h1, h2, h3⟩ := hG.obj o l (objOf_some ho)
  exact ⟨b, vs, e, hb, h1, h2, h3, fun off => cell_of_row w b off vs e (0, 0) h1⟩
theorem evLoad_sound {P : Program} {ti : Ti} (hti : TiOK P ti) {G : GR} {E : Env} {r : Rs} {w : World} (hG : Good G E r w) {t : TypeId} {x v : AV} {y : Value}
    (hx : RA E r w x y) (e : evLoad ti r t x = some v) : ∃ z, (∀ w', Keeps w w' → (Instr.loadAt t y).run P w' = .ok z w') ∧ RA E r w v z := by
  unfold evLoad at e
  split at e
  · rename_i i hi
    have hag := fun w' => ti_agg (P := P) hti hi w'
    have hsz := fun w' => ti_size (P := P) hti hi w'
    split at e
    · rename_i xs
      simp only [RA] at hx
      obtain ⟨ad, rfl, hrm⟩ := hx
      split at e
      · rename_i hagg
        obtain ⟨h0, e⟩ := chk_some e
        injection e with e; subst e
        simp only [hagg] at hag
        obtain ⟨us, hus, hcell⟩ := RM_values _ ad (RM_take xs ad hrm i.size)
        have hlen := RL_length _ us hus
        rw [List.length_take, Nat.min_eq_left h0] at hlen
        have hload := fun w' (hk : Keeps w w') => run_loadCells_list (P := P) w' ad us (fun j u hj => hk.cell (hcell j u hj))
        simp only [hlen] at hload
        refine ⟨.agg us.toArray, fun w' hk => by simp [Instr.loadAt, Instr.sureAddr, loadVar, hag, hsz, hload w' hk], ?_⟩
        simp only [RA, RD]
        exact ⟨us.toArray, rfl, by simpa using hus⟩
      · rename_i hagg
        simp only [Option.map_eq_some_iff] at e
        obtain ⟨d, hd, rfl⟩ := e
        obtain ⟨_, u, hu, h1, hdu⟩ := RM_get xs ad hrm 0 d hd
        rw [addr_add_zero] at hu
        have hag' : isAggD i.u = false := by simpa using hagg
        simp only [hag'] at hag
        exact ⟨u, fun w' hk => by simp [Instr.loadAt, Instr.sureAddr, loadVar, hag, hk.cell hu], by simpa [RA] using hdu⟩
    · rename_i o off
      split at e
      · rename_i l hl
        simp only [RA] at hx
        obtain ⟨b, hb, rfl⟩ := hx.2 l (objOf_some hl)
        obtain ⟨b', vs, el, hb', hh, hral, hone, hcell⟩ := obj_cell hG hl
        rw [hb] at hb'; injection hb' with hb'; subst hb'
        have hlv := RAL_length l _ hral
        split at e
        · rename_i hagg
          obtain ⟨h0, e⟩ := chk_some e
          injection e with e; subst e
          simp only [hagg] at hag
          have hload := fun w' (hk : Keeps w w') => run_loadCells_list (P := P) w' ⟨b, off, none⟩ ((vs.toList.drop off).take i.size) (fun j u hj => hk.cell <| by
            rw [addr_plain, hcell]
            rw [List.getElem?_take] at hj
            split at hj
            · rw [List.getElem?_drop] at hj; simpa using hj
            · cases hj)
          have hlen : ((vs.toList.drop off).take i.size).length = i.size := by
            rw [List.length_take, List.length_drop]; omega
          simp only [hlen] at hload
          refine ⟨.agg ((vs.toList.drop off).take i.size).toArray, fun w' hk => by simp only [Instr.loadAt, Instr.sureAddr, loadVar, Sem.run_bind, Sem.run_pure, Result.andThen_ok, hag, hsz, if_true, hload w' hk], ?_⟩
          refine mkAgg_sound (by simpa using RAL_take _ _ (RAL_drop l _ hral off) i.size) fun u hu => hone u ?_
          exact List.mem_of_mem_drop (List.mem_of_mem_take (by simpa using hu))
        · rename_i hagg
          have hag' : isAggD i.u = false := by simpa using hagg
          simp only [hag'] at hag
          obtain ⟨u, hu, hru⟩ := RAL_get l _ hral off v e
          have hc : w.cell? ⟨b, off, none⟩ = some u := by rw [hcell]; simpa using hu
          exact ⟨u, fun w' hk => by simp [Instr.loadAt, Instr.sureAddr, loadVar, hag, hk.cell hc], hru⟩
      · cases e
    · cases e
  · cases e
end Go.Proofs.Ythdjblfiiogmgaa
/- The frame of these proofs, part I: the remaining operations that only compute, and all of them in one word. -/
set_option linter.unusedVariables false
set_option linter.unusedSimpArgs false
namespace Go.Proofs.Ythdjblfiiogmgaa
open Go

/-! ### Struct and array values made of parts -/
theorem foldl_sets (off : Nat) : ∀ (L : List Value) (k : Nat) (cells : Array Value), off + k + L.length ≤ cells.size →
    ((L.zipIdx k).foldl (fun cs (c : Value × Nat) => cs.setIfInBounds (off + c.2) c.1) cells).toList = cells.toList.take (off + k) ++ L ++ cells.toList.drop (off + k + L.length)
  | [], k, cells, _ => by simp
  | c :: L, k, cells, h => by
    simp only [List.zipIdx_cons, List.foldl_cons]
    simp only [List.length_cons] at h
    rw [foldl_sets off L (k + 1) _ (by simp only [Array.size_setIfInBounds]; omega)]
    have hk : off + k < cells.toList.length := by simp; omega
    simp only [Array.toList_setIfInBounds, List.length_cons]
    have h1 : (cells.toList.set (off + k) c).take (off + (k + 1)) = cells.toList.take (off + k) ++ [c] := by
      rw [show off + (k + 1) = (off + k) + 1 from by omega, List.take_succ_eq_append_getElem (by simpa using hk)]
      simp [List.take_set_of_le]
    have h2 : (cells.toList.set (off + k) c).drop (off + (k + 1) + L.length) = cells.toList.drop (off + k + (L.length + 1)) := by
      rw [List.drop_set_of_lt (by omega)]
      congr 1
      omega
    rw [h1, h2]
    simp
def fillA (place : Nat → Option (Nat × Nat)) : List AV → List (Nat × AV) → Option (List AV)
  | cells, [] => some cells
  | cells, (i, v) :: rest => match place i, cellsAV v with
    | some (off, size), some cs => if cs.length = size ∧ off + size ≤ cells.length then fillA place (cells.take off ++ cs ++ cells.drop (off + size)) rest else none
    | _, _ => none
theorem cellsAV_sound {G : GR} {E : Env} {r : Rs} {w : World} (hG : Good G E r w) {a : AV} {x : Value} {cs : List AV} (h : RA E r w a x) (e : cellsAV a = some cs) (hlive : ∀ i, (a = .mp i ∨ (∃ off, a = .ptr i off) ∨ ∃ off sz n, a = .osl i off sz n) → x.oneCell' = true) :
    RAL E r w cs x.cells.toList ∧ ∀ u ∈ x.cells.toList, u.oneCell' = true := by
  unfold cellsAV at e
  split at e
  · rename_i xs
    injection e with e; subst e
    simp only [RA, RD] at h
    obtain ⟨vs, rfl, hr⟩ := h
    exact ⟨RAL_map_d xs _ hr, RL_one xs _ hr⟩
  · injection e with e; subst e
    simp only [RA] at h
    obtain ⟨vs, rfl, hr, h1⟩ := h
    exact ⟨hr, h1⟩
  · cases e
  · cases e
  · rename_i h1 h2 h3 h4
    injection e with e; subst e
    have hone : x.oneCell' = true := RA_one h (by
      cases a with
      | d y => cases y with
        | agg xs => exact absurd rfl (h1 xs)
        | _ => rfl
      | agg l => exact absurd rfl (h2 l)
      | tup l => exact absurd rfl (h3 l)
      | top => exact absurd rfl h4
      | _ => rfl) hlive
    have hc : x.cells = #[x] := by cases x <;> first | rfl | (simp [Value.oneCell'] at hone)
    rw [hc]
    exact ⟨by simp only [RAL]; exact ⟨x, [], rfl, h, rfl⟩, by simpa using hone⟩
/-- What a pointer or a map of the call's own is: one cell. -/
def liveAV (r : Rs) : AV → Bool
  | .mp i => match r[i]? with | some (some (.mpx (.m _))) => true | _ => false
  | .ptr i _ => match r[i]? with | some (some (.obj _)) => true | _ => false
  | _ => true
theorem liveAV_sound {E : Env} {r : Rs} {w : World} {a : AV} {x : Value} (h : RA E r w a x) (e : liveAV r a = true) (i : Nat) (hi : a = .mp i ∨ (∃ off, a = .ptr i off) ∨ ∃ off sz n, a = .osl i off sz n) : x.oneCell' = true := by
  rcases hi with rfl | ⟨off, rfl⟩ | ⟨off, sz, n, rfl⟩
  · simp only [liveAV] at e
    split at e
    · rename_i l hl
      simp only [RA] at h
      obtain ⟨b, _, rfl⟩ := h.2 _ hl
      rfl
    · cases e
  · simp only [liveAV] at e
    split at e
    · rename_i l hl
      simp only [RA] at h
      obtain ⟨b, _, rfl⟩ := h.2 _ hl
      rfl
    · cases e
  · simp only [RA] at h
    obtain ⟨_, A, c, rfl, _⟩ := h
    rfl
def RP (E : Env) (r : Rs) (w : World) : List (Nat × AV) → List (Nat × Value) → Prop
  | [], vs => vs = []
  | (i, a) :: l, vs => ∃ v rest, vs = (i, v) :: rest ∧ RA E r w a v ∧ RP E r w l rest
theorem fillA_sound {G : GR} {E : Env} {r : Rs} {w : World} (hG : Good G E r w) (place : Nat → Option (Nat × Nat)) : ∀ (pa : List (Nat × AV)) (pv : List (Nat × Value)) (ca : List AV) (cv : Array Value) (out : List AV),
    RP E r w pa pv → pa.all (fun p => liveAV r p.2) = true → RAL E r w ca cv.toList → (∀ u ∈ cv.toList, u.oneCell' = true) → fillA place ca pa = some out →
    ∃ ov, Instr.fill place cv pv = some ov ∧ RAL E r w out ov.toList ∧ ∀ u ∈ ov.toList, u.oneCell' = true
  | [], pv, ca, cv, out, hp, _, hc, h1, e => by
    simp only [RP] at hp
    subst hp
    simp only [fillA] at e
    injection e with e; subst e
    exact ⟨cv, rfl, hc, h1⟩
  | (i, a) :: pa, pv, ca, cv, out, hp, hall, hc, h1, e => by
      simp only [RP] at hp
      obtain ⟨x, pv', rfl, hra, hrest⟩ := hp
      simp only [List.all_cons, Bool.and_eq_true] at hall
      obtain ⟨hlv, hall⟩ := hall
      simp only [fillA] at e
      split at e
      · rename_i off size cs hpl hcs
        split at e
        · rename_i hsz
          obtain ⟨hs1, hs2⟩ := hsz
          obtain ⟨k1, k2⟩ := cellsAV_sound hG hra hcs (liveAV_sound hra hlv)
          have hl1 := RAL_length _ _ k1
          have hl2 := RAL_length _ _ hc
          have hxs : x.cells.size = size := by simpa [hs1] using hl1
          have hcs' : off + size ≤ cv.size := by rw [← hl2] at hs2; simpa using hs2
          have hf : (x.cells.zipIdx.foldl (fun cs (c : Value × Nat) => cs.setIfInBounds (off + c.2) c.1) cv).toList = cv.toList.take off ++ x.cells.toList ++ cv.toList.drop (off + size) := by
            have := foldl_sets off x.cells.toList 0 cv (by simp [hxs]; omega)
            simp only [Nat.add_zero] at this
            rw [← Array.foldl_toList, Array.toList_zipIdx, this]
            simp [hxs]
          obtain ⟨ov, ho1, ho2, ho3⟩ := fillA_sound hG place pa pv' _ (x.cells.zipIdx.foldl (fun cs (c : Value × Nat) => cs.setIfInBounds (off + c.2) c.1) cv) out hrest hall
            (by rw [hf]; exact RAL_append _ _ _ _ (RAL_append _ _ _ _ (RAL_take _ _ hc _) k1) (RAL_drop _ _ hc _))
            (by rw [hf]; intro u hu; simp only [List.mem_append] at hu; rcases hu with (hu | hu) | hu
                · exact h1 u (List.mem_of_mem_take hu)
                · exact k2 u hu
                · exact h1 u (List.mem_of_mem_drop hu)) e
          refine ⟨ov, ?_, ho2, ho3⟩
          simp only [Instr.fill, hpl]
          rw [if_neg (by simp [hxs]; omega)]
          exact ho1
        · cases e
      · cases e
def placesA (ti : Ti) : List Field → Option (List (Nat × Nat))
  | [] => some []
  | f :: fs => match ti f.type, placesA ti fs with
    | some i, some rest => some ((f.offset, i.size) :: rest)
    | _, _ => none
theorem placesA_sound {P : Program} {ti : Ti} (hti : TiOK P ti) : ∀ (fs : List Field) (pl : List (Nat × Nat)), placesA ti fs = some pl → fs.mapM (fun f => (P.info? f.type).map fun i => (f.offset, i.size)) = some pl
  | [], pl, h => by simpa [placesA] using h
  | f :: fs, pl, h => by
    simp only [placesA] at h
    split at h
    · rename_i i rest hi hr
      injection h with h; subst h
      obtain ⟨_, g, hg, hs, _⟩ := hti _ _ hi
      simp [List.mapM_cons, hg, hs, placesA_sound hti fs rest hr]
    · cases h
def zeroA (z : Value) : Option (List AV) := if z.cells.toList.all Value.oneCell' then some (z.cells.toList.map fun v => .d (.c v)) else none
theorem zeroA_sound {E : Env} {r : Rs} {w : World} {z : Value} {l : List AV} (h : zeroA z = some l) : RAL E r w l z.cells.toList ∧ ∀ u ∈ z.cells.toList, u.oneCell' = true := by
  unfold zeroA at h
  split at h
  · rename_i h1
    injection h with h; subst h
    refine ⟨?_, fun u hu => List.all_eq_true.1 h1 u hu⟩
    have := RAL_map_d (E := E) (r := r) (w := w) _ _ (RL_consts (T := E.T) (w := w) _ h1)
    simpa [List.map_map, Function.comp_def] using this
  · cases h
def evBuild (ti : Ti) (r : Rs) (t : TypeId) (parts : List (Nat × AV)) : Option AV :=
  if parts.all (fun p => liveAV r p.2) then
    match ti t with
    | some ⟨.struct fs, _, _, z⟩ => match placesA ti fs.toList, zeroA z with
      | some pl, some zl => (fillA (fun i => pl[i]?) zl parts).map mkAgg
      | _, _ => none
    | some ⟨.array _ e, _, _, z⟩ => match ti e, zeroA z with
      | some ie, some zl => (fillA (fun i => some (i * ie.size, ie.size)) zl parts).map mkAgg
      | _, _ => none
    | _ => none
  else none
theorem evBuild_sound {P : Program} {ti : Ti} (hti : TiOK P ti) {G : GR} {E : Env} {r : Rs} {w : World} (hG : Good G E r w) {t : TypeId} {pa : List (Nat × AV)} {pv : Array (Nat × Value)} {v : AV}
    (hp : RP E r w pa pv.toList) (e : evBuild ti r t pa = some v) : ∃ z, (Instr.build t pv).run P w = .ok z w ∧ RA E r w v z := by
  unfold evBuild at e
  split at e
  · rename_i hall
    split at e
    · rename_i fs s b z hte
      obtain ⟨hu, f, hf, _, _, hz, _⟩ := hti _ _ hte
      split at e
      · rename_i pl zl hpl hzl
        simp only [Option.map_eq_some_iff] at e
        obtain ⟨out, hout, rfl⟩ := e
        obtain ⟨k1, k2⟩ := zeroA_sound (E := E) (r := r) (w := w) hzl
        obtain ⟨ov, ho1, ho2, ho3⟩ := fillA_sound hG _ pa pv.toList zl z.cells out hp hall k1 k2 hout
        refine ⟨.agg ov, run_build w t pv ov ?_, mkAgg_sound ho2 ho3⟩
        have hp2 := placesA_sound hti _ _ hpl
        simp only [Program.built, hf, hu, hz, hp2]
        simpa using ho1
      · cases e
    · rename_i n el s b z hte
      obtain ⟨hu, f, hf, _, _, hz, _⟩ := hti _ _ hte
      split at e
      · rename_i ie zl hie hzl
        simp only [Option.map_eq_some_iff] at e
        obtain ⟨out, hout, rfl⟩ := e
        obtain ⟨_, fe, hfe, hse, _⟩ := hti _ _ hie
        obtain ⟨k1, k2⟩ := zeroA_sound (E := E) (r := r) (w := w) hzl
        obtain ⟨ov, ho1, ho2, ho3⟩ := fillA_sound hG _ pa pv.toList zl z.cells out hp hall k1 k2 hout
        refine ⟨.agg ov, run_build w t pv ov ?_, mkAgg_sound ho2 ho3⟩
        simp only [Program.built, hf, hu, hz, hfe, hse]
        exact ho1
      · cases e
    · cases e
  · cases e
end Go.Proofs.Ythdjblfiiogmgaa
/- The frame of these proofs, part IE: arrays and structs of numbers, truth values and texts: when two are equal. -/
set_option linter.unusedVariables false
set_option linter.unusedSimpArgs false
namespace Go.Proofs.Ythdjblfiiogmgaa
open Go

inductive CK where
  | int
  | bool
  | str
/-- The cells of a type that can be compared cell by cell. -/
def flatFs (rec : TypeId → Option (List CK)) : Nat → List Field → Option (List CK)
  | _, [] => some []
  | off, f :: fs => if f.name ≠ "_" ∧ f.offset = off then (match rec f.type with
    | some ks => (flatFs rec (off + ks.length) fs).map (ks ++ ·)
    | none => none) else none
def flatI (n : Nat) (o : Option (List CK)) : Option (List CK) := match o with
  | some ks => if ks.length = n then some ks else none
  | none => none
def flatT (ti : Ti) : Nat → TypeId → Option (List CK)
  | 0, _ => none
  | m + 1, t => match ti t with
    | some i => match i.u with
      | .bool => flatI i.size (some [.bool])
      | .int _ => flatI i.size (some [.int])
      | .string => flatI i.size (some [.str])
      | .array n e => flatI i.size ((flatT ti m e).map fun ks => (List.replicate n ks).flatten)
      | .struct fs => flatI i.size (flatFs (flatT ti m) 0 fs.toList)
      | _ => none
    | none => none
theorem flatI_some {n : Nat} {o : Option (List CK)} {ks : List CK} (h : flatI n o = some ks) : o = some ks ∧ ks.length = n := by
  unfold flatI at h
  split at h
  · split at h
    · injection h with h; subst h; exact ⟨rfl, ‹_›⟩
    · cases h
  · cases h
def ckV : CK → Value → Value → Option Bool
  | .int, .int k a, .int k' b => if k = k' then some (decide (a = b)) else none
  | .bool, .bool a, .bool b => some (decide (a = b))
  | .str, .string a, .string b => some (decide (a = b))
  | _, _, _ => none
theorem ckV_int {a b : Value} {r : Bool} (h : ckV .int a b = some r) : ∃ k x y, a = .int k x ∧ b = .int k y ∧ r = decide (x = y) := by
  cases a <;> cases b <;> simp only [ckV, reduceCtorEq] at h
  split at h
  · rename_i hk; subst hk; injection h with h; exact ⟨_, _, _, rfl, rfl, h.symm⟩
  · cases h
theorem ckV_bool {a b : Value} {r : Bool} (h : ckV .bool a b = some r) : ∃ x y, a = .bool x ∧ b = .bool y ∧ r = decide (x = y) := by
  cases a <;> cases b <;> simp only [ckV, reduceCtorEq] at h
  injection h with h; exact ⟨_, _, rfl, rfl, h.symm⟩
theorem ckV_str {a b : Value} {r : Bool} (h : ckV .str a b = some r) : ∃ x y, a = .string x ∧ b = .string y ∧ r = decide (x = y) := by
  cases a <;> cases b <;> simp only [ckV, reduceCtorEq] at h
  injection h with h; exact ⟨_, _, rfl, rfl, h.symm⟩
def and2 : Option Bool → Option Bool → Option Bool
  | some a, some b => some (a && b)
  | _, _ => none
theorem and2_some {o p : Option Bool} {b : Bool} (h : and2 o p = some b) : ∃ x y, o = some x ∧ p = some y ∧ b = (x && y) := by
  unfold and2 at h
  split at h
  · injection h with h; exact ⟨_, _, rfl, rfl, h.symm⟩
  · cases h
def eqV : List CK → List Value → List Value → Option Bool
  | [], [], [] => some true
  | k :: ks, x :: xs, y :: ys => and2 (ckV k x y) (eqV ks xs ys)
  | _, _, _ => none
theorem eqV_len : ∀ {ks : List CK} {xs ys : List Value} {b : Bool}, eqV ks xs ys = some b → xs.length = ks.length ∧ ys.length = ks.length
  | [], [], [], _, _ => ⟨rfl, rfl⟩
  | k :: ks, x :: xs, y :: ys, b, h => by
    simp only [eqV] at h
    obtain ⟨_, _, _, h2, _⟩ := and2_some h
    have := eqV_len h2
    simp [this.1, this.2]
  | [], [], _ :: _, _, h => by simp [eqV] at h
  | [], _ :: _, _, _, h => by simp [eqV] at h
  | _ :: _, [], _, _, h => by simp [eqV] at h
  | _ :: _, _ :: _, [], _, h => by simp [eqV] at h
theorem eqV_app : ∀ {ks ms : List CK} {xs ys : List Value} {b : Bool}, eqV (ks ++ ms) xs ys = some b → ∃ b1 b2, eqV ks (xs.take ks.length) (ys.take ks.length) = some b1 ∧ eqV ms (xs.drop ks.length) (ys.drop ks.length) = some b2 ∧ b = (b1 && b2)
  | [], ms, xs, ys, b, h => ⟨true, b, by simp [eqV], by simpa using h, by simp⟩
  | k :: ks, ms, x :: xs, y :: ys, b, h => by
    simp only [List.cons_append, eqV] at h
    obtain ⟨b1, b2, h1, h2, rfl⟩ := and2_some h
    obtain ⟨c1, c2, h3, h4, rfl⟩ := eqV_app h2
    refine ⟨b1 && c1, c2, ?_, by simpa using h4, by rw [Bool.and_assoc]⟩
    simp only [List.length_cons, List.take_succ_cons, eqV, h1, h3, and2]
  | _ :: _, _, [], _, _, h => by simp [eqV] at h
  | _ :: _, _, _ :: _, [], _, h => by simp [eqV] at h

/-- A value of a type, and its cells. -/
def IsV (u : TypeDesc) (x : Value) (vs : List Value) : Prop := if isAggD u = true then x = .agg vs.toArray else vs = [x]
section
variable {P : Program} {ti : Ti} {w : World}
theorem ti_st (hti : TiOK P ti) {t : TypeId} {i : TI} (h : ti t = some i) : P.stoodInHeld t = false := by
  obtain ⟨_, _, _, _, _, _, _, hs⟩ := hti t i h
  exact hs
theorem part_isV (hti : TiOK P ti) {e : TypeId} {ie : TI} (hie : ti e = some ie) {vs : Array Value} {off : Nat} (hlen : ((vs.toList.drop off).take ie.size).length = ie.size) (h1 : isAggD ie.u = false → ie.size = 1) :
    ∃ z, (part e vs off).run P w = .ok z w ∧ IsV ie.u z ((vs.toList.drop off).take ie.size) := by
  have hag := ti_agg (P := P) hti hie w
  have hsz := ti_size (P := P) hti hie w
  by_cases hagg : isAggD ie.u = true
  · simp only [hagg] at hag
    refine ⟨.agg (vs.extract off (off + ie.size)), by simp [part, hag, hsz], ?_⟩
    simp only [IsV, hagg, if_true]
    congr 1
    apply Array.ext'
    simp [List.extract_eq_take_drop]
  · have hagg' : isAggD ie.u = false := by simpa using hagg
    have hs1 := h1 hagg'
    simp only [hagg'] at hag
    rw [hs1] at hlen ⊢
    match hd : (vs.toList.drop off).take 1, hlen with
    | [z], _ =>
      have hz : vs[off]? = some z := by
        have : ((vs.toList.drop off).take 1)[0]? = some z := by rw [hd]; rfl
        rw [List.getElem?_take, if_pos (by omega), List.getElem?_drop] at this
        simpa using this
      exact ⟨z, by simp [part, hag, hz], by simp [IsV, hagg']⟩
theorem flat_one {m : Nat} {t : TypeId} {i : TI} {ks : List CK} (hi : ti t = some i) (h : flatT ti m t = some ks) : ks.length = i.size ∧ (isAggD i.u = false → i.size = 1) := by
  cases m with
  | zero => simp [flatT] at h
  | succ m =>
    simp only [flatT, hi] at h
    split at h
    all_goals first
      | (cases h; done)
      | (obtain ⟨h1, h2⟩ := flatI_some h
         refine ⟨h2, fun hag => ?_⟩
         first
           | (injection h1 with h1; subst h1; exact h2.symm)
           | (rename_i hu; rw [hu] at hag; simp [isAggD] at hag))
theorem items_run (hti : TiOK P ti) {d : Nat} {e : TypeId} {ie : TI} (hie : ti e = some ie) {kse : List CK} (hl : kse.length = ie.size) (h1 : isAggD ie.u = false → ie.size = 1)
    (IH : ∀ (x y : Value) (vs us : List Value) (b : Bool) (w : World), IsV ie.u x vs → IsV ie.u y us → eqV kse vs us = some b → (Op.equalIn d e x y).run P w = .ok b w) (xs ys : Array Value) :
    ∀ (n s : Nat) (b : Bool), eqV (List.replicate n kse).flatten (xs.toList.drop (s * ie.size)) (ys.toList.drop (s * ie.size)) = some b → (Op.eqItems d e (P.cellsOf e) xs ys (List.range' s n)).run P w = .ok b w
  | 0, s, b, h => by
    have : b = true := by
      generalize xs.toList.drop (s * ie.size) = l at h
      generalize ys.toList.drop (s * ie.size) = l2 at h
      cases l <;> cases l2 <;> simp [eqV] at h
      exact h
    simp [Op.eqItems, this]
  | n + 1, s, b, h => by
    rw [List.replicate_succ, List.flatten_cons] at h
    obtain ⟨b1, b2, h2, h3, rfl⟩ := eqV_app h
    have hc : P.cellsOf e = ie.size := by
      obtain ⟨_, f, hf, hs, _⟩ := hti e ie hie
      simp [Program.cellsOf, hf, hs]
    have hlen := eqV_len h2
    rw [hl] at h2 h3 hlen
    obtain ⟨z, hz, hzv⟩ := part_isV (P := P) (w := w) hti hie (vs := xs) (off := s * ie.size) hlen.1 h1
    obtain ⟨z2, hz2, hzv2⟩ := part_isV (P := P) (w := w) hti hie (vs := ys) (off := s * ie.size) hlen.2 h1
    have hr := IH z z2 _ _ b1 w hzv hzv2 h2
    rw [List.drop_drop, List.drop_drop] at h3
    have hs : s * ie.size + ie.size = (s + 1) * ie.size := (Nat.succ_mul s ie.size).symm
    rw [hs] at h3
    have hrest := items_run hti hie hl h1 IH xs ys n (s + 1) b2 h3
    rw [List.range'_succ]
    simp only [Op.eqItems, hc, Sem.run_bind, hz, hz2, hr, Result.andThen_ok]
    rw [hc] at hrest
    cases b1 <;> simp [hrest]
theorem fields_run (hti : TiOK P ti) {m d : Nat} (IH : ∀ (t : TypeId) (i : TI) (ks : List CK), ti t = some i → flatT ti m t = some ks → ∀ (x y : Value) (vs us : List Value) (b : Bool) (w : World), IsV i.u x vs → IsV i.u y us → eqV ks vs us = some b → (Op.equalIn d t x y).run P w = .ok b w) (xs ys : Array Value) :
    ∀ (fs : List Field) (off : Nat) (ks : List CK) (b : Bool), flatFs (flatT ti m) off fs = some ks → eqV ks (xs.toList.drop off) (ys.toList.drop off) = some b → (Op.eqFields d xs ys fs).run P w = .ok b w
  | [], off, ks, b, hf, h => by
    simp only [flatFs] at hf; injection hf with hf; subst hf
    have : b = true := by
      generalize xs.toList.drop off = l at h
      generalize ys.toList.drop off = l2 at h
      cases l <;> cases l2 <;> simp [eqV] at h
      exact h
    simp [Op.eqFields, this]
  | f :: fs, off, ks, b, hf, h => by
    simp only [flatFs] at hf
    split at hf
    · rename_i hn
      obtain ⟨hn, rfl⟩ := hn
      split at hf
      · rename_i k1 hk1
        simp only [Option.map_eq_some_iff] at hf
        obtain ⟨k2, hk2, rfl⟩ := hf
        obtain ⟨b1, b2, h2, h3, rfl⟩ := eqV_app h
        obtain ⟨ie, hie⟩ : ∃ ie, ti f.type = some ie := by
          cases m with
          | zero => simp [flatT] at hk1
          | succ m =>
            simp only [flatT] at hk1
            split at hk1
            · exact ⟨_, ‹_›⟩
            · cases hk1
        obtain ⟨hl, h1⟩ := flat_one hie hk1
        have hlen := eqV_len h2
        rw [hl] at h2 h3 hlen
        obtain ⟨z, hz, hzv⟩ := part_isV (P := P) (w := w) hti hie (vs := xs) (off := f.offset) hlen.1 h1
        obtain ⟨z2, hz2, hzv2⟩ := part_isV (P := P) (w := w) hti hie (vs := ys) (off := f.offset) hlen.2 h1
        have hr := IH f.type ie k1 hie hk1 z z2 _ _ b1 w hzv hzv2 h2
        rw [List.drop_drop, List.drop_drop] at h3
        rw [hl] at hk2
        have hrest := fields_run hti IH xs ys fs (f.offset + ie.size) k2 b2 hk2 h3
        simp only [Op.eqFields, hn, ne_eq, not_false_eq_true, if_true, Sem.run_bind, hz, hz2, hr, Result.andThen_ok]
        cases b1 <;> simp [hrest]
      · cases hf
    · cases hf
theorem eq_flat (hti : TiOK P ti) : ∀ (m : Nat) (d : Nat) (t : TypeId) (i : TI) (ks : List CK), ti t = some i → flatT ti m t = some ks → ∀ (x y : Value) (vs us : List Value) (b : Bool) (w : World), IsV i.u x vs → IsV i.u y us → eqV ks vs us = some b → (Op.equalIn (d + m) t x y).run P w = .ok b w
  | 0, d, t, i, ks, hi, h, _, _, _, _, _, _, _, _, _ => by simp [flatT] at h
  | m + 1, d, t, i, ks, hi, h, x, y, vs, us, b, w, hx, hy, hb => by
    have hu := ti_u (P := P) hti hi
    simp only [flatT, hi] at h
    rw [show d + (m + 1) = (d + m) + 1 from rfl]
    split at h
    · rename_i hu2
      obtain ⟨h1, _⟩ := flatI_some h
      injection h1 with h1; subst h1
      simp only [IsV, hu2, isAggD, Bool.false_eq_true, if_false] at hx hy
      subst hx; subst hy
      simp only [eqV] at hb
      obtain ⟨b1, b2, h1, h2, rfl⟩ := and2_some hb
      injection h2 with h2; subst h2
      rw [hu2] at hu
      obtain ⟨a, b, rfl, rfl, rfl⟩ := ckV_bool h1
      rw [run_equalIn_bool' _ _ _ _ _ hu]
      cases a <;> cases b <;> rfl
    · rename_i k hu2
      obtain ⟨h1, _⟩ := flatI_some h
      injection h1 with h1; subst h1
      simp only [IsV, hu2, isAggD, Bool.false_eq_true, if_false] at hx hy
      subst hx; subst hy
      simp only [eqV] at hb
      obtain ⟨b1, b2, h1, h2, rfl⟩ := and2_some hb
      injection h2 with h2; subst h2
      rw [hu2] at hu
      obtain ⟨k, a, b, rfl, rfl, rfl⟩ := ckV_int h1
      rw [run_equalIn_int _ _ _ _ _ _ _ hu, Bool.and_true]
      rfl
    · rename_i hu2
      obtain ⟨h1, _⟩ := flatI_some h
      injection h1 with h1; subst h1
      simp only [IsV, hu2, isAggD, Bool.false_eq_true, if_false] at hx hy
      subst hx; subst hy
      simp only [eqV] at hb
      obtain ⟨b1, b2, h1, h2, rfl⟩ := and2_some hb
      injection h2 with h2; subst h2
      rw [hu2] at hu
      obtain ⟨a, b, rfl, rfl, rfl⟩ := ckV_str h1
      have h : a.toList = b.toList ↔ a = b := by
        rw [Go.ByteArray.toList_eq, Go.ByteArray.toList_eq]
        constructor
        · intro h; exact ByteArray.ext (Array.ext' h)
        · rintro rfl; rfl
      have h2 : (a.toList == b.toList) = decide (a = b) := by
        rw [Bool.eq_iff_iff]; simp [h]
      rw [run_equalIn_string _ _ _ _ _ hu, h2, Bool.and_true]
    · rename_i n e hu2
      obtain ⟨h1, _⟩ := flatI_some h
      simp only [Option.map_eq_some_iff] at h1
      obtain ⟨kse, hk, rfl⟩ := h1
      simp only [IsV, hu2, isAggD, if_true] at hx hy
      subst hx; subst hy
      obtain ⟨ie, hie⟩ : ∃ ie, ti e = some ie := by
        cases m with
        | zero => simp [flatT] at hk
        | succ m =>
          simp only [flatT] at hk
          split at hk
          · exact ⟨_, ‹_›⟩
          · cases hk
      obtain ⟨hl, h1⟩ := flat_one hie hk
      obtain ⟨_, fe, hfe, _⟩ := hti e ie hie
      rw [hu2] at hu
      rw [run_equalIn_array w (d + m) _ _ hu hfe, List.range_eq_range']
      exact items_run hti hie hl h1 (fun x y vs us b w hx hy hb => eq_flat hti m d e ie kse hie hk x y vs us b w hx hy hb) _ _ n 0 b (by simpa using hb)
    · rename_i fs hu2
      obtain ⟨h1, _⟩ := flatI_some h
      simp only [IsV, hu2, isAggD, if_true] at hx hy
      subst hx; subst hy
      rw [hu2] at hu
      have hfs : P.fieldsOf t = fs := by simp [Program.fieldsOf, hu]
      rw [run_equalIn_struct w (d + m) t _ _ (by rw [hfs]; exact hu) (ti_st hti hi), hfs]
      exact fields_run hti (fun t i ks hi hk x y vs us b w hx hy hb => eq_flat hti m d t i ks hi hk x y vs us b w hx hy hb) _ _ fs.toList 0 ks b h1 (by simpa using hb)
    · cases h
theorem guard_flat (hti : TiOK P ti) : ∀ (m d : Nat) (t : TypeId) (ks : List CK), flatT ti m t = some ks → m ≤ d → P.eqGuardType d t = false
  | 0, d, t, ks, h, _ => by simp [flatT] at h
  | m + 1, 0, t, ks, h, hd => by omega
  | m + 1, d + 1, t, ks, h, hd => by
    simp only [flatT] at h
    split at h
    · rename_i i hi
      have hu := ti_u (P := P) hti hi
      unfold Program.eqGuardType
      rw [hu]
      split at h
      · rename_i hu2; rw [hu2]
      · rename_i hu2; rw [hu2]
      · rename_i hu2; rw [hu2]
      · rename_i n e hu2
        rw [hu2]
        obtain ⟨h1, _⟩ := flatI_some h
        simp only [Option.map_eq_some_iff] at h1
        obtain ⟨kse, hk, _⟩ := h1
        exact guard_flat hti m d e kse hk (by omega)
      · rename_i fs hu2
        rw [hu2]
        obtain ⟨h1, _⟩ := flatI_some h
        have : ∀ (l : List Field) (off : Nat) (ks : List CK), flatFs (flatT ti m) off l = some ks → ∀ f ∈ l, P.eqGuardType d f.type = false := by
          intro l
          induction l with
          | nil => intro _ _ _ f hf; simp at hf
          | cons g l ih =>
            intro off ks hk f hf
            simp only [flatFs] at hk
            split at hk
            · split at hk
              · rename_i k1 hk1
                simp only [Option.map_eq_some_iff] at hk
                obtain ⟨k2, hk2, _⟩ := hk
                simp only [List.mem_cons] at hf
                rcases hf with rfl | hf
                · exact guard_flat hti m d _ k1 hk1 (by omega)
                · exact ih _ _ hk2 f hf
              · cases hk
            · cases hk
        simp only
        rw [← Array.any_toList]
        rw [List.any_eq_false]
        intro f hf
        simp [this fs.toList 0 ks h1 f hf]
      · cases h
    · cases h

/-! ### Over data -/
def ckD : CK → D → D → Option Bool
  | k, .c a, .c b => ckV k a b
  | _, _, _ => none
def eqD : List CK → List D → List D → Option Bool
  | [], [], [] => some true
  | k :: ks, x :: xs, y :: ys => and2 (ckD k x y) (eqD ks xs ys)
  | _, _, _ => none
theorem eqD_sound {T : Nat → Nat} : ∀ {ks : List CK} {xs ys : List D} {vs us : List Value} {b : Bool}, RL T w xs vs → RL T w ys us → eqD ks xs ys = some b → eqV ks vs us = some b
  | [], [], [], vs, us, b, hx, hy, h => by
    simp only [RL] at hx hy; subst hx; subst hy; simpa [eqV, eqD] using h
  | k :: ks, x :: xs, y :: ys, vs, us, b, hx, hy, h => by
    simp only [RL] at hx hy
    obtain ⟨v, vr, rfl, _, h1, h2⟩ := hx
    obtain ⟨u, ur, rfl, _, h3, h4⟩ := hy
    simp only [eqD] at h
    obtain ⟨b1, b2, h5, h6, rfl⟩ := and2_some h
    simp only [eqV, eqD_sound h2 h4 h6]
    have : ckV k v u = some b1 := by
      unfold ckD at h5
      split at h5
      · simp only [RD] at h1 h3
        rw [h1.1, h3.1]; exact h5
      · cases h5
    rw [this]; rfl
  | [], [], _ :: _, _, _, _, _, _, h => by simp [eqD] at h
  | [], _ :: _, _, _, _, _, _, _, h => by simp [eqD] at h
  | _ :: _, [], _, _, _, _, _, _, h => by simp [eqD] at h
  | _ :: _, _ :: _, [], _, _, _, _, _, h => by simp [eqD] at h
def tF (ti : Ti) (t : TypeId) : Option (List CK) := flatT ti 8 t
def eqAgg (ks : Option (List CK)) (g neg : Bool) (xs ys : List D) : Option AV := match ks, g with
  | some ks, true => (eqD ks xs ys).map fun b => .d (.c (.bool (if neg then !b else b)))
  | _, _ => none
def aggB (ti : Ti) (t : TypeId) : Bool := match ti t with
  | some i => isAggD i.u
  | none => false
def evEqA (ti : Ti) (t : TypeId) (neg : Bool) (x y : AV) : Option AV := match x, y with
  | .d (.agg xs), .d (.agg ys) => eqAgg (tF ti t) (aggB ti t) neg xs ys
  | _, _ => none
theorem evEqA_form {ti : Ti} {t : TypeId} {neg : Bool} {x y v : AV} (e : evEqA ti t neg x y = some v) : ∃ u, v = .d (.c u) := by
  unfold evEqA at e
  split at e
  · unfold eqAgg at e
    split at e
    · simp only [Option.map_eq_some_iff] at e
      obtain ⟨q, _, rfl⟩ := e
      exact ⟨_, rfl⟩
    · cases e
  · cases e
theorem evEqA_sound (hti : TiOK P ti) {E : Env} {r : Rs} {t : TypeId} {neg : Bool} {x y v : AV} {a b : Value} (hx : RA E r w x a) (hy : RA E r w y b) (e : evEqA ti t neg x y = some v) (ox oy : Operand) :
    ∃ u, v = .d (.c (.bool u)) ∧ ∀ w', (eqGuard (if neg then .neq else .eql) t ox oy a b).run P w' = .ok () w' ∧ (binOp (if neg then .neq else .eql) t a b).run P w' = .ok (.bool u) w' := by
  unfold evEqA at e
  split at e
  · rename_i xs ys
    unfold eqAgg at e
    split at e
    · rename_i ks hk hg
      simp only [Option.map_eq_some_iff] at e
      obtain ⟨q, hq, rfl⟩ := e
      simp only [RA, RD] at hx hy
      obtain ⟨vs, rfl, hx⟩ := hx
      obtain ⟨us, rfl, hy⟩ := hy
      unfold aggB at hg
      split at hg
      · rename_i i hi
        refine ⟨_, rfl, fun w' => ?_⟩
        have hgd := guard_flat (P := P) hti 8 P.depth t ks hk (by unfold Program.depth Made.depth; omega)
        have heq : (Op.equalIn 10000 t (.agg vs) (.agg us)).run P w' = .ok q w' :=
          eq_flat hti 8 9992 t i ks hi hk (.agg vs) (.agg us) vs.toList us.toList q w' (by simp [IsV, hg]) (by simp [IsV, hg]) (eqD_sound hx hy hq)
        refine ⟨run_eqGuard_agg w' _ t ox oy vs us hgd, ?_⟩
        cases neg
        · simp only [Bool.false_eq_true, if_false]; rw [run_eql_struct, heq]; rfl
        · simp only [if_true]; rw [run_neq_struct, heq]; rfl
      · cases hg
    · cases e
  · cases e
end
end Go.Proofs.Ythdjblfiiogmgaa
/- The frame of these proofs, part J: all operations that only compute, in one word. -/
set_option linter.unusedVariables false
set_option linter.unusedSimpArgs false
namespace Go.Proofs.Ythdjblfiiogmgaa
open Go

/-! ### nil -/
inductive NK where
  | ptr
  | map
  | fn
  | sl
  deriving DecidableEq
/-- A pointer, map or function: is it nil? -/
def absNil (r : Rs) : AV → Option (NK × Bool)
  | .d (.c (.pointer none)) => some (.ptr, true)
  | .d (.c (.map none)) => some (.map, true)
  | .d (.c .nilFunc) => some (.fn, true)
  | .ptr i _ => (objOf r i).map fun _ => (.ptr, false)
  | .mp i => match r[i]? with | some (some (.mpx (.m _))) => some (.map, false) | _ => none
  | .el _ => some (.ptr, false)
  | .d (.p _) => some (.ptr, false)
  | .fn _ _ _ => some (.fn, false)
  | .d (.c (.slice A _ _)) => some (.sl, A.isNone)
  | .d (.sl _ _ xs) => if 0 < xs.length then some (.sl, false) else none
  | .sl _ _ _ xs => if 0 < xs.length then some (.sl, false) else none
  | _ => none
def NKv : NK → Bool → Value → Prop
  | .ptr, c, a => ∃ p, a = .pointer p ∧ p.isNone = c
  | .map, c, a => ∃ p, a = .map p ∧ p.isNone = c
  | .fn, c, a => (a = .nilFunc ∧ c = true) ∨ ∃ f x y, a = .func f x y ∧ c = false
  | .sl, c, a => ∃ A n k, a = .slice A n k ∧ A.isNone = c
theorem absNil_sound {E : Env} {r : Rs} {w : World} {x : AV} {a : Value} {k : NK} {c : Bool} (h : RA E r w x a) (e : absNil r x = some (k, c)) : NKv k c a := by
  unfold absNil at e
  split at e
  · simp only [Option.some.injEq, Prod.mk.injEq] at e; obtain ⟨rfl, rfl⟩ := e
    simp only [RA, RD] at h; exact ⟨none, h.1, rfl⟩
  · simp only [Option.some.injEq, Prod.mk.injEq] at e; obtain ⟨rfl, rfl⟩ := e
    simp only [RA, RD] at h; exact ⟨none, h.1, rfl⟩
  · simp only [Option.some.injEq, Prod.mk.injEq] at e; obtain ⟨rfl, rfl⟩ := e
    simp only [RA, RD] at h; exact .inl ⟨h.1, rfl⟩
  · simp only [Option.map_eq_some_iff, Prod.mk.injEq] at e
    obtain ⟨l, hl, rfl, rfl⟩ := e
    simp only [RA] at h
    obtain ⟨b, _, rfl⟩ := h.2 l (objOf_some hl)
    exact ⟨_, rfl, rfl⟩
  · split at e
    · rename_i l hl
      simp only [Option.some.injEq, Prod.mk.injEq] at e; obtain ⟨rfl, rfl⟩ := e
      simp only [RA] at h
      obtain ⟨b, _, rfl⟩ := h.2 _ hl
      exact ⟨_, rfl, rfl⟩
    · cases e
  · simp only [Option.some.injEq, Prod.mk.injEq] at e; obtain ⟨rfl, rfl⟩ := e
    simp only [RA] at h
    obtain ⟨ad, rfl, _⟩ := h
    exact ⟨_, rfl, rfl⟩
  · simp only [Option.some.injEq, Prod.mk.injEq] at e; obtain ⟨rfl, rfl⟩ := e
    simp only [RA, RD] at h
    obtain ⟨ad, rfl, _⟩ := h
    exact ⟨_, rfl, rfl⟩
  · simp only [Option.some.injEq, Prod.mk.injEq] at e; obtain ⟨rfl, rfl⟩ := e
    simp only [RA] at h
    obtain ⟨vs, us, rfl, _⟩ := h
    exact .inr ⟨_, _, _, rfl, rfl⟩
  · simp only [Option.some.injEq, Prod.mk.injEq] at e; obtain ⟨rfl, rfl⟩ := e
    simp only [RA, RD] at h; exact ⟨_, _, _, h.1, rfl⟩
  · rename_i xs
    split at e
    · rename_i hx
      simp only [Option.some.injEq, Prod.mk.injEq] at e; obtain ⟨rfl, rfl⟩ := e
      simp only [RA, RD] at h
      obtain ⟨_, A, c, rfl, _, h0 | ⟨ad, rfl, _⟩⟩ := h
      · rw [h0] at hx; simp at hx
      · exact ⟨_, _, _, rfl, rfl⟩
    · cases e
  · rename_i xs
    split at e
    · rename_i hx
      simp only [Option.some.injEq, Prod.mk.injEq] at e; obtain ⟨rfl, rfl⟩ := e
      simp only [RA] at h
      obtain ⟨_, A, c, rfl, _, h0 | ⟨ad, rfl, _⟩, _⟩ := h
      · rw [h0] at hx; simp at hx
      · exact ⟨_, _, _, rfl, rfl⟩
    · cases e
  · cases e
def kdOf : TypeDesc → Option NK
  | .pointer _ => some .ptr
  | .map _ _ => some .map
  | .func _ _ _ => some .fn
  | .slice _ => some .sl
  | _ => none
theorem nil_run {P : Program} {w : World} {t : TypeId} {d : TypeDesc} (hu : P.underlying t = some d) {k : NK} (hk : kdOf d = some k) {a b : Value} {c : Bool} (ha : NKv k c a) (hb : NKv k true b) (neg : Bool) (ox oy : Operand) :
    (eqGuard (if neg then .neq else .eql) t ox oy a b).run P w = .ok () w ∧ (binOp (if neg then .neq else .eql) t a b).run P w = .ok (.bool (if neg then !c else c)) w := by
  have fin : (∀ m : Nat, (Op.equalIn (m + 1) t a b).run P w = .ok c w) → (binOp (if neg then .neq else .eql) t a b = (if neg then (do pure (.bool (!(← Op.equal t a b)))) else (do pure (.bool (← Op.equal t a b))) : Sem Value)) →
      (binOp (if neg then .neq else .eql) t a b).run P w = .ok (.bool (if neg then !c else c)) w := by
    intro h1 h2
    have k2 : (Op.equal t a b).run P w = .ok c w := h1 9999
    rw [h2]
    cases neg <;> simp [k2]
  cases d <;> simp only [kdOf, Option.some.injEq, reduceCtorEq] at hk
  all_goals subst hk
  rotate_left
  · obtain ⟨A, n1, k1, rfl, hp⟩ := ha
    obtain ⟨B, n2, k2, rfl, hq⟩ := hb
    have hq' : B = none := by simpa using hq
    subst hq'
    refine ⟨by cases neg <;> simp [eqGuard], fin (fun m => ?_) (by cases neg <;> rfl)⟩
    cases A <;> simp [Op.equalIn, run_underlying hu] <;> simpa using hp
  rotate_right
  · obtain ⟨p, rfl, hp⟩ := ha
    obtain ⟨q, rfl, hq⟩ := hb
    have hq' : q = none := by simpa using hq
    subst hq'
    refine ⟨by cases neg <;> simp [eqGuard], fin (fun m => ?_) (by cases neg <;> rfl)⟩
    cases p <;> simp [Op.equalIn, run_underlying hu] <;> simpa using hp
  · obtain ⟨p, rfl, hp⟩ := ha
    obtain ⟨q, rfl, hq⟩ := hb
    have hq' : q = none := by simpa using hq
    subst hq'
    refine ⟨by cases neg <;> simp [eqGuard], fin (fun m => ?_) (by cases neg <;> rfl)⟩
    cases p <;> simp [Op.equalIn, run_underlying hu] <;> simpa using hp
  · have hb' : b = .nilFunc := by
      rcases hb with ⟨h, _⟩ | ⟨_, _, _, _, h⟩
      · exact h
      · cases h
    subst hb'
    rcases ha with ⟨rfl, rfl⟩ | ⟨f, x, y, rfl, rfl⟩
    · refine ⟨by cases neg <;> simp [eqGuard], fin (fun m => ?_) (by cases neg <;> rfl)⟩
      simp [Op.equalIn, run_underlying hu]
    · refine ⟨by cases neg <;> simp [eqGuard], fin (fun m => ?_) (by cases neg <;> rfl)⟩
      simp [Op.equalIn, run_underlying hu]
def evNil (ti : Ti) (r : Rs) (t : TypeId) (neg : Bool) (x y : AV) : Option AV :=
  match ti t, absNil r x, absNil r y with
  | some i, some (k, c), some (k', true) => if kdOf i.u = some k ∧ k = k' then some (.d (.c (.bool (if neg then !c else c)))) else none
  | _, _, _ => none
def isBool (ti : Ti) (t : TypeId) : Bool := match ti t with
  | some ⟨.bool, _, _, _⟩ => true
  | _ => false
theorem isBool_sound {P : Program} {ti : Ti} (hti : TiOK P ti) {t : TypeId} (h : isBool ti t = true) : P.underlying t = some .bool := by
  unfold isBool at h
  split at h
  · rename_i h1; exact ti_u hti h1
  · cases h
def evNilOp (ti : Ti) (r : Rs) (op : BinOp) (t : TypeId) (x y : AV) : Option AV :=
  match op with
  | .eql => (evNil ti r t false x y).or (evEqA ti t false x y)
  | .neq => (evNil ti r t true x y).or (evEqA ti t true x y)
  | _ => none
def oneC (v : Value) : Option AV := chk (v.oneCell' = true) (some (.d (.c v)))
def evBin (ti : Ti) (r : Rs) (op : BinOp) (t : TypeId) (x y : AV) : Option AV :=
  match x, y with
  | .d (.c a), .d (.c b) => match vBin (isBool ti t) op a b with
    | some v => oneC v
    | none => evNilOp ti r op t (.d (.c a)) (.d (.c b))
  | x, y => evNilOp ti r op t x y
theorem evNil_sound {P : Program} {ti : Ti} (hti : TiOK P ti) {E : Env} {r : Rs} {w : World} {t : TypeId} {neg : Bool} {x y v : AV} {a b : Value} (hx : RA E r w x a) (hy : RA E r w y b) (e : evNil ti r t neg x y = some v) (ox oy : Operand) :
    ∃ z, (eqGuard (if neg then .neq else .eql) t ox oy a b).run P w = .ok () w ∧ (binOp (if neg then .neq else .eql) t a b).run P w = .ok z w ∧ RA E r w v z := by
  unfold evNil at e
  split at e
  · rename_i i k c k' hi h1 h2
    split at e
    · rename_i hk
      obtain ⟨hk1, rfl⟩ := hk
      injection e with e; subst e
      obtain ⟨g1, g2⟩ := nil_run (w := w) (ti_u hti hi) hk1 (absNil_sound hx h1) (absNil_sound hy h2) neg ox oy
      exact ⟨_, g1, g2, by simp [RA, RD, Value.oneCell']⟩
    · cases e
  · cases e
theorem evBin_sound {P : Program} {ti : Ti} (hti : TiOK P ti) {E : Env} {r : Rs} {w : World} {op : BinOp} {t : TypeId} {x y v : AV} {a b : Value} (hx : RA E r w x a) (hy : RA E r w y b) (e : evBin ti r op t x y = some v) (ox oy : Operand) :
    ∃ z, (eqGuard op t ox oy a b).run P w = .ok () w ∧ (binOp op t a b).run P w = .ok z w ∧ RA E r w v z := by
  have nil : ∀ x y, RA E r w x a → RA E r w y b → evNilOp ti r op t x y = some v → ∃ z, (eqGuard op t ox oy a b).run P w = .ok () w ∧ (binOp op t a b).run P w = .ok z w ∧ RA E r w v z := by
    intro x y hx hy h
    have both : ∀ neg, (evNil ti r t neg x y).or (evEqA ti t neg x y) = some v → ∃ z, (eqGuard (if neg then .neq else .eql) t ox oy a b).run P w = .ok () w ∧ (binOp (if neg then .neq else .eql) t a b).run P w = .ok z w ∧ RA E r w v z := by
      intro neg h
      rw [Option.or_eq_some_iff] at h
      rcases h with h | ⟨_, h⟩
      · exact evNil_sound hti (neg := neg) hx hy h ox oy
      · obtain ⟨u, rfl, hu⟩ := evEqA_sound hti hx hy h ox oy
        exact ⟨_, (hu w).1, (hu w).2, by simp [RA, RD, Value.oneCell']⟩
    cases op <;> simp only [evNilOp, reduceCtorEq] at h
    · exact both false h
    · exact both true h
  unfold evBin at e
  split at e
  · rename_i va vb
    split at e
    · rename_i u hu
      obtain ⟨h1, e⟩ := chk_some e
      injection e with e; subst e
      have ha : a = va := by simp only [RA, RD] at hx; exact hx.1
      have hb : b = vb := by simp only [RA, RD] at hy; exact hy.1
      subst ha; subst hb
      exact ⟨u, vBin_guard hu ox oy w, vBin_run (fun h => isBool_sound hti h) hu w, by simp [RA, RD, h1]⟩
    · exact nil _ _ hx hy e
  · exact nil _ _ hx hy e

/-! ### Lengths, least and greatest -/
def lenAV (ti : Ti) (r : Rs) (t : TypeId) (x : AV) : Option Int :=
  match ti t, x with
  | some ⟨.string, _, _, _⟩, .d (.c (.string s)) => some s.size
  | some ⟨.slice _, _, _, _⟩, .d (.sl _ n _) => some n
  | some ⟨.slice _, _, _, _⟩, .d (.c (.slice none 0 0)) => some 0
  | some ⟨.slice _, _, _, _⟩, .sl _ _ n _ => some n
  | some ⟨.slice _, _, _, _⟩, .osl _ _ _ n => some n
  | some ⟨.slice _, _, _, _⟩, .csl _ _ _ n _ => some n
  | some ⟨.map _ _, _, _, _⟩, .d (.c (.map none)) => some 0
  | some ⟨.map _ _, _, _, _⟩, .mp i => match r[i]? with | some (some (.mpx (.m l))) => some l.length | _ => none
  | _, _ => none
theorem lenAV_sound {P : Program} {ti : Ti} (hti : TiOK P ti) {G : GR} {E : Env} {r : Rs} {w : World} (hG : Good G E r w) {t ty : TypeId} {x : AV} {a : Value} {n : Int} (hx : RA E r w x a) (e : lenAV ti r t x = some n) :
    (Builtin.len_ #[t] ty #[a]).run P w = .ok (.int .i64 n) w := by
  unfold lenAV at e
  split at e
  all_goals first
    | (cases e; done)
    | (rename_i hi; have hut := ti_run hti hi w)
  · injection e with e; subst e
    simp only [RA, RD] at hx; obtain ⟨rfl, _⟩ := hx
    simp [Builtin.len_, hut, goInt]
  · injection e with e; subst e
    simp only [RA, RD] at hx; obtain ⟨_, A, c, rfl, _⟩ := hx
    simp [Builtin.len_, hut, goInt]
  · injection e with e; subst e
    simp only [RA, RD] at hx; obtain ⟨rfl, _⟩ := hx
    simp [Builtin.len_, hut, goInt]
  · injection e with e; subst e
    simp only [RA] at hx; obtain ⟨_, A, c, rfl, _⟩ := hx
    simp [Builtin.len_, hut, goInt]
  · injection e with e; subst e
    simp only [RA] at hx; obtain ⟨_, A, c, rfl, _⟩ := hx
    simp [Builtin.len_, hut, goInt]
  · injection e with e; subst e
    simp only [RA] at hx; obtain ⟨_, A, rfl, _⟩ := hx
    simp [Builtin.len_, hut, goInt]
  · injection e with e; subst e
    simp only [RA, RD] at hx; obtain ⟨rfl, _⟩ := hx
    simp [Builtin.len_, hut, goInt]
  · split at e
    · rename_i l hl
      injection e with e; subst e
      simp only [RA] at hx
      obtain ⟨b, hb, rfl⟩ := hx.2 _ hl
      obtain ⟨b', hb', _, es, cl, hh, hsz, _⟩ := hG.map _ _ hl
      rw [hb] at hb'; injection hb' with hb'; subst hb'
      simp [Builtin.len_, hut, goInt, getObj, Sem.run, hh, hsz]
    · cases e
def minAV (mx : Bool) (x y : AV) : Option AV :=
  match x, y with
  | .d (.c (.int k a)), .d (.c (.int k' b)) => if k = k' then some (.d (.c (.int k (if mx then (if b > a then b else a) else (if b < a then b else a))))) else none
  | _, _ => none
theorem minAV_sound {P : Program} {E : Env} {r : Rs} {w : World} {mx : Bool} {ty : TypeId} {ts : Array TypeId} {x y v : AV} {a b : Value} (hx : RA E r w x a) (hy : RA E r w y b) (e : minAV mx x y = some v) :
    ∃ z, (if mx then Builtin.max_ ts ty #[a, b] else Builtin.min_ ts ty #[a, b]).run P w = .ok z w ∧ RA E r w v z := by
  unfold minAV at e
  split at e
  · split at e
    · rename_i hk; subst hk
      injection e with e; subst e
      simp only [RA, RD] at hx hy
      obtain ⟨rfl, _⟩ := hx
      obtain ⟨rfl, _⟩ := hy
      refine ⟨_, ?_, by simp only [RA, RD]; exact ⟨rfl, rfl⟩⟩
      cases mx <;> simp [Builtin.max_, Builtin.min_, Builtin.max2, Builtin.min2]
    · cases e
  · cases e

/-! ### Reading an index, a field -/
def evIndex (ti : Ti) (t : TypeId) (x : AV) (i : Int) : Option AV :=
  match ti t, x with
  | some ⟨.string, _, _, _⟩, .d (.c (.string s)) => chk (0 ≤ i ∧ i < s.size) (some (.d (.c (.int .u8 (sB s i.toNat)))))
  | some ⟨.array n e, _, _, _⟩, .d (.agg xs) => match ti e with
    | some ie => chk (0 ≤ i ∧ i < n) (if isAggD ie.u = true then chk (i.toNat * ie.size + ie.size ≤ xs.length) (some (.d (.agg ((xs.drop (i.toNat * ie.size)).take ie.size)))) else (xs[i.toNat * ie.size]?).map .d)
    | none => none
  | some ⟨.array n e, _, _, _⟩, .agg l => match ti e with
    | some ie => chk (0 ≤ i ∧ i < n) (if isAggD ie.u = true then chk (i.toNat * ie.size + ie.size ≤ l.length) (some (mkAgg ((l.drop (i.toNat * ie.size)).take ie.size))) else l[i.toNat * ie.size]?)
    | none => none
  | _, _ => none
theorem part_run {P : Program} {ti : Ti} (hti : TiOK P ti) {T : Nat → Nat} {w : World} {e : TypeId} {ie : TI} (hie : ti e = some ie) {xs : List D} {vs : Array Value} (hr : RL T w xs vs.toList) {off : Nat} {v : D}
    (h : (if isAggD ie.u = true then chk (off + ie.size ≤ xs.length) (some (D.agg ((xs.drop off).take ie.size))) else xs[off]?) = some v) : ∃ z, (∀ w', (part e vs off).run P w' = .ok z w') ∧ RD T w v z := by
  have hag := fun w' => ti_agg (P := P) hti hie w'
  have hsz := fun w' => ti_size (P := P) hti hie w'
  split at h
  · rename_i hagg
    obtain ⟨h0, h⟩ := chk_some h
    injection h with h; subst h
    simp only [hagg] at hag
    refine ⟨.agg (vs.extract off (off + ie.size)), fun w' => by simp [part, hag, hsz], ?_⟩
    simp only [RD]
    refine ⟨_, rfl, ?_⟩
    have : (vs.extract off (off + ie.size)).toList = (vs.toList.drop off).take ie.size := by simp [List.extract_eq_take_drop]
    rw [this]
    exact RL_take _ _ (RL_drop xs _ hr off) _
  · rename_i hagg
    have hag' : isAggD ie.u = false := by simpa using hagg
    simp only [hag'] at hag
    obtain ⟨z, hz, _, hzr⟩ := RL_get xs _ hr off v h
    have hz' : vs[off]? = some z := by simpa using hz
    exact ⟨z, fun w' => by simp [part, hag, hz'], hzr⟩
theorem evIndex_sound {P : Program} {ti : Ti} (hti : TiOK P ti) {E : Env} {r : Rs} {w : World} {t : TypeId} {x v : AV} {y : Value} {kd : IntKind} {i : Int} (hx : RA E r w x y) (e : evIndex ti t x i = some v) :
    ∃ z, (Instr.index t y (.int kd i)).run P w = .ok z w ∧ RA E r w v z := by
  unfold evIndex at e
  split at e
  · rename_i s hte
    obtain ⟨⟨h0, h1⟩, e⟩ := chk_some e
    injection e with e; subst e
    simp only [RA, RD] at hx; obtain ⟨rfl, _⟩ := hx
    have hut := ti_run hti hte w
    have hb : s[i.toNat]? = some (s[i.toNat]'(by omega)) := getElem?_pos s i.toNat (by omega)
    refine ⟨.int .u8 (s[i.toNat]'(by omega)).toNat, by simp [Instr.index, asIntOf, hut, h0, hb], ?_⟩
    simp only [RA, RD, sB]
    refine ⟨?_, rfl⟩
    rw [Go.ByteArray.toList_eq]
    congr 2
    have : i.toNat < s.data.toList.length := by simp only [Array.length_toList]; show i.toNat < s.size; omega
    rw [List.getD_eq_getElem?_getD, List.getElem?_eq_getElem this]
    rfl
  · rename_i n el _ _ _ xs hte
    split at e
    · rename_i ie hie
      obtain ⟨⟨h0, h1⟩, e⟩ := chk_some e
      simp only [RA, RD] at hx; obtain ⟨vs, rfl, hr⟩ := hx
      have hut := ti_run hti hte w
      have hsz := ti_size hti hie w
      have e' : ∃ d, (if isAggD ie.u = true then chk (i.toNat * ie.size + ie.size ≤ xs.length) (some (D.agg ((xs.drop (i.toNat * ie.size)).take ie.size))) else xs[i.toNat * ie.size]?) = some d ∧ v = .d d := by
        split at e
        · rename_i hagg
          obtain ⟨h2, e⟩ := chk_some e
          injection e with e
          exact ⟨_, by rw [if_pos hagg, chk_pos h2], e.symm⟩
        · rename_i hagg
          simp only [Option.map_eq_some_iff] at e
          obtain ⟨d, hd, rfl⟩ := e
          exact ⟨d, by rw [if_neg hagg]; exact hd, rfl⟩
      obtain ⟨d, hd, rfl⟩ := e'
      obtain ⟨z, hz, hzr⟩ := part_run hti hie hr hd
      exact ⟨z, by simp [Instr.index, asIntOf, hut, h0, h1, hsz, hz], by simpa [RA] using hzr⟩
    · cases e
  · rename_i n el _ _ _ l hte
    split at e
    · rename_i ie hie
      obtain ⟨⟨h0, h1⟩, e⟩ := chk_some e
      simp only [RA] at hx; obtain ⟨vs, rfl, hr, hone⟩ := hx
      have hut := ti_run hti hte w
      have hag := ti_agg (P := P) hti hie w
      have hsz := ti_size hti hie w
      split at e
      · rename_i hagg
        obtain ⟨h2, e⟩ := chk_some e
        injection e with e; subst e
        simp only [hagg] at hag
        refine ⟨.agg (vs.extract (i.toNat * ie.size) (i.toNat * ie.size + ie.size)), by simp [Instr.index, asIntOf, hut, h0, h1, hsz, part, hag], ?_⟩
        have hx : (vs.extract (i.toNat * ie.size) (i.toNat * ie.size + ie.size)).toList = (vs.toList.drop (i.toNat * ie.size)).take ie.size := by simp [List.extract_eq_take_drop]
        refine mkAgg_sound (by rw [hx]; exact RAL_take _ _ (RAL_drop l _ hr _) _) ?_
        rw [hx]
        intro u hu
        exact hone u (List.mem_of_mem_drop (List.mem_of_mem_take hu))
      · rename_i hagg
        have hag' : isAggD ie.u = false := by simpa using hagg
        simp only [hag'] at hag
        obtain ⟨z, hz, hzr⟩ := RAL_get l _ hr _ v e
        have hz' : vs[i.toNat * ie.size]? = some z := by simpa using hz
        exact ⟨z, by simp [Instr.index, asIntOf, hut, h0, h1, hsz, part, hag, hz'], hzr⟩
    · cases e
  · cases e
def evField (ti : Ti) (t : TypeId) (x : AV) (f : Nat) : Option AV :=
  match fieldOf ti t f with
  | some (off, ft) => match ti ft, x with
    | some ie, .d (.agg xs) => (if isAggD ie.u = true then chk (off + ie.size ≤ xs.length) (some (D.agg ((xs.drop off).take ie.size))) else xs[off]?).map .d
    | some ie, .agg l => if isAggD ie.u = true then chk (off + ie.size ≤ l.length) (some (mkAgg ((l.drop off).take ie.size))) else l[off]?
    | _, _ => none
  | none => none
theorem evField_sound {P : Program} {ti : Ti} (hti : TiOK P ti) {E : Env} {r : Rs} {w : World} {t : TypeId} {x v : AV} {y : Value} {f : Nat} (hx : RA E r w x y) (e : evField ti t x f = some v) :
    ∃ z, (∀ w', (Instr.field t y f).run P w' = .ok z w') ∧ RA E r w v z := by
  unfold evField at e
  split at e
  · rename_i off ft hf
    unfold fieldOf at hf
    split at hf
    · rename_i fs _ _ _ hte
      simp only [Option.map_eq_some_iff, Prod.mk.injEq] at hf
      obtain ⟨fld, hfld, rfl, rfl⟩ := hf
      have hut := fun w' => ti_run (P := P) hti hte w'
      split at e
      · rename_i ie xs hie
        simp only [Option.map_eq_some_iff] at e
        obtain ⟨d, hd, rfl⟩ := e
        simp only [RA, RD] at hx; obtain ⟨vs, rfl, hr⟩ := hx
        obtain ⟨z, hz, hzr⟩ := part_run hti hie hr hd
        exact ⟨z, fun w' => by simp [Instr.field, hut, hfld, asAgg, hz], by simpa [RA] using hzr⟩
      · rename_i ie l hie
        simp only [RA] at hx; obtain ⟨vs, rfl, hr, h1⟩ := hx
        have hag := fun w' => ti_agg (P := P) hti hie w'
        have hsz := fun w' => ti_size (P := P) hti hie w'
        split at e
        · rename_i hagg
          obtain ⟨h0, e⟩ := chk_some e
          injection e with e; subst e
          simp only [hagg] at hag
          refine ⟨.agg (vs.extract fld.offset (fld.offset + ie.size)), fun w' => by simp [Instr.field, hut, hfld, asAgg, part, hag, hsz], ?_⟩
          have hx : (vs.extract fld.offset (fld.offset + ie.size)).toList = (vs.toList.drop fld.offset).take ie.size := by simp [List.extract_eq_take_drop]
          refine mkAgg_sound (by rw [hx]; exact RAL_take _ _ (RAL_drop l _ hr _) _) ?_
          rw [hx]
          intro u hu
          exact h1 u (List.mem_of_mem_drop (List.mem_of_mem_take hu))
        · rename_i hagg
          have hag' : isAggD ie.u = false := by simpa using hagg
          simp only [hag'] at hag
          obtain ⟨z, hz, hzr⟩ := RAL_get l _ hr _ v e
          have hz' : vs[fld.offset]? = some z := by simpa using hz
          exact ⟨z, fun w' => by simp [Instr.field, hut, hfld, asAgg, part, hag, hz'], hzr⟩
      · cases e
    · cases hf
  · cases e
end Go.Proofs.Ythdjblfiiogmgaa
/- The frame of these proofs, part K: an operation that only computes. -/
set_option linter.unusedVariables false
set_option linter.unusedSimpArgs false
namespace Go.Proofs.Ythdjblfiiogmgaa
open Go

def evCall (ti : Ti) (ρ : Operand → AV) (r : Rs) (c : Call) : Option AV :=
  match c.callee with
  | .builtin .len => match c.args.toList, c.argTypes.toList with
    | [x], [t] => (lenAV ti r t (ρ x)).map fun n => .d (.c (.int .i64 n))
    | _, _ => none
  | .builtin .min => match c.args.toList with
    | [x, y] => minAV false (ρ x) (ρ y)
    | _ => none
  | .builtin .max => match c.args.toList with
    | [x, y] => minAV true (ρ x) (ρ y)
    | _ => none
  | _ => none
def evNC (r : Rs) : AV → Option AV
  | .ptr i off => (objOf r i).map fun _ => .ptr i off
  | .el xs => some (.el xs)
  | .d (.p xs) => some (.el xs)
  | .fn (.func f) a b => some (.fn (.func f) a b)
  | _ => none
def evPick (c a b : AV) : Option AV := match c with
  | .d (.c (.bool t)) => some (if t = true then a else b)
  | _ => none
def evUn (op : UnOp) : AV → Option AV
  | .d (.c v) => (vUn op v).bind oneC
  | _ => none
def evExt (i : Nat) : AV → Option AV
  | .tup l => l[i]?
  | _ => none
def evP (ti : Ti) (ρ : Operand → AV) (r : Rs) : Op → Option AV
  | .move x => some (ρ x)
  | .assign x => some (ρ x)
  | .pick c a b => evPick (ρ c) (ρ a) (ρ b)
  | .binOp op t x y _ => evBin ti r op t (ρ x) (ρ y)
  | .unOp op _ x => evUn op (ρ x)
  | .convert s d x => evConv ti s d (ρ x)
  | .nilCheck x => evNC r (ρ x)
  | .extract t i => evExt i (ρ t)
  | .slice t x lo hi mx => match optI (lo.map ρ), optI (hi.map ρ), optI (mx.map ρ) with
    | some l, some h, some m => evSlice ti r t (ρ x) l h m
    | _, _, _ => none
  | .index t x i => match intOfA (ρ i) with
    | some n => evIndex ti t (ρ x) n
    | none => none
  | .indexAddr t x i => match intOfA (ρ i) with
    | some n => evIndexAddr ti r t (ρ x) n
    | none => none
  | .fieldAddr t x f => evFieldAddr ti r t (ρ x) f
  | .field t x f => evField ti t (ρ x) f
  | .load t x => evLoad ti r t (ρ x)
  | .makeFunc f a b => some (.fn f (a.toList.map ρ) (b.toList.map ρ))
  | .build t parts => evBuild ti r t (parts.toList.map fun p => (p.1, ρ p.2))
  | .call c => evCall ti ρ r c
  | _ => none

theorem optI_sound' {E : Env} {r : Rs} {w : World} {ρ : Operand → AV} {α : Operand → Value} (hev : ∀ x, RA E r w (ρ x) (α x)) {o : Option Operand} {i : Option Int} (e : optI (o.map ρ) = some i) : IsI (o.map α) i := by
  cases o with
  | none => simp only [Option.map_none, optI] at e; injection e with e; subst e; rfl
  | some o =>
    simp only [Option.map_some, optI, Option.map_eq_some_iff] at e
    obtain ⟨n, hn, rfl⟩ := e
    obtain ⟨k, hk⟩ := intOfA_sound (hev o) hn
    exact ⟨k, by simp [hk]⟩
theorem RAL_ev {E : Env} {r : Rs} {w : World} {ρ : Operand → AV} {α : Operand → Value} (hev : ∀ x, RA E r w (ρ x) (α x)) : ∀ l : List Operand, RAL E r w (l.map ρ) (l.map α)
  | [] => by simp [RAL]
  | x :: l => by simp only [List.map_cons, RAL]; exact ⟨_, _, rfl, hev x, RAL_ev hev l⟩
theorem RP_ev {E : Env} {r : Rs} {w : World} {ρ : Operand → AV} {α : Operand → Value} (hev : ∀ x, RA E r w (ρ x) (α x)) : ∀ l : List (Nat × Operand), RP E r w (l.map fun p => (p.1, ρ p.2)) (l.map fun p => (p.1, α p.2))
  | [] => by simp [RP]
  | x :: l => by simp only [List.map_cons, RP]; exact ⟨_, _, rfl, hev x.2, RP_ev hev l⟩
theorem toList_one {α : Type} {a : Array α} {x : α} (h : a.toList = [x]) : a = #[x] := by cases a; simp_all
theorem toList_two {α : Type} {a : Array α} {x y : α} (h : a.toList = [x, y]) : a = #[x, y] := by cases a; simp_all

theorem evP_sound {P : Program} {ti : Ti} (hti : TiOK P ti) {G : GR} {E : Env} {r : Rs} {w : World} (hG : Good G E r w) {ρ : Operand → AV} {α : Operand → Value} (hev : ∀ x, RA E r w (ρ x) (α x))
    {o : Oper} {v : AV} (e : evP ti ρ r o.op = some v) : ∃ z, (execOp α o).run P w = .ok (.value z) w ∧ RA E r w v z := by
  cases ho : o.op <;> rw [ho] at e <;> simp only [evP, reduceCtorEq] at e
  case move x => injection e with e; subst e; exact ⟨_, by simp [execOp, ho], hev x⟩
  case assign x => injection e with e; subst e; exact ⟨_, by simp [execOp, ho], hev x⟩
  case pick c a b =>
    unfold evPick at e
    split at e
    · rename_i t ht
      injection e with e; subst e
      have hc := hev c
      rw [ht] at hc
      simp only [RA, RD] at hc
      refine ⟨if t = true then α a else α b, by simp [execOp, ho, hc.1, asBool], ?_⟩
      cases t
      · simpa using hev b
      · simpa using hev a
    · cases e
  case binOp op t x y ty =>
    obtain ⟨z, h1, h2, h3⟩ := evBin_sound hti (hev x) (hev y) e x y
    exact ⟨z, by simp [execOp, ho, h1, h2], h3⟩
  case unOp op t x =>
    unfold evUn at e
    split at e
    · rename_i v' hv'
      simp only [Option.bind_eq_some_iff] at e
      obtain ⟨u, hu, e⟩ := e
      obtain ⟨h1, e⟩ := chk_some e
      injection e with e; subst e
      have hx := hev x
      rw [hv'] at hx
      simp only [RA, RD] at hx
      exact ⟨u, by simp [execOp, ho, hx.1, vUn_run hu w], by simp [RA, RD, h1]⟩
    · cases e
  case convert s d x =>
    obtain ⟨z, h1, h2⟩ := evConv_sound hti (hev x) e
    exact ⟨z, by simp [execOp, ho, h1], h2⟩
  case nilCheck x =>
    unfold evNC at e
    have hx := hev x
    split at e
    · rename_i i off hio
      simp only [Option.map_eq_some_iff] at e
      obtain ⟨l, hl, rfl⟩ := e
      rw [hio] at hx
      have hx' := hx
      simp only [RA] at hx'
      obtain ⟨b, hb, hp⟩ := hx'.2 l (objOf_some hl)
      exact ⟨α x, by simp [execOp, ho, hp], hx⟩
    · rename_i xs hxs
      injection e with e; subst e
      rw [hxs] at hx
      have hx' := hx
      simp only [RA] at hx'
      obtain ⟨ad, hp, _⟩ := hx'
      exact ⟨α x, by simp [execOp, ho, hp], hx⟩
    · rename_i xs hxs
      injection e with e; subst e
      rw [hxs] at hx
      simp only [RA, RD] at hx
      obtain ⟨ad, hp, hm⟩ := hx
      exact ⟨α x, by simp [execOp, ho, hp], by simp only [RA]; exact ⟨ad, hp, hm⟩⟩
    · rename_i f a b hf
      injection e with e; subst e
      rw [hf] at hx
      have hx' := hx
      simp only [RA] at hx'
      obtain ⟨vs, us, hp, _⟩ := hx'
      exact ⟨α x, by simp [execOp, ho, hp], hx⟩
    · cases e
  case extract t i =>
    unfold evExt at e
    split at e
    · rename_i l hl
      have ht := hev t
      rw [hl] at ht
      simp only [RA] at ht
      obtain ⟨vs, hp, hr⟩ := ht
      obtain ⟨z, hz, hzr⟩ := RAL_get l _ hr i v e
      have hz' : vs[i]? = some z := by simpa using hz
      exact ⟨z, by simp [execOp, ho, hp, Instr.extract, hz'], hzr⟩
    · cases e
  case slice t x lo hi mx =>
    split at e
    · rename_i l h m hl hh hm
      obtain ⟨z, h1, h2⟩ := evSlice_sound hti hG (hev x) (optI_sound' hev hl) (optI_sound' hev hh) (optI_sound' hev hm) e
      exact ⟨z, by simp [execOp, ho, h1], h2⟩
    · cases e
  case index t x i =>
    split at e
    · rename_i n hn
      obtain ⟨k, hk⟩ := intOfA_sound (hev i) hn
      obtain ⟨z, h1, h2⟩ := evIndex_sound hti (kd := k) (hev x) e
      exact ⟨z, by simp [execOp, ho, hk, h1], h2⟩
    · cases e
  case indexAddr t x i =>
    split at e
    · rename_i n hn
      obtain ⟨k, hk⟩ := intOfA_sound (hev i) hn
      obtain ⟨z, h1, h2⟩ := evIndexAddr_sound hti (kd := k) (hev x) e
      exact ⟨z, by simp [execOp, ho, hk, h1], h2⟩
    · cases e
  case fieldAddr t x f =>
    obtain ⟨z, h1, h2⟩ := evFieldAddr_sound hti (hev x) e
    exact ⟨z, by simp [execOp, ho, h1], h2⟩
  case field t x f =>
    obtain ⟨z, h1, h2⟩ := evField_sound hti (hev x) e
    exact ⟨z, by simp [execOp, ho, h1], h2⟩
  case load t x =>
    obtain ⟨z, h1, h2⟩ := evLoad_sound (P := P) hti hG (hev x) e
    exact ⟨z, by simp [execOp, ho, h1 w (Keeps.refl w)], h2⟩
  case makeFunc f a b =>
    injection e with e; subst e
    refine ⟨.func f (a.map α) (b.map α), by simp [execOp, ho, Instr.makeFunc], ?_⟩
    simp only [RA]
    exact ⟨_, _, rfl, by simpa using RAL_ev hev a.toList, by simpa using RAL_ev hev b.toList⟩
  case build t parts =>
    obtain ⟨z, h1, h2⟩ := evBuild_sound hti hG (pv := parts.map fun p => (p.1, α p.2)) (by simpa using RP_ev hev parts.toList) e
    exact ⟨z, by simp [execOp, ho, h1], h2⟩
  case call c =>
    unfold evCall at e
    split at e
    · rename_i hc
      split at e
      · rename_i x t hx ht
        simp only [Option.map_eq_some_iff] at e
        obtain ⟨n, hn, rfl⟩ := e
        have h1 := lenAV_sound (P := P) (ty := o.type) hti hG (hev x) hn
        exact ⟨.int .i64 n, by simp [execOp, ho, resolve, hc, toList_one hx, toList_one ht, invoke, builtin, h1], by simp [RA, RD, Value.oneCell']⟩
      · cases e
    · rename_i hc
      split at e
      · rename_i x y hx
        obtain ⟨z, h1, h2⟩ := minAV_sound (P := P) (mx := false) (ty := o.type) (ts := c.argTypes) (hev x) (hev y) e
        simp only [Bool.false_eq_true, if_false] at h1
        exact ⟨z, by simp [execOp, ho, resolve, hc, toList_two hx, invoke, builtin, h1], h2⟩
      · cases e
    · rename_i hc
      split at e
      · rename_i x y hx
        obtain ⟨z, h1, h2⟩ := minAV_sound (P := P) (mx := true) (ty := o.type) (ts := c.argTypes) (hev x) (hev y) e
        simp only [if_true] at h1
        exact ⟨z, by simp [execOp, ho, resolve, hc, toList_two hx, invoke, builtin, h1], h2⟩
      · cases e
    · cases e
end Go.Proofs.Ythdjblfiiogmgaa
