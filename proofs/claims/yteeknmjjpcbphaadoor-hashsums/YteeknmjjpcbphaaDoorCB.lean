/- The frame of these proofs, part B: what stands in a slot, what a call has of its own (growing rows, structs behind pointers), and steps from world to world. -/
import Derived.Test.YteeknmjjpcbphaaDoorCA
set_option linter.unusedVariables false
set_option linter.unusedSimpArgs false
namespace Go.Proofs.YteeknmjjpcbphaaDoor
open Go

/-- How a slice may be appended to: never in place (it is full), or in place as long as it is the row's newest end; 'sp': what its spare places hold is known. -/
inductive Mo where
  | full
  | own (i : Nat)
  | sp (ys : List D)

/-- What stands in a slot. -/
inductive AV where
  | d (x : D)
  | sl (m : Mo) (sz n : Nat) (xs : List D)
  | ptr (i off : Nat)
  | el (xs : List D)
  | osl (i off sz n : Nat)
  | tup (l : List AV)
  | agg (l : List AV)
  | fn (f : Fn) (first cap : List AV)
  | mp (i : Nat)
  | top

/-- What a call has of its own: a row that grows (its cells so far), a struct or array that is written, a map. -/
inductive Res where
  | tok (k : Nat)
  | obj (l : List AV)
  | map (l : List (Value × D))

abbrev Rs := List (Option Res)

structure Env where
  T : Nat → Nat
  bl : Nat → Option Nat

def MoOK (E : Env) (r : Rs) (w : World) (sz n len : Nat) (A : Option Addr) (c : Nat) : Mo → Prop
  | .full => c = n
  | .own i => i < r.length ∧ ∀ k, r[i]? = some (some (.tok k)) → len ≤ k ∧ (len = k → match E.bl i with
      | none => c = n
      | some b => A = some ⟨b, 0, none⟩ ∧ ∃ e, w.shape? b = some (e, c * sz))
  | .sp ys => ∃ k, ys.length = k * sz ∧ n + k ≤ c ∧ (ys = [] ∨ ∃ ad, A = some ad ∧ RM E.T w ys (ad.add len))

mutual
def RA (E : Env) (r : Rs) (w : World) : AV → Value → Prop
  | .d y, x => RD E.T w y x
  | .sl m sz n xs, x => xs.length = n * sz ∧ ∃ A c, x = .slice A n c ∧ n ≤ c ∧ (xs = [] ∨ ∃ ad, A = some ad ∧ RM E.T w xs ad) ∧ MoOK E r w sz n xs.length A c m
  | .ptr i off, x => i < r.length ∧ ∀ l, r[i]? = some (some (.obj l)) → ∃ b, E.bl i = some b ∧ x = .pointer (some ⟨b, off, none⟩)
  | .el xs, x => ∃ ad, x = .pointer (some ad) ∧ RM E.T w xs ad
  | .osl i off sz n, x => i < r.length ∧ ∃ A c, x = .slice A n c ∧ n ≤ c ∧ ∀ l, r[i]? = some (some (.obj l)) → off + n * sz ≤ l.length ∧ (0 < n → ∃ b, E.bl i = some b ∧ A = some ⟨b, off, none⟩)
  | .tup l, x => ∃ vs : Array Value, x = .tuple vs ∧ RAL E r w l vs.toList
  | .agg l, x => ∃ vs : Array Value, x = .agg vs ∧ RAL E r w l vs.toList ∧ ∀ u ∈ vs.toList, u.oneCell' = true
  | .fn f first cap, x => ∃ vs us : Array Value, x = .func f vs us ∧ RAL E r w first vs.toList ∧ RAL E r w cap us.toList
  | .mp i, x => i < r.length ∧ ∀ l, r[i]? = some (some (.map l)) → ∃ b, E.bl i = some b ∧ x = .map (some b)
  | .top, _ => True
def RAL (E : Env) (r : Rs) (w : World) : List AV → List Value → Prop
  | [], vs => vs = []
  | d :: ds, vs => ∃ v rest, vs = v :: rest ∧ RA E r w d v ∧ RAL E r w ds rest
end

/-- The names of what a call has last: no new name takes an old one's place. -/
structure Names (E : Env) (r : Rs) (E' : Env) (r' : Rs) : Prop where
  len : r.length ≤ r'.length
  tok : ∀ i k', i < r.length → r'[i]? = some (some (.tok k')) → ∃ k, r[i]? = some (some (.tok k)) ∧ k ≤ k' ∧ (k' = k → E'.bl i = E.bl i)
  obj : ∀ i l', i < r.length → r'[i]? = some (some (.obj l')) → ∃ l, r[i]? = some (some (.obj l)) ∧ l.length = l'.length ∧ E'.bl i = E.bl i
  map : ∀ i l', i < r.length → r'[i]? = some (some (.map l')) → ∃ l, r[i]? = some (some (.map l)) ∧ E'.bl i = E.bl i
theorem Names.refl (E : Env) (r : Rs) : Names E r E r :=
  ⟨Nat.le_refl _, fun i k' _ h => ⟨k', h, Nat.le_refl _, fun _ => rfl⟩, fun i l' _ h => ⟨l', h, rfl, rfl⟩, fun i l' _ h => ⟨l', h, rfl⟩⟩
theorem Names.trans {E E' E'' : Env} {r r' r'' : Rs} (h : Names E r E' r') (k : Names E' r' E'' r'') : Names E r E'' r'' := by
  refine ⟨Nat.le_trans h.len k.len, fun i k' hi hr => ?_, fun i l' hi hr => ?_, fun i l' hi hr => ?_⟩
  · obtain ⟨k1, hk1, hle1, he1⟩ := k.tok i k' (Nat.lt_of_lt_of_le hi h.len) hr
    obtain ⟨k2, hk2, hle2, he2⟩ := h.tok i k1 hi hk1
    exact ⟨k2, hk2, Nat.le_trans hle2 hle1, fun he => (he1 (by omega)).trans (he2 (by omega))⟩
  · obtain ⟨l1, hl1, hn1, he1⟩ := k.obj i l' (Nat.lt_of_lt_of_le hi h.len) hr
    obtain ⟨l2, hl2, hn2, he2⟩ := h.obj i l1 hi hl1
    exact ⟨l2, hl2, hn2.trans hn1, he1.trans he2⟩
  · obtain ⟨l1, hl1, he1⟩ := k.map i l' (Nat.lt_of_lt_of_le hi h.len) hr
    obtain ⟨l2, hl2, he2⟩ := h.map i l1 hi hl1
    exact ⟨l2, hl2, he1.trans he2⟩

def ShapeLasts (w w' : World) : Prop := ∀ b s, w.shape? b = some s → w'.shape? b = some s
theorem ShapeLasts.refl (w : World) : ShapeLasts w w := fun _ _ h => h
theorem ShapeLasts.trans {w w' w'' : World} (h : ShapeLasts w w') (k : ShapeLasts w' w'') : ShapeLasts w w'' := fun b s hs => k b s (h b s hs)

theorem MoOK.lasts {E E' : Env} {r r' : Rs} {w w' : World} (hL : Lasts E.T w E'.T w') (hN : Names E r E' r') (hS : ShapeLasts w w') {sz n len : Nat} {A : Option Addr} {c : Nat} : ∀ {m : Mo}, MoOK E r w sz n len A c m → MoOK E' r' w' sz n len A c m
  | .full, h => h
  | .sp ys, h => by
    obtain ⟨k, h1, h2, h3⟩ := h
    refine ⟨k, h1, h2, ?_⟩
    rcases h3 with h3 | ⟨ad, h3, h4⟩
    · exact .inl h3
    · exact .inr ⟨ad, h3, RM.lasts hL _ _ h4⟩
  | .own i, h => by
    refine ⟨Nat.lt_of_lt_of_le h.1 hN.len, fun k' hk' => ?_⟩
    obtain ⟨k, hk, hle, he⟩ := hN.tok i k' h.1 hk'
    obtain ⟨h1, h2⟩ := h.2 k hk
    refine ⟨Nat.le_trans h1 hle, fun hl => ?_⟩
    have hkk : k' = k := by omega
    rw [he hkk]
    have := h2 (by omega)
    cases hb : E.bl i with
    | none => rw [hb] at this; exact this
    | some b =>
      rw [hb] at this
      obtain ⟨ha, e, hs⟩ := this
      exact ⟨ha, e, hS _ _ hs⟩

mutual
theorem RA.lasts {E E' : Env} {r r' : Rs} {w w' : World} (hL : Lasts E.T w E'.T w') (hN : Names E r E' r') (hS : ShapeLasts w w') : ∀ (a : AV) (x : Value), RA E r w a x → RA E' r' w' a x
  | .d y, x, h => by simp only [RA] at h ⊢; exact RD.lasts hL y x h
  | .sl m sz n xs, x, h => by
    simp only [RA] at h ⊢
    obtain ⟨hl, A, c, rfl, hc, hr, hm⟩ := h
    refine ⟨hl, A, c, rfl, hc, ?_, hm.lasts hL hN hS⟩
    rcases hr with h0 | ⟨ad, rfl, hrm⟩
    · exact .inl h0
    · exact .inr ⟨ad, rfl, RM.lasts hL xs ad hrm⟩
  | .ptr i off, x, h => by
    simp only [RA] at h ⊢
    refine ⟨Nat.lt_of_lt_of_le h.1 hN.len, fun l' hl' => ?_⟩
    obtain ⟨l, hl, _, he⟩ := hN.obj i l' h.1 hl'
    rw [he]
    exact h.2 l hl
  | .el xs, x, h => by
    simp only [RA] at h ⊢
    obtain ⟨ad, rfl, hm⟩ := h
    exact ⟨ad, rfl, RM.lasts hL xs ad hm⟩
  | .osl i off sz n, x, h => by
    simp only [RA] at h ⊢
    obtain ⟨h1, A, c, rfl, hc, h2⟩ := h
    refine ⟨Nat.lt_of_lt_of_le h1 hN.len, A, c, rfl, hc, fun l' hl' => ?_⟩
    obtain ⟨l, hl, hn, he⟩ := hN.obj i l' h1 hl'
    rw [he, ← hn]
    exact h2 l hl
  | .tup l, x, h => by
    simp only [RA] at h ⊢
    obtain ⟨vs, rfl, hr⟩ := h
    exact ⟨vs, rfl, RAL.lasts hL hN hS l _ hr⟩
  | .agg l, x, h => by
    simp only [RA] at h ⊢
    obtain ⟨vs, rfl, hr, h1⟩ := h
    exact ⟨vs, rfl, RAL.lasts hL hN hS l _ hr, h1⟩
  | .fn f first cap, x, h => by
    simp only [RA] at h ⊢
    obtain ⟨vs, us, rfl, h1, h2⟩ := h
    exact ⟨vs, us, rfl, RAL.lasts hL hN hS first _ h1, RAL.lasts hL hN hS cap _ h2⟩
  | .mp i, x, h => by
    simp only [RA] at h ⊢
    refine ⟨Nat.lt_of_lt_of_le h.1 hN.len, fun l' hl' => ?_⟩
    obtain ⟨l, hl, he⟩ := hN.map i l' h.1 hl'
    rw [he]
    exact h.2 l hl
  | .top, _, _ => by simp [RA]
theorem RAL.lasts {E E' : Env} {r r' : Rs} {w w' : World} (hL : Lasts E.T w E'.T w') (hN : Names E r E' r') (hS : ShapeLasts w w') : ∀ (l : List AV) (vs : List Value), RAL E r w l vs → RAL E' r' w' l vs
  | [], _, h => by simpa [RAL] using h
  | a :: l, vs, h => by
    simp only [RAL] at h ⊢
    obtain ⟨v, rest, rfl, h1, h2⟩ := h
    exact ⟨v, rest, rfl, RA.lasts hL hN hS a v h1, RAL.lasts hL hN hS l rest h2⟩
end

/-- The blocks that are the call's own. -/
def Own (E : Env) (r : Rs) (b : Nat) : Prop := ∃ i x, r[i]? = some (some x) ∧ E.bl i = some b

/-- The map's block reads as these entries. -/
def MapIs (E : Env) (w : World) (l : List (Value × D)) (b : Nat) : Prop := ∃ es clock, w.heap[b]? = some (.map es clock) ∧ es.size = l.length ∧ ∀ (j : Nat) k d, l[j]? = some (k, d) → ∃ e, es[j]? = some e ∧ e.key = k ∧ e.born < clock ∧ RD E.T w d e.val

/-- All that the call has is there, each in a block of its own. -/
structure Good (G : Nat → List D) (E : Env) (r : Rs) (w : World) : Prop where
  tok : ∀ i k b, r[i]? = some (some (.tok k)) → E.bl i = some b → E.T b = k ∧ ∃ cur e, w.heap[b]? = some (.cells cur e (0, 0)) ∧ k ≤ cur.size
  obj : ∀ i l, r[i]? = some (some (.obj l)) → ∃ b, E.bl i = some b ∧ E.T b = 0 ∧ ∃ vs e, w.heap[b]? = some (.cells vs e (0, 0)) ∧ RAL E r w l vs.toList ∧ ∀ u ∈ vs.toList, u.oneCell' = true
  map : ∀ i l, r[i]? = some (some (.map l)) → ∃ b, E.bl i = some b ∧ E.T b = 0 ∧ MapIs E w l b
  one : ∀ i j x y b, r[i]? = some (some x) → r[j]? = some (some y) → E.bl i = some b → E.bl j = some b → i = j
  fresh : ∀ b, w.heap.size ≤ b → E.T b = 0
  glob : ∀ g, RM E.T w (G g) ⟨g, 0, none⟩

/-- From one world to a later one: nothing that isn't the call's own has turned. -/
structure Step (E : Env) (r : Rs) (w : World) (E' : Env) (r' : Rs) (w' : World) : Prop where
  os : w'.os = w.os
  tape : w'.tape = w.tape
  output : w'.output = w.output
  size : w.heap.size ≤ w'.heap.size
  block : ∀ b, b < w.heap.size → ¬ Own E r b → w'.heap[b]? = w.heap[b]? ∧ E'.T b = E.T b
  own : ∀ b, Own E' r' b → Own E r b ∨ w.heap.size ≤ b
  lasts : Lasts E.T w E'.T w'
  shape : ShapeLasts w w'
  names : Names E r E' r'
theorem Step.refl (E : Env) (r : Rs) (w : World) : Step E r w E r w :=
  ⟨rfl, rfl, rfl, Nat.le_refl _, fun _ _ _ => ⟨rfl, rfl⟩, fun _ h => .inl h, Lasts.refl _ _, ShapeLasts.refl _, Names.refl _ _⟩
theorem Step.trans {E E' E'' : Env} {r r' r'' : Rs} {w w' w'' : World} (h : Step E r w E' r' w') (k : Step E' r' w' E'' r'' w'') : Step E r w E'' r'' w'' := by
  refine ⟨k.os.trans h.os, k.tape.trans h.tape, k.output.trans h.output, Nat.le_trans h.size k.size, fun b hb hn => ?_, fun b hb => ?_, h.lasts.trans k.lasts, h.shape.trans k.shape, h.names.trans k.names⟩
  · have hn' : ¬ Own E' r' b := fun ho => by
      rcases h.own b ho with h1 | h1
      · exact hn h1
      · omega
    have h1 := h.block b hb hn
    have h2 := k.block b (Nat.lt_of_lt_of_le hb h.size) hn'
    exact ⟨h2.1.trans h1.1, h2.2.trans h1.2⟩
  · rcases k.own b hb with h1 | h1
    · exact h.own b h1
    · exact .inr (Nat.le_trans h.size h1)
theorem RA.step {E E' : Env} {r r' : Rs} {w w' : World} (h : Step E r w E' r' w') {a : AV} {x : Value} (hr : RA E r w a x) : RA E' r' w' a x := RA.lasts h.lasts h.names h.shape a x hr
theorem RAL.step {E E' : Env} {r r' : Rs} {w w' : World} (h : Step E r w E' r' w') {l : List AV} {vs : List Value} (hr : RAL E r w l vs) : RAL E' r' w' l vs := RAL.lasts h.lasts h.names h.shape l vs hr

/-- What a function's frame holds. 'b' is what stood at a loop's head, 'l' what has been written since. -/
structure St where
  b : Nat → AV
  l : List (Nat × AV)
  r : Rs
def lk : List (Nat × AV) → (Nat → AV) → Nat → AV
  | [], b, i => b i
  | (j, v) :: l, b, i => if i = j then v else lk l b i
def St.get (σ : St) (i : Nat) : AV := lk σ.l σ.b i
def St.put (σ : St) (i : Nat) (v : AV) : St := { σ with l := (i, v) :: σ.l }
def St.putO (σ : St) (d : Option Tmp) (v : AV) : St := match d with | some i => σ.put i v | none => σ

structure Rel (G : Nat → List D) (N : Nat) (E : Env) (σ : St) (a : Act) (w : World) : Prop where
  size : a.tmps.size = N
  slot : ∀ i, RA E σ.r w (σ.get i) (a.tmps.getD i undef)
  good : Good G E σ.r w
  defers : a.defers = []

theorem get_put (σ : St) (i j : Nat) (v : AV) : (σ.put i v).get j = if j = i then v else σ.get j := rfl
theorem getD_setIfInBounds (t : Array Value) (i j : Nat) (x u : Value) : (t.setIfInBounds i x).getD j u = if j = i ∧ i < t.size then x else t.getD j u := by
  simp only [Array.getD_eq_getD_getElem?, Array.getElem?_setIfInBounds]
  by_cases h : i = j
  · subst h
    by_cases hs : i < t.size
    · simp [hs]
    · simp [hs, Array.getElem?_eq_none (Nat.not_lt.1 hs)]
  · have : ¬ j = i := fun e => h e.symm
    simp [h, this]
/-- A slot is written. -/
theorem Rel.put {G : Nat → List D} {N : Nat} {E E' : Env} {σ : St} {a : Act} {w w' : World} {r' : Rs} (h : Rel G N E σ a w) (hs : Step E σ.r w E' r' w') (hg : Good G E' r' w') {i : Nat} (hi : i < N) {v : AV} {x : Value}
    (hv : RA E' r' w' v x) : Rel G N E' { σ.put i v with r := r' } (a.put (some i) x) w' := by
  refine ⟨by simp [Act.put, h.size], fun j => ?_, hg, h.defers⟩
  show RA E' r' w' (lk ((i, v) :: σ.l) σ.b j) ((a.tmps.setIfInBounds i x).getD j undef)
  rw [getD_setIfInBounds]
  by_cases hj : j = i
  · subst hj
    simp only [lk, if_true, h.size, hi, and_true]
    exact hv
  · simp only [lk, hj, if_false, false_and]
    exact (h.slot j).step hs
theorem Rel.put_same {G : Nat → List D} {N : Nat} {E : Env} {σ : St} {a : Act} {w : World} (h : Rel G N E σ a w) {i : Nat} (hi : i < N) {v : AV} {x : Value} (hv : RA E σ.r w v x) : Rel G N E (σ.put i v) (a.put (some i) x) w :=
  Rel.put h (Step.refl _ _ _) h.good hi hv
theorem Rel.move {G : Nat → List D} {N : Nat} {E E' : Env} {σ : St} {a : Act} {w w' : World} {r' : Rs} (h : Rel G N E σ a w) (hs : Step E σ.r w E' r' w') (hg : Good G E' r' w') : Rel G N E' { σ with r := r' } a w' :=
  ⟨h.size, fun j => (h.slot j).step hs, hg, h.defers⟩
end Go.Proofs.YteeknmjjpcbphaaDoor
