/- The frame of these proofs, part C: a new block, a row written in place: what lasts. -/
import Derived.Test.YteeknmjjpcbphaaDoorCB
import Derived.Laws.Tables
set_option linter.unusedVariables false
set_option linter.unusedSimpArgs false
namespace Go.Proofs.YteeknmjjpcbphaaDoor
open Go

theorem upd_same {α : Type} (f : Nat → α) (b : Nat) (v : α) : (fun i => if i = b then v else f i) b = v := by simp
def updN {α : Type} (f : Nat → α) (b : Nat) (v : α) : Nat → α := fun i => if i = b then v else f i
theorem updN_same {α : Type} (f : Nat → α) (b : Nat) (v : α) : updN f b v b = v := by simp [updN]
theorem updN_ne {α : Type} (f : Nat → α) (b : Nat) (v : α) {i : Nat} (h : i ≠ b) : updN f b v i = f i := by simp [updN, h]

/-- All blocks that are there stay as they are. -/
def Keeps (w w' : World) : Prop := w.heap.size ≤ w'.heap.size ∧ ∀ b, b < w.heap.size → w'.heap[b]? = w.heap[b]?
theorem Keeps.refl (w : World) : Keeps w w := ⟨Nat.le_refl _, fun _ _ => rfl⟩
theorem Keeps.trans {w w' w'' : World} (h : Keeps w w') (k : Keeps w' w'') : Keeps w w'' := ⟨Nat.le_trans h.1 k.1, fun b hb => (k.2 b (Nat.lt_of_lt_of_le hb h.1)).trans (h.2 b hb)⟩
theorem Keeps.cell {w w' : World} (h : Keeps w w') {a : Addr} {v : Value} (hv : w.cell? a = some v) : w'.cell? a = some v := by
  unfold World.cell? at hv ⊢
  have hb : a.block < w.heap.size := by
    rcases Nat.lt_or_ge a.block w.heap.size with h1 | h1
    · exact h1
    · simp [Array.getElem?_eq_none h1] at hv
  rw [h.2 _ hb]
  exact hv
theorem Keeps.alloc (w : World) (o : Obj) : Keeps w (w.alloc o) := ⟨by simp, fun b hb => heap_alloc_old w o b hb⟩
theorem Keeps.drew (w : World) : Keeps w w.drew := ⟨Nat.le_refl _, fun b hb => rfl⟩

variable {G : Nat → List D} {E : Env} {r : Rs} {w : World}

theorem Good.lt (h : Good G E r w) {i b : Nat} {x : Res} (hx : r[i]? = some (some x)) (hb : E.bl i = some b) : b < w.heap.size := by
  have key : ∀ o : Obj, w.heap[b]? = some o → b < w.heap.size := fun o ho => (Array.getElem?_eq_some_iff.1 ho).1
  cases x with
  | tok k => obtain ⟨_, cur, e, hh, _⟩ := h.tok i k b hx hb; exact key _ hh
  | obj l =>
    obtain ⟨b', hb', _, vs, e, hh, _⟩ := h.obj i l hx
    rw [hb] at hb'; injection hb' with hb'; subst hb'
    exact key _ hh
  | map l =>
    obtain ⟨b', hb', _, es, cl, hh, _⟩ := h.map i l hx
    rw [hb] at hb'; injection hb' with hb'; subst hb'
    exact key _ hh
theorem Good.own_lt (h : Good G E r w) {b : Nat} (ho : Own E r b) : b < w.heap.size := by
  obtain ⟨i, x, hx, hb⟩ := ho
  exact h.lt hx hb
theorem Good.pub_lt (h : Good G E r w) {a : Addr} (ha : a.off < E.T a.block) : a.block < w.heap.size := by
  rcases Nat.lt_or_ge a.block w.heap.size with h1 | h1
  · exact h1
  · have := h.fresh _ h1; omega

theorem MapIs.lasts {T' : Nat → Nat} {E' : Env} {w' : World} {l : List (Value × D)} {b : Nat} (h : MapIs E w l b) (hh : w'.heap[b]? = w.heap[b]?) (hL : Lasts E.T w E'.T w') : MapIs E' w' l b := by
  obtain ⟨es, cl, h1, h2, h3⟩ := h
  refine ⟨es, cl, hh.trans h1, h2, fun j k d hj => ?_⟩
  obtain ⟨e, he, hk, hbn, hd⟩ := h3 j k d hj
  exact ⟨e, he, hk, hbn, RD.lasts hL d _ hd⟩

theorem shape_alloc (w : World) (o : Obj) : ShapeLasts w (w.alloc o) := by
  intro b s hs
  unfold World.shape? at hs ⊢
  have hb : b < w.heap.size := by
    rcases Nat.lt_or_ge b w.heap.size with h | h
    · exact h
    · simp [Array.getElem?_eq_none h] at hs
  rw [heap_alloc_old w o b hb]
  exact hs
theorem lasts_alloc (hG : Good G E r w) (o : Obj) (t : Nat) : Lasts E.T w (updN E.T w.heap.size t) (w.alloc o) := by
  refine ⟨fun b => ?_, fun a ha => World.cell?_alloc_lt w o a (hG.pub_lt ha)⟩
  by_cases hb : b = w.heap.size
  · subst hb; have := hG.fresh _ (Nat.le_refl _); omega
  · rw [updN_ne _ _ _ hb]; exact Nat.le_refl _

/-- A new block of cells that are laid for good, or that nobody has. -/
theorem step_alloc (hG : Good G E r w) (o : Obj) (t : Nat) : Step E r w ⟨updN E.T w.heap.size t, E.bl⟩ r (w.alloc o) := by
  refine ⟨rfl, rfl, rfl, by simp, fun b hb _ => ⟨heap_alloc_old w o b hb, updN_ne _ _ _ (by omega)⟩, fun b hb => .inl hb, lasts_alloc hG o t, shape_alloc w o, ?_⟩
  exact ⟨Nat.le_refl _, fun i k' _ h => ⟨k', h, Nat.le_refl _, fun _ => rfl⟩, fun i l' _ h => ⟨l', h, rfl, rfl⟩, fun i l' _ h => ⟨l', h, rfl⟩⟩
theorem good_alloc (hG : Good G E r w) (o : Obj) (t : Nat) : Good G ⟨updN E.T w.heap.size t, E.bl⟩ r (w.alloc o) := by
  have hs := step_alloc hG o t
  refine ⟨fun i k b hi hb => ?_, fun i l hi => ?_, fun i l hi => ?_, hG.one, fun b hb => ?_, fun g => ?_⟩
  · obtain ⟨h1, cur, e, h2, h3⟩ := hG.tok i k b hi hb
    have hlt := hG.lt hi hb
    exact ⟨(updN_ne _ _ _ (by omega)).trans h1, cur, e, (heap_alloc_old w o b hlt).trans h2, h3⟩
  · obtain ⟨b, hb, h1, vs, e, h2, h3, h4⟩ := hG.obj i l hi
    have hlt := hG.lt hi hb
    exact ⟨b, hb, (updN_ne _ _ _ (by omega)).trans h1, vs, e, (heap_alloc_old w o b hlt).trans h2, h3.step hs, h4⟩
  · obtain ⟨b, hb, h1, h2⟩ := hG.map i l hi
    have hlt := hG.lt hi hb
    exact ⟨b, hb, (updN_ne _ _ _ (by omega)).trans h1, h2.lasts (T' := E.T) (heap_alloc_old w o b hlt) hs.lasts⟩
  · have : b ≠ w.heap.size := by simp at hb; omega
    show updN E.T w.heap.size t b = 0
    rw [updN_ne _ _ _ this]
    exact hG.fresh b (by simp at hb; omega)
  · exact RM.lasts hs.lasts _ _ (hG.glob g)

/-- A name more: what a call has of its own. -/
theorem names_push (E : Env) (r : Rs) (T' : Nat → Nat) (x : Option Res) (v : Option Nat) : Names E r ⟨T', updN E.bl r.length v⟩ (r ++ [x]) := by
  refine ⟨by simp, fun i k' hi h => ?_, fun i l' hi h => ?_, fun i l' hi h => ?_⟩
  all_goals rw [List.getElem?_append_left hi] at h
  · exact ⟨k', h, Nat.le_refl _, fun _ => updN_ne _ _ _ (by omega)⟩
  · exact ⟨l', h, rfl, updN_ne _ _ _ (by omega)⟩
  · exact ⟨l', h, updN_ne _ _ _ (by omega)⟩
theorem own_push {E : Env} {r : Rs} {T' : Nat → Nat} {x : Option Res} {v : Option Nat} {b : Nat} (h : Own ⟨T', updN E.bl r.length v⟩ (r ++ [x]) b) : Own E r b ∨ v = some b := by
  obtain ⟨i, y, hy, hb⟩ := h
  by_cases hi : i < r.length
  · rw [List.getElem?_append_left hi] at hy
    refine .inl ⟨i, y, hy, ?_⟩
    rw [← hb]
    exact (updN_ne _ _ _ (by omega)).symm
  · have hle : i < (r ++ [x]).length := (List.getElem?_eq_some_iff.1 hy).1
    have : i = r.length := by simp at hle; omega
    subst this
    right
    rw [← hb]
    exact (updN_same _ _ _).symm
theorem step_push_none (hG : Good G E r w) (x : Option Res) : Step E r w ⟨E.T, updN E.bl r.length none⟩ (r ++ [x]) w := by
  refine ⟨rfl, rfl, rfl, Nat.le_refl _, fun b hb _ => ⟨rfl, rfl⟩, fun b hb => ?_, Lasts.refl _ _, ShapeLasts.refl _, names_push _ _ _ _ _⟩
  rcases own_push hb with h | h
  · exact .inl h
  · cases h
theorem step_push (hG : Good G E r w) (o : Obj) (t : Nat) (x : Option Res) : Step E r w ⟨updN E.T w.heap.size t, updN E.bl r.length (some w.heap.size)⟩ (r ++ [x]) (w.alloc o) := by
  refine ⟨rfl, rfl, rfl, by simp, fun b hb _ => ⟨heap_alloc_old w o b hb, updN_ne _ _ _ (by omega)⟩, fun b hb => ?_, lasts_alloc hG o t, shape_alloc w o, names_push _ _ _ _ _⟩
  rcases own_push hb with h | h
  · exact .inl h
  · injection h with h; subst h; exact .inr (Nat.le_refl _)
/-- What must be shown of a new name alone. -/
structure NewOK (E' : Env) (r' : Rs) (w' : World) (b : Nat) (x : Res) : Prop where
  tok : ∀ k, x = .tok k → E'.T b = k ∧ ∃ cur e, w'.heap[b]? = some (.cells cur e (0, 0)) ∧ k ≤ cur.size
  obj : ∀ l, x = .obj l → E'.T b = 0 ∧ ∃ vs e, w'.heap[b]? = some (.cells vs e (0, 0)) ∧ RAL E' r' w' l vs.toList ∧ ∀ u ∈ vs.toList, u.oneCell' = true
  map : ∀ l, x = .map l → E'.T b = 0 ∧ MapIs E' w' l b
theorem getElem?_push_cases {r : Rs} {y : Option Res} {i : Nat} {x : Res} (h : (r ++ [y])[i]? = some (some x)) : (i < r.length ∧ r[i]? = some (some x)) ∨ (i = r.length ∧ y = some x) := by
  by_cases hi : i < r.length
  · rw [List.getElem?_append_left hi] at h
    exact .inl ⟨hi, h⟩
  · have hle := (List.getElem?_eq_some_iff.1 h).1
    have : i = r.length := by simp at hle; omega
    subst this
    simp at h
    exact .inr ⟨rfl, h⟩
theorem good_push (hG : Good G E r w) (o : Obj) (t : Nat) (x : Res) (hx : NewOK ⟨updN E.T w.heap.size t, updN E.bl r.length (some w.heap.size)⟩ (r ++ [some x]) (w.alloc o) w.heap.size x) :
    Good G ⟨updN E.T w.heap.size t, updN E.bl r.length (some w.heap.size)⟩ (r ++ [some x]) (w.alloc o) := by
  have hs := step_push hG o t (some x)
  have hbl : ∀ i, i < r.length → updN E.bl r.length (some w.heap.size) i = E.bl i := fun i hi => updN_ne _ _ _ (by omega)
  refine ⟨fun i k b hi hb => ?_, fun i l hi => ?_, fun i l hi => ?_, fun i j y z b hi hj hbi hbj => ?_, fun b hb => ?_, fun g => ?_⟩
  · rcases getElem?_push_cases hi with ⟨hlt, hi2⟩ | ⟨rfl, hi2⟩
    · rw [show (Env.bl _ i) = _ from hbl i hlt] at hb
      obtain ⟨h1, cur, e, h2, h3⟩ := hG.tok i k b hi2 hb
      have hlt := hG.lt hi2 hb
      exact ⟨(updN_ne _ _ _ (by omega)).trans h1, cur, e, (heap_alloc_old w o b hlt).trans h2, h3⟩
    · rw [show (Env.bl _ r.length) = _ from updN_same _ _ _] at hb
      injection hb with hb; subst hb; injection hi2 with hi2
      exact hx.tok k hi2
  · rcases getElem?_push_cases hi with ⟨hlt, hi2⟩ | ⟨rfl, hi2⟩
    · obtain ⟨b, hb, h1, vs, e, h2, h3, h4⟩ := hG.obj i l hi2
      have hltb := hG.lt hi2 hb
      exact ⟨b, (hbl i hlt).trans hb, (updN_ne _ _ _ (by omega)).trans h1, vs, e, (heap_alloc_old w o b hltb).trans h2, h3.step hs, h4⟩
    · injection hi2 with hi2
      obtain ⟨h1, h2⟩ := hx.obj l hi2
      exact ⟨w.heap.size, updN_same _ _ _, h1, h2⟩
  · rcases getElem?_push_cases hi with ⟨hlt, hi2⟩ | ⟨rfl, hi2⟩
    · obtain ⟨b, hb, h1, h2⟩ := hG.map i l hi2
      have hltb := hG.lt hi2 hb
      exact ⟨b, (hbl i hlt).trans hb, (updN_ne _ _ _ (by omega)).trans h1, h2.lasts (T' := E.T) (heap_alloc_old w o b hltb) hs.lasts⟩
    · injection hi2 with hi2
      obtain ⟨h1, h2⟩ := hx.map l hi2
      exact ⟨w.heap.size, updN_same _ _ _, h1, h2⟩
  · rcases getElem?_push_cases hi with ⟨hli, hi2⟩ | ⟨rfl, hi2⟩ <;> rcases getElem?_push_cases hj with ⟨hlj, hj2⟩ | ⟨rfl, hj2⟩
    · rw [show (Env.bl _ i) = _ from hbl i hli] at hbi
      rw [show (Env.bl _ j) = _ from hbl j hlj] at hbj
      exact hG.one i j y z b hi2 hj2 hbi hbj
    · rw [show (Env.bl _ i) = _ from hbl i hli] at hbi
      rw [show (Env.bl _ r.length) = _ from updN_same _ _ _] at hbj
      injection hbj with hbj
      have := hG.lt hi2 hbi; omega
    · rw [show (Env.bl _ j) = _ from hbl j hlj] at hbj
      rw [show (Env.bl _ r.length) = _ from updN_same _ _ _] at hbi
      injection hbi with hbi
      have := hG.lt hj2 hbj; omega
    · rfl
  · have : b ≠ w.heap.size := by simp at hb; omega
    show updN E.T w.heap.size t b = 0
    rw [updN_ne _ _ _ this]
    exact hG.fresh b (by simp at hb; omega)
  · exact RM.lasts hs.lasts _ _ (hG.glob g)
theorem good_push_none (hG : Good G E r w) (x : Option Res) (hx : ∀ y, x = some y → ∃ k, y = .tok k) : Good G ⟨E.T, updN E.bl r.length none⟩ (r ++ [x]) w := by
  have hs := step_push_none hG x
  have hbl : ∀ i, i < r.length → updN E.bl r.length none i = E.bl i := fun i hi => updN_ne _ _ _ (by omega)
  refine ⟨fun i k b hi hb => ?_, fun i l hi => ?_, fun i l hi => ?_, fun i j y z b hi hj hbi hbj => ?_, hG.fresh, hG.glob⟩
  · rcases getElem?_push_cases hi with ⟨hlt, hi2⟩ | ⟨rfl, hi2⟩
    · rw [show (Env.bl _ i) = _ from hbl i hlt] at hb
      exact hG.tok i k b hi2 hb
    · rw [show (Env.bl _ r.length) = _ from updN_same _ _ _] at hb
      cases hb
  · rcases getElem?_push_cases hi with ⟨hlt, hi2⟩ | ⟨rfl, hi2⟩
    · obtain ⟨b, hb, h1, vs, e, h2, h3, h4⟩ := hG.obj i l hi2
      exact ⟨b, (hbl i hlt).trans hb, h1, vs, e, h2, h3.step hs, h4⟩
    · obtain ⟨k, hk⟩ := hx _ hi2; cases hk
  · rcases getElem?_push_cases hi with ⟨hlt, hi2⟩ | ⟨rfl, hi2⟩
    · obtain ⟨b, hb, h1, h2⟩ := hG.map i l hi2
      exact ⟨b, (hbl i hlt).trans hb, h1, h2.lasts (T' := E.T) rfl hs.lasts⟩
    · obtain ⟨k, hk⟩ := hx _ hi2; cases hk
  · rcases getElem?_push_cases hi with ⟨hli, hi2⟩ | ⟨rfl, hi2⟩ <;> rcases getElem?_push_cases hj with ⟨hlj, hj2⟩ | ⟨rfl, hj2⟩
    · rw [show (Env.bl _ i) = _ from hbl i hli] at hbi
      rw [show (Env.bl _ j) = _ from hbl j hlj] at hbj
      exact hG.one i j y z b hi2 hj2 hbi hbj
    · rw [show (Env.bl _ r.length) = _ from updN_same _ _ _] at hbj; cases hbj
    · rw [show (Env.bl _ r.length) = _ from updN_same _ _ _] at hbi; cases hbi
    · rfl

/-! ### A draw -/
theorem step_drew (E : Env) (r : Rs) (w : World) : Step E r w E r w.drew :=
  ⟨rfl, rfl, rfl, Nat.le_refl _, fun _ _ _ => ⟨rfl, rfl⟩, fun _ h => .inl h, ⟨fun _ => Nat.le_refl _, fun _ _ => rfl⟩, fun _ _ h => h, Names.refl _ _⟩
theorem good_drew (h : Good G E r w) : Good G E r w.drew := by
  have hs := step_drew E r w
  refine ⟨h.tok, fun i l hi => ?_, fun i l hi => ?_, h.one, h.fresh, fun g => RM.lasts hs.lasts _ _ (h.glob g)⟩
  · obtain ⟨b, hb, h1, vs, e, h2, h3, h4⟩ := h.obj i l hi
    exact ⟨b, hb, h1, vs, e, h2, h3.step hs, h4⟩
  · obtain ⟨b, hb, h1, h2⟩ := h.map i l hi
    exact ⟨b, hb, h1, h2.lasts (T' := E.T) rfl hs.lasts⟩

/-! ### A row written in place -/
theorem heap_setRow_other (w : World) (g : Nat) (cs : Array Value) {b : Nat} (h : b ≠ g) : (w.setRow g cs).heap[b]? = w.heap[b]? := by
  simp [World.setRow, Array.getElem?_modify, Ne.symm h]
theorem shape_setRow (w : World) (g : Nat) (old cs : Array Value) (t : TypeId) (hg : w.heap[g]? = some (.cells old t (0, 0))) (hs : cs.size = old.size) : ShapeLasts w (w.setRow g cs) := by
  intro b s h
  by_cases hb : b = g
  · subst hb
    unfold World.shape? at h ⊢
    rw [setRow_heap w b old cs t (0, 0) hg]
    rw [hg] at h
    simpa [hs] using h
  · unfold World.shape? at h ⊢
    rw [heap_setRow_other w g cs hb]
    exact h
theorem lasts_setRow {i g : Nat} {old cs : Array Value} {t : TypeId} {t' : Nat} (hg : w.heap[g]? = some (.cells old t (0, 0))) (hsz : cs.size = old.size) (hT : E.T g ≤ t') (hc : ∀ j, j < E.T g → cs[j]? = old[j]?) :
    Lasts E.T w (updN E.T g t') (w.setRow g cs) := by
  refine ⟨fun b => ?_, fun a ha => ?_⟩
  · by_cases hb : b = g
    · subst hb; rw [updN_same]; exact hT
    · rw [updN_ne _ _ _ hb]; exact Nat.le_refl _
  · by_cases hb : a.block = g
    · subst hb
      unfold World.cell?
      rw [setRow_heap w _ old cs t (0, 0) hg, hg]
      simp only
      split
      · rfl
      · exact hc _ ha
    · exact World.cell?_of_block (heap_setRow_other w g cs hb)
theorem getElem?_set_cases {r : Rs} {i j : Nat} {y z : Option Res} (h : (r.set i y)[j]? = some z) : (j = i ∧ z = y) ∨ (j ≠ i ∧ r[j]? = some z) := by
  by_cases hij : j = i
  · subst hij
    have hlt := (List.getElem?_eq_some_iff.1 h).1
    simp at hlt
    simp [List.getElem?_set, hlt] at h
    exact .inl ⟨rfl, h.symm⟩
  · rw [List.getElem?_set_ne (fun e => hij e.symm)] at h
    exact .inr ⟨hij, h⟩
theorem step_setRow (hG : Good G E r w) {i g : Nat} {x x' : Res} (hi : r[i]? = some (some x)) (hb : E.bl i = some g) {old cs : Array Value} {t : TypeId} {t' : Nat} (hg : w.heap[g]? = some (.cells old t (0, 0))) (hsz : cs.size = old.size)
    (hT : E.T g ≤ t') (hc : ∀ j, j < E.T g → cs[j]? = old[j]?)
    (hx : (∃ k k', x = .tok k ∧ x' = .tok k' ∧ k ≤ k') ∨ ∃ l l', x = .obj l ∧ x' = .obj l' ∧ l.length = l'.length) :
    Step E r w ⟨updN E.T g t', E.bl⟩ (r.set i (some x')) (w.setRow g cs) := by
  have hown : Own E r g := ⟨i, x, hi, hb⟩
  refine ⟨rfl, rfl, rfl, by simp [World.setRow], fun b hlt hn => ?_, fun b ho => ?_, lasts_setRow (i := i) hg hsz hT hc, shape_setRow w g old cs t hg hsz, ?_⟩
  · have hne : b ≠ g := fun e => hn (e ▸ hown)
    exact ⟨heap_setRow_other w g cs hne, updN_ne _ _ _ hne⟩
  · obtain ⟨j, y, hj, hbj⟩ := ho
    rcases getElem?_set_cases hj with ⟨rfl, _⟩ | ⟨_, hj⟩
    · exact .inl ⟨j, x, hi, hbj⟩
    · exact .inl ⟨j, y, hj, hbj⟩
  · refine ⟨by simp, fun j k' _ hj => ?_, fun j l' _ hj => ?_, fun j l' _ hj => ?_⟩
    · rcases getElem?_set_cases hj with ⟨rfl, hy⟩ | ⟨_, hj⟩
      · injection hy with hy
        subst hy
        rcases hx with ⟨k, k2, rfl, h2, hle⟩ | ⟨l, l', rfl, h2, _⟩
        · injection h2 with h2; subst h2
          exact ⟨k, hi, hle, fun _ => rfl⟩
        · cases h2
      · exact ⟨k', hj, Nat.le_refl _, fun _ => rfl⟩
    · rcases getElem?_set_cases hj with ⟨rfl, hy⟩ | ⟨_, hj⟩
      · injection hy with hy
        subst hy
        rcases hx with ⟨k, k2, rfl, h2, hle⟩ | ⟨l, l2, rfl, h2, hl⟩
        · cases h2
        · injection h2 with h2; subst h2
          exact ⟨l, hi, hl, rfl⟩
      · exact ⟨l', hj, rfl, rfl⟩
    · rcases getElem?_set_cases hj with ⟨rfl, hy⟩ | ⟨_, hj⟩
      · injection hy with hy
        subst hy
        rcases hx with ⟨k, k2, rfl, h2, hle⟩ | ⟨l, l2, rfl, h2, hl⟩
        · cases h2
        · cases h2
      · exact ⟨l', hj, rfl⟩
theorem good_setRow (hG : Good G E r w) {i g : Nat} {x x' : Res} (hi : r[i]? = some (some x)) (hb : E.bl i = some g) {old cs : Array Value} {t : TypeId} {t' : Nat} (hg : w.heap[g]? = some (.cells old t (0, 0))) (hsz : cs.size = old.size)
    (hT : E.T g ≤ t') (hc : ∀ j, j < E.T g → cs[j]? = old[j]?)
    (hx : (∃ k k', x = .tok k ∧ x' = .tok k' ∧ k ≤ k' ∧ t' = k' ∧ k' ≤ cs.size) ∨
      ∃ l l', x = .obj l ∧ x' = .obj l' ∧ l.length = l'.length ∧ t' = 0 ∧ (∀ u ∈ cs.toList, u.oneCell' = true) ∧ RAL ⟨updN E.T g t', E.bl⟩ (r.set i (some x')) (w.setRow g cs) l' cs.toList) :
    Good G ⟨updN E.T g t', E.bl⟩ (r.set i (some x')) (w.setRow g cs) := by
  have hs : Step E r w ⟨updN E.T g t', E.bl⟩ (r.set i (some x')) (w.setRow g cs) := step_setRow hG hi hb hg hsz hT hc (by
    rcases hx with ⟨k, k', h1, h2, h3, _⟩ | ⟨l, l', h1, h2, h3, _⟩
    · exact .inl ⟨k, k', h1, h2, h3⟩
    · exact .inr ⟨l, l', h1, h2, h3⟩)
  have hne : ∀ j y b, j ≠ i → r[j]? = some (some y) → E.bl j = some b → b ≠ g := fun j y b hji hj hbj e => hji (hG.one j i y x g hj hi (e ▸ hbj) hb)
  refine ⟨fun j k b hj hbj => ?_, fun j l hj => ?_, fun j l hj => ?_, fun j k y z b hj hk hbj hbk => ?_, fun b hbs => ?_, fun gl => RM.lasts hs.lasts _ _ (hG.glob gl)⟩
  · rcases getElem?_set_cases hj with ⟨rfl, hy⟩ | ⟨hji, hj⟩
    · injection hy with hy
      subst hy
      rw [show (Env.bl _ j) = _ from hb] at hbj
      injection hbj with hbj
      subst hbj
      rcases hx with ⟨k1, k2, rfl, h2, hle, rfl, hks⟩ | ⟨l, l', rfl, h2, _⟩
      · injection h2 with h2; subst h2
        exact ⟨updN_same _ _ _, cs, t, setRow_heap w _ old cs t (0, 0) hg, hks⟩
      · cases h2
    · have hbg := hne j _ b hji hj hbj
      obtain ⟨h1, cur, e, h2, h3⟩ := hG.tok j k b hj hbj
      exact ⟨(updN_ne _ _ _ hbg).trans h1, cur, e, (heap_setRow_other w g cs hbg).trans h2, h3⟩
  · rcases getElem?_set_cases hj with ⟨rfl, hy⟩ | ⟨hji, hj⟩
    · injection hy with hy
      subst hy
      rcases hx with ⟨k1, k2, rfl, h2, _⟩ | ⟨l1, l2, rfl, h2, _, rfl, hone, hral⟩
      · cases h2
      · injection h2 with h2; subst h2
        exact ⟨g, hb, updN_same _ _ _, cs, t, setRow_heap w _ old cs t (0, 0) hg, hral, hone⟩
    · obtain ⟨b, hbj, h1, vs, e, h2, h3, h4⟩ := hG.obj j l hj
      have hbg := hne j _ b hji hj hbj
      exact ⟨b, hbj, (updN_ne _ _ _ hbg).trans h1, vs, e, (heap_setRow_other w g cs hbg).trans h2, h3.step hs, h4⟩
  · rcases getElem?_set_cases hj with ⟨rfl, hy⟩ | ⟨hji, hj⟩
    · injection hy with hy
      subst hy
      rcases hx with ⟨k1, k2, rfl, h2, _⟩ | ⟨l1, l2, rfl, h2, _⟩ <;> cases h2
    · obtain ⟨b, hbj, h1, h2⟩ := hG.map j l hj
      have hbg := hne j _ b hji hj hbj
      exact ⟨b, hbj, (updN_ne _ _ _ hbg).trans h1, h2.lasts (T' := E.T) (heap_setRow_other w g cs hbg) hs.lasts⟩
  · have h1 : ∃ y', r[j]? = some (some y') := by
      rcases getElem?_set_cases hj with ⟨rfl, _⟩ | ⟨_, hj⟩
      · exact ⟨_, hi⟩
      · exact ⟨_, hj⟩
    have h2 : ∃ y', r[k]? = some (some y') := by
      rcases getElem?_set_cases hk with ⟨rfl, _⟩ | ⟨_, hk⟩
      · exact ⟨_, hi⟩
      · exact ⟨_, hk⟩
    obtain ⟨y', hy'⟩ := h1
    obtain ⟨z', hz'⟩ := h2
    exact hG.one j k y' z' b hy' hz' hbj hbk
  · have hlt : g < w.heap.size := hG.lt hi hb
    have hsz' : w.heap.size ≤ b := by simpa [World.setRow] using hbs
    show updN E.T g t' b = 0
    rw [updN_ne _ _ _ (by omega)]
    exact hG.fresh b hsz'
end Go.Proofs.YteeknmjjpcbphaaDoor
