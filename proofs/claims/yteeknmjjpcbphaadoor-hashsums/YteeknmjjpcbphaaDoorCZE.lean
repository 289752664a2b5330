/- The frame of these proofs, part ZE: new names for old (rows of a loop's rounds, of a result), and new names for nil. -/
import Derived.Test.YteeknmjjpcbphaaDoorCZD
set_option linter.unusedVariables false
set_option linter.unusedSimpArgs false
namespace Go.Proofs.YteeknmjjpcbphaaDoor
open Go

/-! ### Names that are new, for nil or a full slice -/
def tks (F : List Nat) : Rs := F.map fun k => some (.tok k)
theorem tks_get {F : List Nat} {j : Nat} {x : Res} (h : (tks F)[j]? = some (some x)) : ∃ k, F[j]? = some k ∧ x = .tok k := by
  unfold tks at h
  rw [List.getElem?_map] at h
  cases hj : F[j]? with
  | none => rw [hj] at h; cases h
  | some k => rw [hj] at h; injection h with h; injection h with h; exact ⟨k, rfl, h.symm⟩
def envT (E : Env) (n : Nat) : Env := ⟨E.T, fun i => if i < n then E.bl i else none⟩
theorem envT_lt {E : Env} {n i : Nat} (h : i < n) : (envT E n).bl i = E.bl i := by simp [envT, h]
theorem step_tks {G : Nat → List D} {E : Env} {r : Rs} {w : World} (hG : Good G E r w) (F : List Nat) : Step E r w (envT E r.length) (r ++ tks F) w := by
  have hlt : ∀ {i : Nat} {x : Res} {b : Nat}, (r ++ tks F)[i]? = some (some x) → (envT E r.length).bl i = some b → i < r.length := by
    intro i x b _ hb
    by_cases hi : i < r.length
    · exact hi
    · simp [envT, hi] at hb
  refine ⟨rfl, rfl, rfl, Nat.le_refl _, fun b _ _ => ⟨rfl, rfl⟩, fun b ⟨i, x, hi, hb⟩ => ?_, Lasts.refl _ _, ShapeLasts.refl _, ⟨by simp, fun i k hi h => ?_, fun i l hi h => ?_, fun i l hi h => ?_⟩⟩
  · have h1 := hlt hi hb
    rw [List.getElem?_append_left h1] at hi
    rw [envT_lt h1] at hb
    exact .inl ⟨i, x, hi, hb⟩
  all_goals
    rw [List.getElem?_append_left hi] at h
  · exact ⟨k, h, Nat.le_refl _, fun _ => envT_lt hi⟩
  · exact ⟨l, h, rfl, envT_lt hi⟩
  · exact ⟨l, h, envT_lt hi⟩
theorem good_tks {G : Nat → List D} {E : Env} {r : Rs} {w : World} (hG : Good G E r w) (F : List Nat) : Good G (envT E r.length) (r ++ tks F) w := by
  have hs := step_tks hG F
  have hlt : ∀ {i : Nat} {x : Res}, (r ++ tks F)[i]? = some (some x) → (i < r.length ∧ r[i]? = some (some x)) ∨ ((envT E r.length).bl i = none ∧ ∃ k, x = .tok k) := by
    intro i x hi
    by_cases h1 : i < r.length
    · rw [List.getElem?_append_left h1] at hi; exact .inl ⟨h1, hi⟩
    · rw [List.getElem?_append_right (by omega)] at hi
      obtain ⟨k, _, hk⟩ := tks_get hi
      exact .inr ⟨by simp [envT, h1], k, hk⟩
  refine ⟨fun i k b hi hb => ?_, fun i l hi => ?_, fun i l hi => ?_, fun i j x y b hi hj hbi hbj => ?_, hG.fresh, hG.glob⟩
  · rcases hlt hi with ⟨h1, h2⟩ | ⟨h1, _⟩
    · rw [envT_lt h1] at hb; exact hG.tok i k b h2 hb
    · rw [h1] at hb; cases hb
  · rcases hlt hi with ⟨h1, h2⟩ | ⟨_, k, h2⟩
    · obtain ⟨b, hb, k1, vs, e, k2, k3, k4⟩ := hG.obj i l h2
      exact ⟨b, (envT_lt h1).trans hb, k1, vs, e, k2, k3.step hs, k4⟩
    · cases h2
  · rcases hlt hi with ⟨h1, h2⟩ | ⟨_, k, h2⟩
    · obtain ⟨b, hb, k1, k2⟩ := hG.map i l h2
      exact ⟨b, (envT_lt h1).trans hb, k1, k2⟩
    · cases h2
  · rcases hlt hi with ⟨h1, h2⟩ | ⟨h1, _⟩
    · rcases hlt hj with ⟨h3, h4⟩ | ⟨h3, _⟩
      · rw [envT_lt h1] at hbi; rw [envT_lt h3] at hbj
        exact hG.one i j x y b h2 h4 hbi hbj
      · rw [h3] at hbj; cases hbj
    · rw [h1] at hbi; cases hbi
/-- 'b' says no more than 'a', where the names from 'n' on are new ones of these lengths. -/
def WkF (n : Nat) (F : List Nat) (a b : AV) : Prop := WeakA a b ∨ ∃ o sz m xs, b = .sl (.own o) sz m xs ∧ n ≤ o ∧ F[o - n]? = some xs.length ∧ WeakA a (.sl .full sz m xs)
theorem WkF.sound {G : Nat → List D} {E : Env} {r : Rs} {w : World} (hG : Good G E r w) {F : List Nat} {a b : AV} {x : Value} (h : WkF r.length F a b) (hr : RA E r w a x) : RA (envT E r.length) (r ++ tks F) w b x := by
  rcases h with h | ⟨o, sz, m, xs, rfl, ho, hF, h⟩
  · exact (h.sound hr).step (step_tks hG F)
  · have h1 := h.sound hr
    simp only [RA] at h1 ⊢
    obtain ⟨hl, A, c, rfl, hc, hm, hf⟩ := h1
    have hlen : o - r.length < F.length := (List.getElem?_eq_some_iff.1 hF).1
    refine ⟨hl, A, c, rfl, hc, hm, by simp [tks]; omega, fun k hk => ?_⟩
    rw [List.getElem?_append_right (by omega)] at hk
    obtain ⟨k', hk', he⟩ := tks_get hk
    rw [hF] at hk'
    injection he with he
    injection hk' with hk'
    refine ⟨by omega, fun _ => ?_⟩
    have : (envT E r.length).bl o = none := by simp [envT]; omega
    rw [this]
    exact hf
theorem WkF.refl {n : Nat} {F : List Nat} (a : AV) : WkF n F a a := .inl (.refl a)
theorem WkF.top {n : Nat} {F : List Nat} (a : AV) : WkF n F a .top := .inl (.top a)
theorem WkF.nil {n : Nat} {F : List Nat} {sz o : Nat} (h : Nat.ble n o = true) (hF : F[o - n]? = some 0) : WkF n F (.d (.c (.slice none 0 0))) (.sl (.own o) sz 0 []) := .inr ⟨o, sz, 0, [], rfl, Nat.le_of_ble_eq_true h, hF, .nilFull sz⟩
theorem WkF.full {n : Nat} {F : List Nat} {sz o m : Nat} {xs : List D} (h : Nat.ble n o = true) (hF : F[o - n]? = some xs.length) : WkF n F (.sl .full sz m xs) (.sl (.own o) sz m xs) := .inr ⟨o, sz, m, xs, rfl, Nat.le_of_ble_eq_true h, hF, .refl _⟩
def WkFs (n : Nat) (F : List Nat) : List AV → List AV → Prop
  | [], [] => True
  | a :: l, b :: m => WkF n F a b ∧ WkFs n F l m
  | _, _ => False
theorem WkFs.refl {n : Nat} {F : List Nat} : ∀ l : List AV, WkFs n F l l
  | [] => trivial
  | a :: l => ⟨.refl a, WkFs.refl l⟩
theorem WkFs.len {n : Nat} {F : List Nat} : ∀ {l m : List AV}, WkFs n F l m → l.length = m.length
  | [], [], _ => rfl
  | a :: l, b :: m, h => by simp [WkFs.len h.2]
  | [], _ :: _, h => h.elim
  | _ :: _, [], h => h.elim
theorem WkFs.sound {G : Nat → List D} {E : Env} {r : Rs} {w : World} (hG : Good G E r w) {F : List Nat} : ∀ {l m : List AV} {vs : List Value}, WkFs r.length F l m → RAL E r w l vs → RAL (envT E r.length) (r ++ tks F) w m vs
  | [], [], vs, _, h => by simpa [RAL] using h
  | a :: l, b :: m, vs, hk, h => by
    simp only [RAL] at h ⊢
    obtain ⟨v, rest, rfl, h1, h2⟩ := h
    exact ⟨v, rest, rfl, hk.1.sound hG h1, WkFs.sound hG hk.2 h2⟩
  | [], _ :: _, _, h, _ => h.elim
  | _ :: _, [], _, h, _ => h.elim

theorem renL_map_d (g : Nat → Nat) : ∀ l : List D, renL g (l.map AV.d) = l.map AV.d
  | [] => rfl
  | a :: l => by rw [List.map_cons, renL, renL_map_d g l, ren]
theorem renL_append (g : Nat → Nat) : ∀ l m : List AV, renL g (l ++ m) = renL g l ++ renL g m
  | [], m => rfl
  | a :: l, m => by rw [List.cons_append, renL, renL_append g l m, renL]; rfl
theorem WkFs.data {n : Nat} {F : List Nat} {g : Nat → Nat} (l : List D) : WkFs n F (l.map AV.d) (renL g (l.map AV.d)) := by
  rw [renL_map_d]; exact .refl _
theorem WkFs.app {n : Nat} {F : List Nat} {g : Nat → Nat} : ∀ {l1 m1 l2 m2 : List AV}, WkFs n F l1 (renL g m1) → WkFs n F l2 (renL g m2) → WkFs n F (l1 ++ l2) (renL g (m1 ++ m2)) := by
  intro l1 m1 l2 m2 h1 h2
  rw [renL_append]
  generalize renL g m1 = a at *
  generalize renL g m2 = b at *
  induction l1 generalizing a with
  | nil => cases a with
    | nil => exact h2
    | cons _ _ => exact h1.elim
  | cons x l ih => cases a with
    | nil => exact h1.elim
    | cons y a => exact ⟨h1.1, ih a h1.2⟩
theorem wfL_map_d (n : Nat) : ∀ l : List D, wfL n (l.map AV.d) = true
  | [] => rfl
  | a :: l => by rw [List.map_cons, wfL, wfL_map_d n l]; rfl
theorem wfL_append (n : Nat) : ∀ l m : List AV, wfL n (l ++ m) = (wfL n l && wfL n m)
  | [], m => by simp [wfL]
  | a :: l, m => by simp [wfL, wfL_append n l m, Bool.and_assoc]

/-! ### Other names for the same -/
def hn (L : List Nat) (k : Nat) : Nat := L.getD k k
structure AliasC (g : Nat → Nat) (E1 : Env) (r1 : Rs) (E2 : Env) (r2 : Rs) : Prop where
  T : E1.T = E2.T
  bl : ∀ i, i < r1.length → E1.bl i = E2.bl (g i)
  tok : ∀ i k, r1[i]? = some (some (.tok k)) → r2[g i]? = some (some (.tok k))
  obj : ∀ i l, r1[i]? = some (some (.obj l)) → ∃ l2, r2[g i]? = some (some (.obj l2)) ∧ l2.length = l.length
  map : ∀ i l, r1[i]? = some (some (.map l)) → ∃ l2, r2[g i]? = some (some (.map l2))
mutual
theorem RA_unrenC {g : Nat → Nat} {E1 E2 : Env} {r1 r2 : Rs} {w : World} (hA : AliasC g E1 r1 E2 r2) : ∀ (a : AV) (x : Value), wfA r1.length a = true → RA E2 r2 w (ren g a) x → RA E1 r1 w a x
  | .d y, x, _, h => by simp only [RA, ren] at h ⊢; rw [hA.T]; exact h
  | .sl m sz n xs, x, hf, h => by
    simp only [RA, ren] at h ⊢
    obtain ⟨hl, A, c, rfl, hc, hr, hm⟩ := h
    rw [← hA.T] at hr
    refine ⟨hl, A, c, rfl, hc, hr, ?_⟩
    cases m with
    | full => exact hm
    | sp ys => rw [show MoOK E1 r1 w sz n xs.length A c (.sp ys) = MoOK E2 r2 w sz n xs.length A c (.sp ys) by simp only [MoOK, hA.T]]; exact hm
    | own i =>
      have hi : i < r1.length := by simpa [wfA, wfM] using hf
      refine ⟨hi, fun k hk => ?_⟩
      have := hm.2 k (hA.tok i _ hk)
      rw [← hA.bl i hi] at this
      exact this
  | .ptr i off, x, hf, h => by
    simp only [RA, ren] at h ⊢
    have hi : i < r1.length := by simpa [wfA] using hf
    refine ⟨hi, fun l hl => ?_⟩
    rw [hA.bl i hi]
    obtain ⟨l2, h2, _⟩ := hA.obj i _ hl
    exact h.2 _ h2
  | .el xs, x, _, h => by simp only [RA, ren] at h ⊢; rw [hA.T]; exact h
  | .osl i off sz n, x, hf, h => by
    simp only [RA, ren] at h ⊢
    have hi : i < r1.length := by simpa [wfA] using hf
    obtain ⟨_, A, c, rfl, hc, h2⟩ := h
    refine ⟨hi, A, c, rfl, hc, fun l hl => ?_⟩
    obtain ⟨l2, hl2, hlen⟩ := hA.obj i _ hl
    have := h2 _ hl2
    rw [hlen] at this
    rw [hA.bl i hi]
    exact this
  | .tup l, x, hf, h => by
    simp only [RA, ren] at h ⊢; obtain ⟨vs, rfl, hr⟩ := h
    exact ⟨vs, rfl, RAL_unrenC hA l _ (by simpa [wfA] using hf) hr⟩
  | .agg l, x, hf, h => by
    simp only [RA, ren] at h ⊢; obtain ⟨vs, rfl, hr, h1⟩ := h
    exact ⟨vs, rfl, RAL_unrenC hA l _ (by simpa [wfA] using hf) hr, h1⟩
  | .fn f a b, x, hf, h => by
    simp only [RA, ren] at h ⊢
    obtain ⟨vs, us, rfl, h1, h2⟩ := h
    simp only [wfA, Bool.and_eq_true] at hf
    exact ⟨vs, us, rfl, RAL_unrenC hA a _ hf.1 h1, RAL_unrenC hA b _ hf.2 h2⟩
  | .mp i, x, hf, h => by
    simp only [RA, ren] at h ⊢
    have hi : i < r1.length := by simpa [wfA] using hf
    refine ⟨hi, fun l hl => ?_⟩
    rw [hA.bl i hi]
    obtain ⟨l2, h2⟩ := hA.map i _ hl
    exact h.2 _ h2
  | .top, _, _, _ => by simp [RA]
theorem RAL_unrenC {g : Nat → Nat} {E1 E2 : Env} {r1 r2 : Rs} {w : World} (hA : AliasC g E1 r1 E2 r2) : ∀ (l : List AV) (vs : List Value), wfL r1.length l = true → RAL E2 r2 w (renL g l) vs → RAL E1 r1 w l vs
  | [], _, _, h => by simpa [RAL, renL] using h
  | a :: l, vs, hf, h => by
    simp only [wfL, Bool.and_eq_true] at hf
    simp only [RAL, renL] at h ⊢
    obtain ⟨v, rest, rfl, h1, h2⟩ := h
    exact ⟨v, rest, rfl, RA_unrenC hA a v hf.1 h1, RAL_unrenC hA l rest hf.2 h2⟩
end

/-- Each thing that is named behind is named ahead, by its old name. -/
def hRes (n : Nat) (F : List Nat) (g : Nat → Nat) (y : Option (Option Res)) : Res → Prop
  | .tok k => y = some (some (.tok k))
  | .obj l => ∃ l0, y = some (some (.obj l0)) ∧ WkFs n F l0 (renL g l)
  | .map l => y = some (some (.map l))
def hfit (n : Nat) (F : List Nat) (g : Nat → Nat) (r : Rs) : Nat → Rs → Prop
  | _, [] => True
  | k, none :: re => hfit n F g r (k + 1) re
  | k, some x :: re => hRes n F g r[g k]? x ∧ hfit n F g r (k + 1) re
theorem hfit_at {n : Nat} {F : List Nat} {g : Nat → Nat} {r : Rs} : ∀ {re : Rs} {k i : Nat} {x : Res}, hfit n F g r k re → re[i]? = some (some x) → hRes n F g r[g (k + i)]? x
  | [], k, i, x, _, h => by simp at h
  | none :: re, k, 0, x, _, h => by simp at h
  | none :: re, k, i + 1, x, hf, h => by
    have := hfit_at (re := re) (k := k + 1) (i := i) hf (by simpa using h)
    rwa [Nat.add_right_comm] at this
  | some y :: re, k, 0, x, hf, h => by simp at h; subst h; exact hf.1
  | some y :: re, k, i + 1, x, hf, h => by
    have := hfit_at (re := re) (k := k + 1) (i := i) hf.2 (by simpa using h)
    rwa [Nat.add_right_comm] at this
def idxs : Nat → Rs → List Nat
  | _, [] => []
  | k, none :: r => idxs (k + 1) r
  | k, some _ :: r => k :: idxs (k + 1) r
theorem idxs_mem : ∀ {r : Rs} {k i : Nat} {x : Res}, r[i]? = some (some x) → k + i ∈ idxs k r
  | [], k, i, x, h => by simp at h
  | none :: r, k, 0, x, h => by simp at h
  | none :: r, k, i + 1, x, h => by
    have := idxs_mem (r := r) (k := k + 1) (i := i) (x := x) (by simpa using h)
    simp only [idxs]; rwa [Nat.add_right_comm] at this
  | some y :: r, k, 0, x, h => by simp [idxs]
  | some y :: r, k, i + 1, x, h => by
    have := idxs_mem (r := r) (k := k + 1) (i := i) (x := x) (by simpa using h)
    simp only [idxs, List.mem_cons]; right; rwa [Nat.add_right_comm] at this
def ndB : List Nat → Bool
  | [] => true
  | a :: l => !l.contains a && ndB l
def hOK (m : Nat) (L : List Nat) (re : Rs) : Bool := ndB ((idxs 0 re).map (hn L)) && (idxs 0 re).all fun k => Nat.ble m k || hn L k == k
theorem ndB_inj {f : Nat → Nat} : ∀ {l : List Nat}, ndB (l.map f) = true → ∀ i ∈ l, ∀ j ∈ l, f i = f j → i = j
  | [], _, i, hi, _, _, _ => by simp at hi
  | a :: l, h, i, hi, j, hj, he => by
    simp only [List.map_cons, ndB, Bool.and_eq_true, Bool.not_eq_true', List.contains_eq_mem, decide_eq_false_iff_not] at h
    simp only [List.mem_cons] at hi hj
    rcases hi with rfl | hi <;> rcases hj with rfl | hj
    · rfl
    · exact absurd (List.mem_map.2 ⟨j, hj, he.symm⟩) h.1
    · exact absurd (List.mem_map.2 ⟨i, hi, he⟩) h.1
    · exact ndB_inj h.2 i hi j hj he

section core
variable {G : Nat → List D} {E : Env} {r re : Rs} {w : World} {L : List Nat} {m : Nat} {F : List Nat}
def envH (E : Env) (n : Nat) (L : List Nat) : Env := ⟨E.T, fun k => (envT E n).bl (hn L k)⟩
theorem alias_of (hf : hfit r.length F (hn L) (r ++ tks F) 0 re) : AliasC (hn L) (envH E r.length L) re (envT E r.length) (r ++ tks F) := by
  have hat : ∀ {i : Nat} {x : Res}, re[i]? = some (some x) → hRes r.length F (hn L) (r ++ tks F)[hn L i]? x := fun {i} {x} h => by
    have := hfit_at hf h
    rwa [Nat.zero_add] at this
  refine ⟨rfl, fun _ _ => rfl, fun i k h => hat h, fun i l h => ?_, fun i l h => ⟨l, hat h⟩⟩
  obtain ⟨l0, h0, hk⟩ := hat h
  have := hk.len
  rw [renL_length] at this
  exact ⟨l0, h0, this⟩
theorem good_ren (hG : Good G E r w) (hf : hfit r.length F (hn L) (r ++ tks F) 0 re) (hok : hOK m L re = true) (hwr : wfRs re.length re = true) : Good G (envH E r.length L) re w := by
  have hA := alias_of (E := E) hf
  have hG2 := good_tks hG F
  have hat : ∀ {i : Nat} {x : Res}, re[i]? = some (some x) → hRes r.length F (hn L) (r ++ tks F)[hn L i]? x := fun {i} {x} h => by
    have := hfit_at hf h
    rwa [Nat.zero_add] at this
  simp only [hOK, Bool.and_eq_true] at hok
  have look : ∀ {i : Nat} {x : Res}, re[i]? = some (some x) → ∃ y, (r ++ tks F)[hn L i]? = some (some y) := fun {i} {x} h => by
    have := hat h
    cases x with
    | tok k => exact ⟨_, this⟩
    | obj l => obtain ⟨l0, h0, _⟩ := this; exact ⟨_, h0⟩
    | map l => exact ⟨_, this⟩
  refine ⟨fun i k b hi hb => hG2.tok _ k b (hat hi) hb, fun i l hi => ?_, fun i l hi => ?_, fun i j x y b hi hj hbi hbj => ?_, hG.fresh, hG.glob⟩
  · obtain ⟨l0, h0, hk⟩ := hat hi
    by_cases hlt : hn L i < r.length
    · rw [List.getElem?_append_left hlt] at h0
      obtain ⟨b, hb, h1, vs, e, h2, h3, h4⟩ := hG.obj _ _ h0
      exact ⟨b, (envT_lt hlt).trans hb, h1, vs, e, h2, RAL_unrenC hA l _ (wfRs_at hwr hi) (hk.sound hG h3), h4⟩
    · rw [List.getElem?_append_right (by omega)] at h0
      obtain ⟨k, _, he⟩ := tks_get h0
      cases he
  · obtain ⟨b, hb, h1, h2⟩ := hG2.map _ _ (hat hi)
    exact ⟨b, hb, h1, h2⟩
  · obtain ⟨x', hx'⟩ := look hi
    obtain ⟨y', hy'⟩ := look hj
    have := hG2.one _ _ _ _ b hx' hy' hbi hbj
    have h1 := idxs_mem (k := 0) hi
    have h2 := idxs_mem (k := 0) hj
    rw [Nat.zero_add] at h1 h2
    exact ndB_inj hok.1 i h1 j h2 this
theorem step_ren {E0 : Env} {r0 : Rs} {w0 : World} (hG : Good G E r w) (hS : Step E0 r0 w0 E r w) (hf : hfit r.length F (hn L) (r ++ tks F) 0 re) (hok : hOK m L re = true) (hm : r0.length ≤ m) (hml : m ≤ re.length) : Step E0 r0 w0 (envH E r.length L) re w := by
  have hS2 := hS.trans (step_tks hG F)
  have hat : ∀ {i : Nat} {x : Res}, re[i]? = some (some x) → hRes r.length F (hn L) (r ++ tks F)[hn L i]? x := fun {i} {x} h => by
    have := hfit_at hf h
    rwa [Nat.zero_add] at this
  simp only [hOK, Bool.and_eq_true] at hok
  have same : ∀ {i : Nat} {x : Res}, i < r0.length → re[i]? = some (some x) → hn L i = i := fun {i} {x} hi h => by
    have h1 := idxs_mem (k := 0) h
    rw [Nat.zero_add] at h1
    have := List.all_eq_true.1 hok.2 i h1
    simp only [Bool.or_eq_true, beq_iff_eq] at this
    rcases this with h2 | h2
    · have := Nat.le_of_ble_eq_true h2; omega
    · exact h2
  refine ⟨hS2.os, hS2.tape, hS2.output, hS2.size, hS2.block, fun b ⟨i, x, hi, hb⟩ => ?_, hS2.lasts, hS2.shape, ⟨by omega, fun i k hi h => ?_, fun i l hi h => ?_, fun i l hi h => ?_⟩⟩
  · refine hS2.own b ?_
    have := hat hi
    cases x with
    | tok k => exact ⟨_, _, this, hb⟩
    | obj l => obtain ⟨l0, h0, _⟩ := this; exact ⟨_, _, h0, hb⟩
    | map l => exact ⟨_, _, this, hb⟩
  · have hsm := same hi h
    have h1 := hat h
    simp only [hRes, hsm] at h1
    obtain ⟨k2, h2, h3, h4⟩ := hS2.names.tok i k hi h1
    refine ⟨k2, h2, h3, fun he => ?_⟩
    show (envT E r.length).bl (hn L i) = _
    rw [hsm]; exact h4 he
  · have hsm := same hi h
    have h1 := hat h
    simp only [hRes, hsm] at h1
    obtain ⟨l0, h1, hk⟩ := h1
    obtain ⟨l2, h2, h3, h4⟩ := hS2.names.obj i l0 hi h1
    have := hk.len
    rw [renL_length] at this
    refine ⟨l2, h2, by omega, ?_⟩
    show (envT E r.length).bl (hn L i) = _
    rw [hsm]; exact h4
  · have hsm := same hi h
    have h1 := hat h
    simp only [hRes, hsm] at h1
    obtain ⟨l2, h2, h3⟩ := hS2.names.map i l hi h1
    refine ⟨l2, h2, ?_⟩
    show (envT E r.length).bl (hn L i) = _
    rw [hsm]; exact h3
theorem RA_fit (hG : Good G E r w) (hf : hfit r.length F (hn L) (r ++ tks F) 0 re) {a b : AV} {x : Value} (hb : wfA re.length b = true) (hk : WkF r.length F a (ren (hn L) b)) (h : RA E r w a x) : RA (envH E r.length L) re w b x :=
  RA_unrenC (alias_of hf) b x hb (hk.sound hG h)
end core

def WkLR (n : Nat) (F : List Nat) (g : Nat → Nat) (σ : St) : List (Nat × AV) → Prop
  | [] => True
  | (k, v) :: l => WkF n F (σ.get k) (ren g v) ∧ WkLR n F g σ l
theorem WkLR_mem {n : Nat} {F : List Nat} {g : Nat → Nat} {σ : St} : ∀ {l : List (Nat × AV)} {k : Nat} {v : AV}, WkLR n F g σ l → (k, v) ∈ l → WkF n F (σ.get k) (ren g v)
  | (k', v') :: l, k, v, h, hm => by
    simp only [WkLR] at h
    simp only [List.mem_cons, Prod.mk.injEq] at hm
    rcases hm with ⟨rfl, rfl⟩ | hm
    · exact h.1
    · exact WkLR_mem h.2 hm
/-- The state says no less than the form, by other names: 'L' holds the old name behind each new one; from the end on, 'F' new rows. -/
def FitR (m : Nat) (L F : List Nat) (σ : St) (st : List (Nat × AV)) (re : Rs) : Prop :=
  WkLR σ.r.length F (hn L) σ st ∧ wfSt re.length st = true ∧ hfit σ.r.length F (hn L) (σ.r ++ tks F) 0 re ∧ wfRs re.length re = true ∧ hOK m L re = true ∧ Nat.ble m re.length = true
section
variable {P : Program} {ti : Ti} {G : Nat → List D} {N : Nat}
theorem Rel.fitR {E E0 : Env} {r0 : Rs} {w0 : World} {σ : St} {a : Act} {w : World} {st : List (Nat × AV)} {re : Rs} {m : Nat} {L F : List Nat} (h : Rel G N E σ a w) (hS : Step E0 r0 w0 E σ.r w) (hm : r0.length ≤ m) (hf : FitR m L F σ st re) :
    Rel G N (envH E σ.r.length L) ⟨fun _ => .top, st, re⟩ a w ∧ Step E0 r0 w0 (envH E σ.r.length L) re w := by
  obtain ⟨wk, wf, rs, wfr, hok, hle⟩ := hf
  refine ⟨⟨h.size, fun i => ?_, good_ren h.good rs hok wfr, h.defers⟩, step_ren h.good hS rs hok hm (Nat.le_of_ble_eq_true hle)⟩
  show RA _ re w (lk st (fun _ => .top) i) _
  rcases lk_cases st (fun _ => AV.top) i with ⟨v, hv, he⟩ | ⟨_, he⟩
  · rw [he]
    exact RA_fit h.good rs (wfSt_mem wf hv) (WkLR_mem wk hv) (h.slot i)
  · rw [he]; simp [RA]
theorem HC_loopR {body : Code} {K : KD} {σ : St} {ι : Type} (st : ι → List (Nat × AV)) (re : ι → Rs) (p : ι → Prop) (μ : ι → Nat) (i0 : ι) (L F : List Nat) (h0 : p i0) (hf : FitR σ.r.length L F σ (st i0) (re i0))
    (round : ∀ i, p i → HC P ti G N body (.loop (fun σ' => ∃ j, p j ∧ μ j < μ i ∧ ∃ L F, FitR σ.r.length L F σ' (st j) (re j)) K) ⟨fun _ => .top, st i, re i⟩) : HC P ti G N (.loop body) K σ := by
  intro E0 r0 w0 E a w hR hS
  have hlen : r0.length ≤ σ.r.length := hS.names.len
  have hstart := hR.fitR hS hlen hf
  refine wp_loop_g (fun m a' w' => ∃ i E', p i ∧ μ i = m ∧ Rel G N E' ⟨fun _ => .top, st i, re i⟩ a' w' ∧ Step E0 r0 w0 E' (re i) w') (n0 := μ i0)
    ⟨i0, _, h0, rfl, hstart.1, hstart.2⟩ ?_
  intro m a w hI
  obtain ⟨i, E', hp, hm, hR', hS'⟩ := hI
  subst hm
  refine wp_mono (round i hp E0 r0 w0 E' a w hR' hS') fun e a1 w1 hq => ?_
  obtain ⟨σ1, E1, hk, hR1, hS1⟩ := hq
  cases e with
  | normal =>
    obtain ⟨j, hpj, hlt, L', F', hfit⟩ := hk
    have h2 := hR1.fitR hS1 hlen hfit
    exact ⟨μ j, hlt, j, _, hpj, rfl, h2.1, h2.2⟩
  | _ => exact ⟨σ1, E1, hk, hR1, hS1⟩
/-- The state in another form, at a loop or a drawn region. -/
theorem HC_fitR {c : Code} {K : KD} {σ : St} (st : List (Nat × AV)) (re : Rs) (L F : List Nat) (hf : FitR σ.r.length L F σ st re) (h : HC P ti G N c K ⟨fun _ => .top, st, re⟩) : HC P ti G N c K σ := by
  intro E0 r0 w0 E a w hR hS
  have h2 := hR.fitR hS hS.names.len hf
  exact h E0 r0 w0 _ a w h2.1 h2.2

/-! ### A result in another form -/
def WkFT (n : Nat) (F : List Nat) (a b : AV) : Prop := WkF n F a b ∨ ∃ l l0, a = .tup l ∧ b = .tup l0 ∧ WkFs n F l l0
theorem WkFT.one {n : Nat} {F : List Nat} {a b : AV} (h : WkF n F a b) : WkFT n F a b := .inl h
theorem WkFT.tup {n : Nat} {F : List Nat} {l m : List AV} (h : WkFs n F l m) : WkFT n F (.tup l) (.tup m) := .inr ⟨l, m, rfl, rfl, h⟩
theorem WkFT.sound {E : Env} {r : Rs} {w : World} (hG : Good G E r w) {F : List Nat} {a b : AV} {x : Value} (h : WkFT r.length F a b) (hr : RA E r w a x) : RA (envT E r.length) (r ++ tks F) w b x := by
  rcases h with h | ⟨l, l0, rfl, rfl, h⟩
  · exact h.sound hG hr
  · simp only [RA] at hr ⊢
    obtain ⟨vs, h1, h2⟩ := hr
    exact ⟨vs, h1, h.sound hG h2⟩
/-- What a result says, by other names. -/
def FitV (m : Nat) (L F : List Nat) (v : AV) (r : Rs) (v' : AV) (re : Rs) : Prop :=
  WkFT r.length F v (ren (hn L) v') ∧ wfA re.length v' = true ∧ hfit r.length F (hn L) (r ++ tks F) 0 re ∧ wfRs re.length re = true ∧ hOK m L re = true ∧ Nat.ble m re.length = true
theorem AC.fit {f : FuncId} {args : List AV} {r : Rs} {O : AV → Rs → Prop} (h : AC P G f args r fun v r' => ∃ v1 r1 L F, O v1 r1 ∧ FitV r.length L F v r' v1 r1) : AC P G f args r O := by
  refine ⟨h.1, fun E w vals hG hA => (h.2 E w vals hG hA).mono fun e w' ⟨v, x, r', E', he, ⟨v1, r1, L, F, hO, hf⟩, h1, h2, h3⟩ => ?_⟩
  obtain ⟨wk, wf, rs, wfr, hok, hle⟩ := hf
  exact ⟨v1, x, r1, _, he, hO, RA_unrenC (alias_of rs) v1 x wf (wk.sound h2 h1), good_ren h2 rs hok wfr, step_ren h2 h3 rs hok (Nat.le_refl _) (Nat.le_of_ble_eq_true hle)⟩
end
end Go.Proofs.YteeknmjjpcbphaaDoor
