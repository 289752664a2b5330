/- The frame of these proofs, part R: contracts of functions, and calls. -/
import Derived.Test.YteeknmjjpcbphaaDoorCQ
set_option linter.unusedVariables false
set_option linter.unusedSimpArgs false
namespace Go.Proofs.YteeknmjjpcbphaaDoor
open Go

/-! ### Other names for the same -/
def renM (g : Nat → Nat) : Mo → Mo
  | .full => .full
  | .own i => .own (g i)
  | .sp ys => .sp ys
mutual
def ren (g : Nat → Nat) : AV → AV
  | .d x => .d x
  | .sl m sz n xs => .sl (renM g m) sz n xs
  | .ptr i off => .ptr (g i) off
  | .el xs => .el xs
  | .osl i off sz n => .osl (g i) off sz n
  | .tup l => .tup (renL g l)
  | .agg l => .agg (renL g l)
  | .fn f a b => .fn f (renL g a) (renL g b)
  | .mp i => .mp (g i)
  | .top => .top
def renL (g : Nat → Nat) : List AV → List AV
  | [] => []
  | a :: l => ren g a :: renL g l
end
def renRes (g : Nat → Nat) : Res → Res
  | .tok k => .tok k
  | .obj l => .obj (renL g l)
  | .map l => .map l
theorem renL_length (g : Nat → Nat) : ∀ l, (renL g l).length = l.length
  | [] => rfl
  | a :: l => by simp [renL, renL_length g l]
/-- Names of one list for another's. -/
structure Alias (g : Nat → Nat) (E1 : Env) (r1 : Rs) (E2 : Env) (r2 : Rs) : Prop where
  T : E1.T = E2.T
  bl : ∀ i, i < r1.length → E1.bl i = E2.bl (g i)
  lt : ∀ i, i < r1.length → g i < r2.length
  fwd : ∀ (i : Nat) (y : Res), i < r1.length → r2[g i]? = some (some y) → ∃ x, r1[i]? = some (some x) ∧ y = renRes g x
  bwd : ∀ (i : Nat) (x : Res), r1[i]? = some (some x) → r2[g i]? = some (some (renRes g x))
mutual
theorem RA_ren {g : Nat → Nat} {E1 E2 : Env} {r1 r2 : Rs} {w : World} (hA : Alias g E1 r1 E2 r2) : ∀ (a : AV) (x : Value), RA E1 r1 w a x → RA E2 r2 w (ren g a) x
  | .d y, x, h => by simp only [RA, ren] at h ⊢; rw [← hA.T]; exact h
  | .sl m sz n xs, x, h => by
    simp only [RA, ren] at h ⊢
    obtain ⟨hl, A, c, rfl, hc, hr, hm⟩ := h
    rw [hA.T] at hr
    refine ⟨hl, A, c, rfl, hc, hr, ?_⟩
    cases m with
    | full => exact hm
    | sp ys => rw [show MoOK E1 r1 w sz n xs.length A c (.sp ys) = MoOK E2 r2 w sz n xs.length A c (.sp ys) by simp only [MoOK, hA.T]] at hm; exact hm
    | own i =>
      refine ⟨hA.lt i hm.1, fun k hk => ?_⟩
      obtain ⟨y, hy, he⟩ := hA.fwd i _ hm.1 hk
      cases y with
      | tok k' =>
        simp only [renRes] at he
        injection he with he; subst he
        have := hm.2 _ hy
        rw [hA.bl i hm.1] at this
        exact this
      | obj l => cases he
      | map l => cases he
  | .ptr i off, x, h => by
    simp only [RA, ren] at h ⊢
    refine ⟨hA.lt i h.1, fun l hl => ?_⟩
    obtain ⟨y, hy, he⟩ := hA.fwd i _ h.1 hl
    cases y with
    | obj l' => rw [← hA.bl i h.1]; exact h.2 l' hy
    | tok k => cases he
    | map l => cases he
  | .el xs, x, h => by simp only [RA, ren] at h ⊢; rw [← hA.T]; exact h
  | .osl i off sz n, x, h => by
    simp only [RA, ren] at h ⊢
    obtain ⟨h1, A, c, rfl, hc, h2⟩ := h
    refine ⟨hA.lt i h1, A, c, rfl, hc, fun l hl => ?_⟩
    obtain ⟨y, hy, he⟩ := hA.fwd i _ h1 hl
    cases y with
    | obj l' =>
      simp only [renRes] at he
      injection he with he; subst he
      rw [renL_length, ← hA.bl i h1]
      exact h2 l' hy
    | tok k => cases he
    | map l => cases he
  | .tup l, x, h => by
    simp only [RA, ren] at h ⊢; obtain ⟨vs, rfl, hr⟩ := h
    exact ⟨vs, rfl, RAL_ren hA l _ hr⟩
  | .agg l, x, h => by
    simp only [RA, ren] at h ⊢; obtain ⟨vs, rfl, hr, h1⟩ := h
    exact ⟨vs, rfl, RAL_ren hA l _ hr, h1⟩
  | .fn f a b, x, h => by
    simp only [RA, ren] at h ⊢
    obtain ⟨vs, us, rfl, h1, h2⟩ := h
    exact ⟨vs, us, rfl, RAL_ren hA a _ h1, RAL_ren hA b _ h2⟩
  | .mp i, x, h => by
    simp only [RA, ren] at h ⊢
    refine ⟨hA.lt i h.1, fun l hl => ?_⟩
    obtain ⟨y, hy, he⟩ := hA.fwd i _ h.1 hl
    cases y with
    | map l' => rw [← hA.bl i h.1]; exact h.2 l' hy
    | tok k => cases he
    | obj l => cases he
  | .top, _, _ => by simp [RA, ren]
theorem RAL_ren {g : Nat → Nat} {E1 E2 : Env} {r1 r2 : Rs} {w : World} (hA : Alias g E1 r1 E2 r2) : ∀ (l : List AV) (vs : List Value), RAL E1 r1 w l vs → RAL E2 r2 w (renL g l) vs
  | [], _, h => by simpa [RAL, renL] using h
  | a :: l, vs, h => by
    simp only [RAL, renL] at h ⊢
    obtain ⟨v, rest, rfl, h1, h2⟩ := h
    exact ⟨v, rest, rfl, RA_ren hA a v h1, RAL_ren hA l rest h2⟩
end
structure AliasB (g : Nat → Nat) (E1 : Env) (r1 : Rs) (E2 : Env) (r2 : Rs) : Prop where
  T : E1.T = E2.T
  bl : ∀ i, i < r1.length → E1.bl i = E2.bl (g i)
  bwd : ∀ (i : Nat) (x : Res), r1[i]? = some (some x) → r2[g i]? = some (some (renRes g x))
mutual
theorem RA_unren {g : Nat → Nat} {E1 E2 : Env} {r1 r2 : Rs} {w : World} (hA : AliasB g E1 r1 E2 r2) : ∀ (a : AV) (x : Value), wfA r1.length a = true → RA E2 r2 w (ren g a) x → RA E1 r1 w a x
  | .d y, x, _, h => by simp only [RA, ren] at h ⊢; rw [hA.T]; exact h
  | .sl m sz n xs, x, hf, h => by
    simp only [RA, ren] at h ⊢
    obtain ⟨hl, A, c, rfl, hc, hr, hm⟩ := h
    rw [← hA.T] at hr
    refine ⟨hl, A, c, rfl, hc, hr, ?_⟩
    cases m with
    | full => exact hm
    | sp ys => rw [show MoOK E1 r1 w sz n xs.length A c (.sp ys) = MoOK E2 r2 w sz n xs.length A c (.sp ys) by simp only [MoOK, hA.T]]; exact hm
    | own i =>
      have hi : i < r1.length := by simpa [wfA, wfM] using hf
      refine ⟨hi, fun k hk => ?_⟩
      have := hm.2 k (hA.bwd i _ hk)
      rw [← hA.bl i hi] at this
      exact this
  | .ptr i off, x, hf, h => by
    simp only [RA, ren] at h ⊢
    have hi : i < r1.length := by simpa [wfA] using hf
    refine ⟨hi, fun l hl => ?_⟩
    rw [hA.bl i hi]
    exact h.2 _ (hA.bwd i _ hl)
  | .el xs, x, _, h => by simp only [RA, ren] at h ⊢; rw [hA.T]; exact h
  | .osl i off sz n, x, hf, h => by
    simp only [RA, ren] at h ⊢
    have hi : i < r1.length := by simpa [wfA] using hf
    obtain ⟨_, A, c, rfl, hc, h2⟩ := h
    refine ⟨hi, A, c, rfl, hc, fun l hl => ?_⟩
    have := h2 _ (hA.bwd i _ hl)
    rw [renL_length] at this
    rw [hA.bl i hi]
    exact this
  | .tup l, x, hf, h => by
    simp only [RA, ren] at h ⊢; obtain ⟨vs, rfl, hr⟩ := h
    exact ⟨vs, rfl, RAL_unren hA l _ (by simpa [wfA] using hf) hr⟩
  | .agg l, x, hf, h => by
    simp only [RA, ren] at h ⊢; obtain ⟨vs, rfl, hr, h1⟩ := h
    exact ⟨vs, rfl, RAL_unren hA l _ (by simpa [wfA] using hf) hr, h1⟩
  | .fn f a b, x, hf, h => by
    simp only [RA, ren] at h ⊢
    obtain ⟨vs, us, rfl, h1, h2⟩ := h
    simp only [wfA, Bool.and_eq_true] at hf
    exact ⟨vs, us, rfl, RAL_unren hA a _ hf.1 h1, RAL_unren hA b _ hf.2 h2⟩
  | .mp i, x, hf, h => by
    simp only [RA, ren] at h ⊢
    have hi : i < r1.length := by simpa [wfA] using hf
    refine ⟨hi, fun l hl => ?_⟩
    rw [hA.bl i hi]
    exact h.2 _ (hA.bwd i _ hl)
  | .top, _, _, _ => by simp [RA]
theorem RAL_unren {g : Nat → Nat} {E1 E2 : Env} {r1 r2 : Rs} {w : World} (hA : AliasB g E1 r1 E2 r2) : ∀ (l : List AV) (vs : List Value), wfL r1.length l = true → RAL E2 r2 w (renL g l) vs → RAL E1 r1 w l vs
  | [], _, _, h => by simpa [RAL, renL] using h
  | a :: l, vs, hf, h => by
    simp only [wfL, Bool.and_eq_true] at hf
    simp only [RAL, renL] at h ⊢
    obtain ⟨v, rest, rfl, h1, h2⟩ := h
    exact ⟨v, rest, rfl, RA_unren hA a v hf.1 h1, RAL_unren hA l rest hf.2 h2⟩
end

/-! ### Contracts -/
/-- A call with these arguments, of which it may write what 'r' names, comes to what 'O' says. -/
def AC (P : Program) (G : Nat → List D) (f : FuncId) (args : List AV) (r : Rs) (O : AV → Rs → Prop) : Prop :=
  (∀ (as : Array Value) (w : World), (callFunc f as).run P w = .ok (.enter f as) w) ∧
  ∀ (E : Env) (w : World) (vals : Array Value), Good G E r w → RAL E r w args vals.toList →
    Calls P f vals w fun e w' => ∃ v x r' E', e = .returned x ∧ O v r' ∧ RA E' r' w' v x ∧ Good G E' r' w' ∧ Step E r w E' r' w'
theorem AC.mono {P : Program} {G : Nat → List D} {f : FuncId} {args : List AV} {r : Rs} {O O' : AV → Rs → Prop} (h : AC P G f args r O) (hO : ∀ v r', O v r' → O' v r') : AC P G f args r O' :=
  ⟨h.1, fun E w vals hG hA => (h.2 E w vals hG hA).mono fun e w' ⟨v, x, r', E', he, ho, rest⟩ => ⟨v, x, r', E', he, hO _ _ ho, rest⟩⟩

/-- The name behind the call. -/
def nm (ts : List Nat) (n j : Nat) : Nat := ts.getD j (n + (j - ts.length))
/-- The caller's names behind the call: what was handed over is as the call left it; what is new comes last. -/
def putAll (g : Nat → Nat) : Rs → List Nat → Rs → Rs
  | rc, t :: ts, x :: r' => putAll g (rc.set t (x.map (renRes g))) ts r'
  | rc, [], r' => rc ++ r'.map (Option.map (renRes g))
  | rc, _ :: _, [] => rc
end Go.Proofs.YteeknmjjpcbphaaDoor
