/- The frame of these proofs, part Q: forgetting, loops, a row's name. -/
import Derived.Test.YteeknmjjpcbphaaDoorCO
set_option linter.unusedVariables false
set_option linter.unusedSimpArgs false
namespace Go.Proofs.YteeknmjjpcbphaaDoor
open Go

/-! ### All names lie below a bound -/
def wfM (n : Nat) : Mo → Bool
  | .full => true
  | .own i => decide (i < n)
  | .sp _ => true
mutual
def wfA (n : Nat) : AV → Bool
  | .d _ => true
  | .sl m _ _ _ => wfM n m
  | .ptr i _ => decide (i < n)
  | .el _ => true
  | .osl i _ _ _ => decide (i < n)
  | .tup l => wfL n l
  | .agg l => wfL n l
  | .fn _ a b => wfL n a && wfL n b
  | .mp i => decide (i < n)
  | .top => true
def wfL (n : Nat) : List AV → Bool
  | [] => true
  | a :: l => wfA n a && wfL n l
end
mutual
theorem RA_wf {E : Env} {r : Rs} {w : World} : ∀ (a : AV) (x : Value), RA E r w a x → wfA r.length a = true
  | .d _, _, _ => rfl
  | .sl m sz n xs, x, h => by
    simp only [RA] at h
    obtain ⟨_, A, c, _, _, _, hm⟩ := h
    cases m with
    | full => rfl
    | own i => simpa [wfA, wfM] using hm.1
    | sp ys => rfl
  | .ptr i off, x, h => by simp only [RA] at h; simpa [wfA] using h.1
  | .el _, _, _ => rfl
  | .osl i off sz n, x, h => by simp only [RA] at h; simpa [wfA] using h.1
  | .tup l, x, h => by simp only [RA] at h; obtain ⟨vs, _, hr⟩ := h; simpa [wfA] using RAL_wf l _ hr
  | .agg l, x, h => by simp only [RA] at h; obtain ⟨vs, _, hr, _⟩ := h; simpa [wfA] using RAL_wf l _ hr
  | .fn f a b, x, h => by
    simp only [RA] at h
    obtain ⟨vs, us, _, h1, h2⟩ := h
    simp [wfA, RAL_wf a _ h1, RAL_wf b _ h2]
  | .mp i, x, h => by simp only [RA] at h; simpa [wfA] using h.1
  | .top, _, _ => rfl
theorem RAL_wf {E : Env} {r : Rs} {w : World} : ∀ (l : List AV) (vs : List Value), RAL E r w l vs → wfL r.length l = true
  | [], _, _ => rfl
  | a :: l, vs, h => by
    simp only [RAL] at h
    obtain ⟨v, rest, rfl, h1, h2⟩ := h
    simp [wfL, RA_wf a v h1, RAL_wf l rest h2]
end
/-- Names are forgotten: from the end, or in their places. -/
structure WeakR (r r' : Rs) : Prop where
  len : r'.length ≤ r.length
  at_ : ∀ (i : Nat) (x : Res), r'[i]? = some (some x) → r[i]? = some (some x)
theorem WeakR.refl (r : Rs) : WeakR r r := ⟨Nat.le_refl _, fun _ _ h => h⟩
mutual
theorem RA_weak {E : Env} {r r' : Rs} {w : World} (hW : WeakR r r') : ∀ (a : AV) (x : Value), wfA r'.length a = true → RA E r w a x → RA E r' w a x
  | .d _, _, _, h => by simpa [RA] using h
  | .sl m sz n xs, x, hf, h => by
    simp only [RA] at h ⊢
    obtain ⟨hl, A, c, rfl, hc, hr, hm⟩ := h
    refine ⟨hl, A, c, rfl, hc, hr, ?_⟩
    cases m with
    | full => exact hm
    | own i => exact ⟨by simpa [wfA, wfM] using hf, fun k hk => hm.2 k (hW.at_ _ _ hk)⟩
    | sp ys => exact hm
  | .ptr i off, x, hf, h => by
    simp only [RA] at h ⊢
    exact ⟨by simpa [wfA] using hf, fun l hl => h.2 l (hW.at_ _ _ hl)⟩
  | .el _, _, _, h => by simpa [RA] using h
  | .osl i off sz n, x, hf, h => by
    simp only [RA] at h ⊢
    obtain ⟨_, A, c, rfl, hc, h2⟩ := h
    exact ⟨by simpa [wfA] using hf, A, c, rfl, hc, fun l hl => h2 l (hW.at_ _ _ hl)⟩
  | .tup l, x, hf, h => by
    simp only [RA] at h ⊢; obtain ⟨vs, rfl, hr⟩ := h
    exact ⟨vs, rfl, RAL_weak hW l _ (by simpa [wfA] using hf) hr⟩
  | .agg l, x, hf, h => by
    simp only [RA] at h ⊢; obtain ⟨vs, rfl, hr, h1⟩ := h
    exact ⟨vs, rfl, RAL_weak hW l _ (by simpa [wfA] using hf) hr, h1⟩
  | .fn f a b, x, hf, h => by
    simp only [RA] at h ⊢
    obtain ⟨vs, us, rfl, h1, h2⟩ := h
    simp only [wfA, Bool.and_eq_true] at hf
    exact ⟨vs, us, rfl, RAL_weak hW a _ hf.1 h1, RAL_weak hW b _ hf.2 h2⟩
  | .mp i, x, hf, h => by
    simp only [RA] at h ⊢
    exact ⟨by simpa [wfA] using hf, fun l hl => h.2 l (hW.at_ _ _ hl)⟩
  | .top, _, _, _ => by simp [RA]
theorem RAL_weak {E : Env} {r r' : Rs} {w : World} (hW : WeakR r r') : ∀ (l : List AV) (vs : List Value), wfL r'.length l = true → RAL E r w l vs → RAL E r' w l vs
  | [], _, _, h => by simpa [RAL] using h
  | a :: l, vs, hf, h => by
    simp only [wfL, Bool.and_eq_true] at hf
    simp only [RAL] at h ⊢
    obtain ⟨v, rest, rfl, h1, h2⟩ := h
    exact ⟨v, rest, rfl, RA_weak hW a v hf.1 h1, RAL_weak hW l rest hf.2 h2⟩
end
/-- What the live structs hold names nothing that is forgotten. -/
def wfRs (n : Nat) : Rs → Bool
  | [] => true
  | some (.obj l) :: r => wfL n l && wfRs n r
  | _ :: r => wfRs n r
theorem wfRs_at {n : Nat} : ∀ {r : Rs} {i : Nat} {l : List AV}, wfRs n r = true → r[i]? = some (some (.obj l)) → wfL n l = true
  | [], i, l, _, h => by simp at h
  | x :: r, 0, l, hf, h => by
    simp at h; subst h
    simp only [wfRs, Bool.and_eq_true] at hf
    exact hf.1
  | x :: r, i + 1, l, hf, h => by
    simp at h
    refine wfRs_at (r := r) (i := i) ?_ h
    cases x with
    | none => simpa [wfRs] using hf
    | some x => cases x with
      | obj l' => simp only [wfRs, Bool.and_eq_true] at hf; exact hf.2
      | tok k => simpa [wfRs] using hf
      | map l' => simpa [wfRs] using hf
theorem Good.weak {G : Nat → List D} {E : Env} {r r' : Rs} {w : World} (hG : Good G E r w) (hW : WeakR r r') (hf : wfRs r'.length r' = true) : Good G E r' w := by
  refine ⟨fun i k b hi hb => hG.tok i k b (hW.at_ _ _ hi) hb, fun i l hi => ?_, fun i l hi => hG.map i l (hW.at_ _ _ hi), fun i j x y b hi hj => hG.one i j x y b (hW.at_ _ _ hi) (hW.at_ _ _ hj), hG.fresh, hG.glob⟩
  obtain ⟨b, hb, h1, vs, e, h2, h3, h4⟩ := hG.obj i l (hW.at_ _ _ hi)
  exact ⟨b, hb, h1, vs, e, h2, RAL_weak hW l _ (wfRs_at hf hi) h3, h4⟩
theorem Step.weak {E0 E : Env} {r0 r r' : Rs} {w0 w : World} (h : Step E0 r0 w0 E r w) (hW : WeakR r r') (hl : r0.length ≤ r'.length) : Step E0 r0 w0 E r' w := by
  refine ⟨h.os, h.tape, h.output, h.size, h.block, fun b hb => ?_, h.lasts, h.shape, ⟨hl, fun i k hi hr => h.names.tok i k hi (hW.at_ _ _ hr), fun i l hi hr => h.names.obj i l hi (hW.at_ _ _ hr), fun i l hi hr => h.names.map i l hi (hW.at_ _ _ hr)⟩⟩
  obtain ⟨i, x, hi, hbi⟩ := hb
  exact h.own b ⟨i, x, hW.at_ _ _ hi, hbi⟩

/-! ### Less is said of a value -/
def isNilSl : AV → Bool
  | .d (.c (.slice none 0 0)) => true
  | _ => false
/-- 'b' says no more than 'a'. -/
def WeakA (a b : AV) : Prop := b = .top ∨ a = b ∨ (∃ y, toD a = some y ∧ b = .d y) ∨ (isNilSl a = true ∧ ∃ sz, b = .sl .full sz 0 [] ∨ b = .d (.sl sz 0 []))
theorem WeakA.refl (a : AV) : WeakA a a := .inr (.inl rfl)
theorem WeakA.top (a : AV) : WeakA a .top := .inl rfl
theorem WeakA.toD {a : AV} {y : D} (h : YteeknmjjpcbphaaDoor.toD a = some y) : WeakA a (.d y) := .inr (.inr (.inl ⟨y, h, rfl⟩))
theorem WeakA.nilFull (sz : Nat) : WeakA (.d (.c (.slice none 0 0))) (.sl .full sz 0 []) := .inr (.inr (.inr ⟨rfl, sz, .inl rfl⟩))
theorem WeakA.nilD (sz : Nat) : WeakA (.d (.c (.slice none 0 0))) (.d (.sl sz 0 [])) := .inr (.inr (.inr ⟨rfl, sz, .inr rfl⟩))
theorem WeakA.sound {E : Env} {r : Rs} {w : World} {a b : AV} {x : Value} (h : WeakA a b) (hr : RA E r w a x) : RA E r w b x := by
  rcases h with rfl | rfl | ⟨y, hy, rfl⟩ | ⟨hn, sz, hb⟩
  · simp [RA]
  · exact hr
  · simpa [RA] using toD_sound a x y hr hy
  · unfold isNilSl at hn
    split at hn
    · simp only [RA, RD] at hr
      rcases hb with rfl | rfl
      · simp only [RA]
        exact ⟨by simp, none, 0, hr.1, Nat.le_refl _, .inl trivial, rfl⟩
      · simp only [RA, RD]
        exact ⟨by simp, none, 0, hr.1, Nat.le_refl _, .inl trivial⟩
    · cases hn

section
variable {P : Program} {ti : Ti} {G : Nat → List D} {N : Nat}

/-! ### A loop -/
def mask (mod : List Nat) (f : Nat → AV) : Nat → AV := fun i => if mod.contains i = true then .top else f i
theorem mask_in {mod : List Nat} {f : Nat → AV} {i : Nat} (h : mod.contains i = true) : mask mod f i = .top := if_pos h
theorem mask_out {mod : List Nat} {f : Nat → AV} {i : Nat} (h : mod.contains i = false) : mask mod f i = f i := by unfold mask; rw [h]; rfl
/-- What the slots of a list hold says no less than the list. -/
def WkL (σ : St) : List (Nat × AV) → Prop
  | [] => True
  | (k, v) :: l => WeakA (σ.get k) v ∧ WkL σ l
def wfSt (n : Nat) : List (Nat × AV) → Bool
  | [] => true
  | (_, v) :: l => wfA n v && wfSt n l
theorem lk_cases (l : List (Nat × AV)) (b : Nat → AV) (i : Nat) : (∃ v, (i, v) ∈ l ∧ lk l b i = v) ∨ ((∀ v, (i, v) ∉ l) ∧ lk l b i = b i) := by
  induction l with
  | nil => exact .inr ⟨fun _ => by simp, rfl⟩
  | cons p l ih =>
    obtain ⟨j, u⟩ := p
    simp only [lk]
    by_cases hij : i = j
    · subst hij
      rw [if_pos rfl]
      exact .inl ⟨u, by simp, rfl⟩
    · rw [if_neg hij]
      rcases ih with ⟨v, h1, h2⟩ | ⟨h1, h2⟩
      · exact .inl ⟨v, by simp [h1], h2⟩
      · exact .inr ⟨fun v hv => by
          simp only [List.mem_cons, Prod.mk.injEq] at hv
          rcases hv with ⟨e, _⟩ | hv
          · exact hij e
          · exact h1 v hv, h2⟩
theorem WkL_mem {σ : St} : ∀ {l : List (Nat × AV)} {k : Nat} {v : AV}, WkL σ l → (k, v) ∈ l → WeakA (σ.get k) v
  | (k', v') :: l, k, v, h, hm => by
    simp only [WkL] at h
    simp only [List.mem_cons, Prod.mk.injEq] at hm
    rcases hm with ⟨rfl, rfl⟩ | hm
    · exact h.1
    · exact WkL_mem h.2 hm
theorem wfSt_mem {n : Nat} : ∀ {l : List (Nat × AV)} {k : Nat} {v : AV}, wfSt n l = true → (k, v) ∈ l → wfA n v = true
  | (k', v') :: l, k, v, h, hm => by
    simp only [wfSt, Bool.and_eq_true] at h
    simp only [List.mem_cons, Prod.mk.injEq] at hm
    rcases hm with ⟨rfl, rfl⟩ | hm
    · exact h.1
    · exact wfSt_mem h.2 hm
def keysIn (mod : List Nat) (l : List (Nat × AV)) : Bool := l.all fun p => mod.contains p.1
/-- The state at a round's end fits the head's form. -/
structure Fits (mod : List Nat) (base : Nat → AV) (σ : St) (st : List (Nat × AV)) (re : Rs) : Prop where
  b : σ.b = mask mod base
  keys : keysIn mod σ.l = true
  wk : WkL σ st
  wf : wfSt re.length st = true
  rs : WeakR σ.r re
  wfr : wfRs re.length re = true
def loopK (mod : List Nat) (base : Nat → AV) {ι : Type} (st : ι → List (Nat × AV)) (re : ι → Rs) (p : ι → Prop) (μ : ι → Nat) (i : ι) (K : Kt) : Kt
  | .normal, σ => ∃ j, p j ∧ μ j < μ i ∧ Fits mod base σ (st j) (re j)
  | e, σ => K e σ
theorem Rel.fit {E : Env} {σ : St} {a : Act} {w : World} {mod : List Nat} {base : Nat → AV} {st : List (Nat × AV)} {re : Rs} (h : Rel G N E σ a w)
    (hget : ∀ i, mod.contains i = false → σ.get i = base i) (hwf : ∀ i, mod.contains i = false → wfA re.length (base i) = true)
    (wk : WkL σ st) (wf : wfSt re.length st = true) (rs : WeakR σ.r re) (wfr : wfRs re.length re = true) : Rel G N E ⟨mask mod base, st, re⟩ a w := by
  refine ⟨h.size, fun i => ?_, h.good.weak rs wfr, h.defers⟩
  show RA E re w (lk st (mask mod base) i) _
  rcases lk_cases st (mask mod base) i with ⟨v, hv, he⟩ | ⟨_, he⟩
  · rw [he]
    exact RA_weak rs v _ (wfSt_mem wf hv) ((WkL_mem wk hv).sound (h.slot i))
  · rw [he]
    by_cases hm : mod.contains i = true
    · rw [mask_in hm]; simp [RA]
    · have hm' : mod.contains i = false := by simpa using hm
      rw [mask_out hm']
      have := h.slot i
      rw [hget i hm'] at this
      exact RA_weak rs _ _ (hwf i hm') this
theorem keysIn_get {mod : List Nat} {base : Nat → AV} {σ : St} (hb : σ.b = mask mod base) (hk : keysIn mod σ.l = true) (i : Nat) (hi : mod.contains i = false) : σ.get i = base i := by
  show lk σ.l σ.b i = base i
  rcases lk_cases σ.l σ.b i with ⟨v, hv, _⟩ | ⟨_, he⟩
  · unfold keysIn at hk
    have := List.all_eq_true.1 hk _ hv
    simp only at this
    rw [hi] at this
    cases this
  · rw [he, hb, mask_out hi]
theorem wp_loop_g {c : Code} {Q : Exit → Act → World → Prop} (I : Nat → Act → World → Prop) {n0 : Nat} {a : Act} {w : World} (h₀ : I n0 a w)
    (round : ∀ n a w, I n a w → c.wp P (Exit.then (fun a' w' => ∃ m, m < n ∧ I m a' w') Q) a w) : (Code.loop c).wp P Q a w := by
  intro b k cs
  have key : ∀ n a w, I n a w → ∃ e a' w', Q e a' w' ∧ Arrives P (lone (b.at a (.code c :: .inLoop c :: k)) cs w) b k cs e a' w' := by
    intro n
    induction n using Nat.strongRecOn with
    | _ n ih =>
      intro a w hI
      obtain ⟨e, a₁, w₁, hq, harr⟩ := round n a w hI b (.inLoop c :: k) cs
      cases e with
      | normal =>
        obtain ⟨m, hlt, hI₁⟩ := hq
        obtain ⟨e₂, a₂, w₂, hq₂, harr₂⟩ := ih m hlt a₁ w₁ hI₁
        exact ⟨e₂, a₂, w₂, hq₂, .of_steps (Steps.trans harr (.one step_inLoop)) harr₂⟩
      | exit id => exact ⟨_, a₁, w₁, hq, .pass (x := .inLoop c) rfl (fun _ _ => .inl (by simp)) harr⟩
      | goto l => exact ⟨_, a₁, w₁, hq, .pass (x := .inLoop c) rfl (fun _ _ => .inl (by simp)) harr⟩
      | ret => exact ⟨_, a₁, w₁, hq, .pass (x := .inLoop c) rfl (fun _ _ => .inl (by simp)) harr⟩
      | panic ch => exact ⟨_, a₁, w₁, hq, .pass (x := .inLoop c) rfl (fun _ _ => .inl (by simp)) harr⟩
      | outgrown => exact ⟨_, a₁, w₁, hq, .pass (x := .inLoop c) rfl (fun _ _ => .inl (by simp)) harr⟩
  obtain ⟨e, a', w', hq, harr⟩ := key _ a w h₀
  exact ⟨e, a', w', hq, .of_steps (.one step_loop) harr⟩
theorem Holds_loop {body : Code} {K : Kt} {σ : St} {ι : Type} (mod : List Nat) (st : ι → List (Nat × AV)) (re : ι → Rs) (p : ι → Prop) (μ : ι → Nat) (i0 : ι) (h0 : p i0)
    (hre : ∀ i, (re i).length = σ.r.length) (hwk : WkL σ (st i0)) (hwf : wfSt σ.r.length (st i0) = true) (hrs : WeakR σ.r (re i0)) (hwr : wfRs σ.r.length (re i0) = true)
    (round : ∀ i, p i → Holds P G N body (loopK mod σ.get st re p μ i K) ⟨mask mod σ.get, st i, re i⟩) : Holds P G N (.loop body) K σ := by
  intro E0 r0 w0 E a w hR hS
  have hbase : ∀ i, wfA σ.r.length (σ.get i) = true := fun i => RA_wf _ _ (hR.slot i)
  refine wp_loop_g (fun m a' w' => ∃ i E', p i ∧ μ i = m ∧ Rel G N E' ⟨mask mod σ.get, st i, re i⟩ a' w' ∧ Step E0 r0 w0 E' (re i) w') (n0 := μ i0)
    ⟨i0, E, h0, rfl, hR.fit (fun _ _ => rfl) (fun i _ => by rw [hre]; exact hbase i) hwk (by rw [hre]; exact hwf) hrs (by rw [hre]; exact hwr), hS.weak hrs (by rw [hre]; exact hS.names.len)⟩ ?_
  intro m a w hI
  obtain ⟨i, E', hp, hm, hR', hS'⟩ := hI
  subst hm
  refine wp_mono (round i hp E0 r0 w0 E' a w hR' hS') fun e a1 w1 hq => ?_
  obtain ⟨σ1, E1, hk, hR1, hS1⟩ := hq
  cases e with
  | normal =>
    obtain ⟨j, hpj, hlt, hfit⟩ := hk
    refine ⟨μ j, hlt, j, E1, hpj, rfl, hR1.fit (keysIn_get hfit.b hfit.keys) (fun i _ => by rw [hre]; exact hbase i) hfit.wk hfit.wf hfit.rs hfit.wfr, hS1.weak hfit.rs ?_⟩
    rw [hre]
    exact hS.names.len
  | _ => exact ⟨σ1, E1, hk, hR1, hS1⟩
/-- A full slice (nil among them) in a slot is taken for a row that grows. -/
theorem Holds_token {c : Code} {K : Kt} {σ : St} {k sz n : Nat} {xs : List D} (hg : WeakA (σ.get k) (.sl .full sz n xs)) (h : Holds P G N c K (σ.putR (some k) (.sl (.own σ.r.length) sz n xs) (σ.r ++ [some (.tok xs.length)]))) : Holds P G N c K σ := by
  intro E0 r0 w0 E a w hR hS
  have hst := step_push_none (w := w) hR.good (some (.tok xs.length))
  have hgd := good_push_none hR.good (some (.tok xs.length)) (fun y hy => ⟨_, by injection hy with hy; exact hy.symm⟩)
  refine h E0 r0 w0 _ a w ⟨hR.size, fun i => ?_, hgd, hR.defers⟩ (hS.trans hst)
  show RA _ _ w (if i = k then _ else σ.get i) _
  split
  · rename_i hik
    subst hik
    have := hg.sound (hR.slot i)
    simp only [RA] at this ⊢
    obtain ⟨hl, A, cc, hx, hc, hr, hm⟩ := this
    refine ⟨hl, A, cc, hx, hc, ?_, (by show _ < (σ.r ++ [some (Res.tok xs.length)]).length; simp), fun q hq => ?_⟩
    · rcases hr with h0 | ⟨ad, h0, hrm⟩
      · exact .inl h0
      · exact .inr ⟨ad, h0, RM.lasts hst.lasts _ _ hrm⟩
    · have hq' : (σ.r ++ [some (Res.tok xs.length)])[σ.r.length]? = some (some (.tok q)) := hq
      simp at hq'
      refine ⟨by omega, fun _ => ?_⟩
      have hbl : (Env.mk E.T (updN E.bl σ.r.length none)).bl σ.r.length = none := updN_same _ _ _
      rw [hbl]
      exact hm
  · exact (hR.slot i).step hst
end
end Go.Proofs.YteeknmjjpcbphaaDoor
