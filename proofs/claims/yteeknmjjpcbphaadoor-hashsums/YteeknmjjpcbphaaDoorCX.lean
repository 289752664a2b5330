/- The frame of these proofs, part X: loops and calls. -/
import Derived.Test.YteeknmjjpcbphaaDoorCW
set_option linter.unusedVariables false
set_option linter.unusedSimpArgs false
namespace Go.Proofs.YteeknmjjpcbphaaDoor
open Go
section
variable {P : Program} {ti : Ti} {G : Nat → List D} {N : Nat}

/-- The state says no less than the form. -/
def Fit (σ : St) (st : List (Nat × AV)) (re : Rs) : Prop := WkL σ st ∧ wfSt re.length st = true ∧ WeakR σ.r re ∧ wfRs re.length re = true
theorem Rel.fit0 {E : Env} {σ : St} {a : Act} {w : World} {st : List (Nat × AV)} {re : Rs} (h : Rel G N E σ a w) (hf : Fit σ st re) : Rel G N E ⟨fun _ => .top, st, re⟩ a w := by
  obtain ⟨wk, wf, rs, wfr⟩ := hf
  refine ⟨h.size, fun i => ?_, h.good.weak rs wfr, h.defers⟩
  show RA E re w (lk st (fun _ => .top) i) _
  rcases lk_cases st (fun _ => AV.top) i with ⟨v, hv, he⟩ | ⟨_, he⟩
  · rw [he]
    exact RA_weak rs v _ (wfSt_mem wf hv) ((WkL_mem wk hv).sound (h.slot i))
  · rw [he]; simp [RA]
theorem HC_loop {body : Code} {K : KD} {σ : St} {ι : Type} (st : ι → List (Nat × AV)) (re : ι → Rs) (p : ι → Prop) (μ : ι → Nat) (i0 : ι) (h0 : p i0)
    (hre : ∀ i, (re i).length = σ.r.length) (hf : Fit σ (st i0) (re i0))
    (round : ∀ i, p i → HC P ti G N body (.loop (fun σ' => ∃ j, p j ∧ μ j < μ i ∧ Fit σ' (st j) (re j)) K) ⟨fun _ => .top, st i, re i⟩) : HC P ti G N (.loop body) K σ := by
  intro E0 r0 w0 E a w hR hS
  refine wp_loop_g (fun m a' w' => ∃ i E', p i ∧ μ i = m ∧ Rel G N E' ⟨fun _ => .top, st i, re i⟩ a' w' ∧ Step E0 r0 w0 E' (re i) w') (n0 := μ i0)
    ⟨i0, E, h0, rfl, hR.fit0 hf, hS.weak hf.2.2.1 (by rw [hre]; exact hS.names.len)⟩ ?_
  intro m a w hI
  obtain ⟨i, E', hp, hm, hR', hS'⟩ := hI
  subst hm
  refine wp_mono (round i hp E0 r0 w0 E' a w hR' hS') fun e a1 w1 hq => ?_
  obtain ⟨σ1, E1, hk, hR1, hS1⟩ := hq
  cases e with
  | normal =>
    obtain ⟨j, hpj, hlt, hfit⟩ := hk
    refine ⟨μ j, hlt, j, E1, hpj, rfl, hR1.fit0 hfit, hS1.weak hfit.2.2.1 ?_⟩
    rw [hre, ← hre i]
    exact hS'.names.len
  | _ => exact ⟨σ1, E1, hk, hR1, hS1⟩
theorem HC_fit {c : Code} {K : KD} {σ : St} (st : List (Nat × AV)) (re : Rs) (hre : re.length = σ.r.length) (hf : Fit σ st re) (h : HC P ti G N c K ⟨fun _ => .top, st, re⟩) : HC P ti G N c K σ := by
  intro E0 r0 w0 E a w hR hS
  exact h E0 r0 w0 E a w (hR.fit0 hf) (hS.weak hf.2.2.1 (by rw [hre]; exact hS.names.len))
theorem HC_token {c : Code} {K : KD} {σ : St} (k : Nat) {sz n : Nat} {xs : List D} (hg : WeakA (σ.get k) (.sl .full sz n xs)) (h : HC P ti G N c K (σ.putR (some k) (.sl (.own σ.r.length) sz n xs) (σ.r ++ [some (.tok xs.length)]))) : HC P ti G N c K σ := Holds_token hg h
theorem HO_callP (hti : TiOK P ti) {ops : Array Oper} {o : Oper} {rest : List Oper} {K : KD} {σ : St} {f : FuncId} {as args : List AV} {r : Rs} {O : AV → Rs → Prop} {c : Call} (ts : List Nat) (h : AC P G f args r O) (ho : o.op = .call c)
    (hg : gd ops σ o = some true) (hc : calleeOf (σ.ev G) c = some (f, as)) (hd : (o :: rest).all (dstOK N) = true) (hnd : ts.Nodup)
    (hs : (∀ t ∈ ts, t < σ.r.length) ∧ WkAs as (renL (nm ts σ.r.length) args) ∧ wfL r.length args = true ∧ HandOK (nm ts σ.r.length) σ.r r ts ∧ wfRs r.length r = true)
    (hk : ∀ v r', O v r' → r.length ≤ r'.length → EV P ti G N ops rest (.plain K) (σ.putR o.dst (ren (nm ts σ.r.length) v) (putAll (nm ts σ.r.length) σ.r ts r'))) : HO P ti G N ops (o :: rest) (.plain K) σ := by
  simp only [List.all_cons, Bool.and_eq_true] at hd
  exact HL_call ts h hd.1 hg ho hc hnd hs.1 hs.2.1 hs.2.2.1 hs.2.2.2.1 hs.2.2.2.2 fun v r' h1 h2 => HO_of_EV hti hd.2 (hk v r' h1 h2)
/-- A datum needs nothing of the call's own. -/
theorem AC.pure {f : FuncId} {args : List AV} {O : AV → Prop} (h : AC P G f args [] fun v _ => O v) (hw : ∀ v, O v → wfA 0 v = true) : AC P G f args [] (fun v r' => O v ∧ r' = []) := by
  refine ⟨h.1, fun E w vals hG hA => (h.2 E w vals hG hA).mono fun e w' ⟨v, x, r', E', he, ho, h1, h2, h3⟩ => ?_⟩
  have hW : WeakR r' [] := ⟨by simp, fun i x h => by simp at h⟩
  exact ⟨v, x, [], E', he, ⟨ho, rfl⟩, RA_weak hW v x (hw v ho) h1, h2.weak hW rfl, h3.weak hW (by simp)⟩
theorem nm_zero {t : Nat} {ts : List Nat} {n : Nat} : nm (t :: ts) n 0 = t := by simp [nm]
theorem nm_succ {t : Nat} {ts : List Nat} {n j : Nat} : nm (t :: ts) n (j + 1) = nm ts n j := by
  simp only [nm, List.getD_cons_succ, List.length_cons]
  congr 1
  omega
theorem nm_nil {n j : Nat} : nm [] n j = n + j := by simp [nm]
theorem putAll_nil {g : Nat → Nat} {rc : Rs} : putAll g rc [] [] = rc := by simp [putAll]
theorem AC.dat {f : FuncId} {args : List AV} {y : D} (h : AC P G f args [] fun v _ => toD v = some y) : AC P G f args [] (fun v r' => v = .d y ∧ r' = []) := by
  refine ⟨h.1, fun E w vals hG hA => (h.2 E w vals hG hA).mono fun e w' ⟨v, x, r', E', he, ho, h1, h2, h3⟩ => ?_⟩
  have hW : WeakR r' [] := ⟨by simp, fun i x h => by simp at h⟩
  exact ⟨.d y, x, [], E', he, ⟨rfl, rfl⟩, RA_weak hW _ x rfl ((WeakA.toD ho).sound h1), h2.weak hW rfl, h3.weak hW (by simp)⟩
/-- A result's parts, each of which says no more. -/
def WkT : List AV → List AV → Prop
  | [], [] => True
  | a :: ta, b :: tb => WeakA a b ∧ WkT ta tb
  | _, _ => False
theorem WkT.sound {E : Env} {r : Rs} {w : World} : ∀ (l l0 : List AV) (vs : List Value), WkT l l0 → RAL E r w l vs → RAL E r w l0 vs
  | [], [], vs, _, h => h
  | a :: ta, b :: tb, vs, hk, h => by
    simp only [RAL] at h ⊢
    obtain ⟨v, rest, h1, h2, h3⟩ := h
    exact ⟨v, rest, h1, hk.1.sound h2, WkT.sound ta tb rest hk.2 h3⟩
  | [], _ :: _, _, hk, _ => absurd hk (by simp [WkT])
  | _ :: _, [], _, hk, _ => absurd hk (by simp [WkT])
def WkV (v v0 : AV) : Prop := WeakA v v0 ∨ ∃ l l0, v = .tup l ∧ v0 = .tup l0 ∧ WkT l l0
theorem wkv_tup {l l0 : List AV} (h : WkT l l0) : WkV (.tup l) (.tup l0) := .inr ⟨l, l0, rfl, rfl, h⟩
theorem WkV.sound {E : Env} {r : Rs} {w : World} {v v0 : AV} {x : Value} (h : WkV v v0) (hr : RA E r w v x) : RA E r w v0 x := by
  rcases h with h | ⟨l, l0, rfl, rfl, h⟩
  · exact h.sound hr
  · simp only [RA] at hr ⊢
    obtain ⟨vs, h1, h2⟩ := hr
    exact ⟨vs, h1, WkT.sound l l0 _ h h2⟩
/-- A result that says no more, and owns nothing. -/
theorem AC.wk {f : FuncId} {args : List AV} {v0 : AV} (h : AC P G f args [] fun v _ => WkV v v0) (hw : wfA 0 v0 = true) : AC P G f args [] (fun v r' => v = v0 ∧ r' = []) := by
  refine ⟨h.1, fun E w vals hG hA => (h.2 E w vals hG hA).mono fun e w' ⟨v, x, r', E', he, ho, h1, h2, h3⟩ => ?_⟩
  have hW : WeakR r' [] := ⟨by simp, fun i x h => by simp at h⟩
  exact ⟨v0, x, [], E', he, ⟨rfl, rfl⟩, RA_weak hW v0 x hw (ho.sound h1), h2.weak hW rfl, h3.weak hW (by simp)⟩
theorem wk_refl {a : AV} : WeakA a a = True := eq_true (.refl a)
theorem wk_top {a : AV} : WeakA a .top = True := eq_true (.top a)
theorem wk_eq {a b : AV} (h : a = b) : WeakA a b := h ▸ .refl a
theorem wk_sl {m : Mo} {sz n : Nat} {xs : List D} : WeakA (.sl m sz n xs) (.d (.sl sz n xs)) = True := eq_true (.toD rfl)
theorem wk_nilFull {sz : Nat} : WeakA (.d (.c (.slice none 0 0))) (.sl .full sz 0 []) = True := eq_true (.nilFull sz)
theorem wk_nilD {sz : Nat} : WeakA (.d (.c (.slice none 0 0))) (.d (.sl sz 0 [])) = True := eq_true (.nilD sz)
theorem wkr_refl {r : Rs} : WeakR r r = True := eq_true (.refl r)
end
end Go.Proofs.YteeknmjjpcbphaaDoor
