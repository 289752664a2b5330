/- The frame of these proofs, part ZD: operations whose outcome isn't reckoned by sight of the slots alone: cap. -/
import Derived.Test.YteeknmjjpcbphaaCZB
set_option linter.unusedVariables false
set_option linter.unusedSimpArgs false
namespace Go.Proofs.Yteeknmjjpcbphaa
open Go
section
variable {P : Program} {ti : Ti} {G : Nat → List D} {N : Nat} {ops : Array Oper} {M : KM} {σ : St}
theorem kp_keeps {π kp : List Nat} {K : KD} {n i0 : Nat} {o : Oper} {w w' : World} {tl : List Nat} (hd0 : π.drop (π.length - n) = i0 :: tl) (hko : keepOp o.op = false) (h : kpFree (.draw π kp K) n = true ∨ Keeps w w') : isKeep kp i0 o = true → Keeps w w' := by
  intro hki
  rcases h with h | h
  · exfalso
    have hg0 : π.getD (π.length - n) 0 = i0 := by
      have h1 : (π.drop (π.length - n))[0]? = some i0 := by rw [hd0]; rfl
      rw [List.getElem?_drop, Nat.add_zero] at h1
      rw [List.getD_eq_getElem?_getD, h1]; rfl
    unfold kpFree at h
    simp only [hg0, Bool.not_eq_true'] at h
    unfold isKeep at hki
    rw [h, hko] at hki
    simp at hki
  · exact h
/-- An operation that comes to a value in each world that fits; what is known of it comes with it. -/
theorem HO_sem (hti : TiOK P ti) {o : Oper} {rest : List Oper} {ι : Type} (v : ι → AV) (r' : ι → Rs) (p : ι → Prop) (hg : gd ops σ o = some true) (hd : (o :: rest).all (dstOK N) = true) (he : isEff ti o = true)
    (hs : ∀ E w a, Rel G N E σ a w → ∃ i x w' E', p i ∧ (execOp a.eval o).run P w = .ok (.value x) w' ∧ RA E' (r' i) w' (v i) x ∧ Good G E' (r' i) w' ∧ Step E σ.r w E' (r' i) w' ∧ (kpFree M (o :: rest).length = true ∨ Keeps w w')) (hko : keepOp o.op = false)
    (hk : ∀ i, p i → EV P ti G N ops rest M (σ.putR o.dst (v i) (r' i))) : HO P ti G N ops (o :: rest) M σ := by
  simp only [List.all_cons, Bool.and_eq_true] at hd
  cases M with
  | plain K =>
    intro E0 r0 w0 E a w hR hS
    unfold wpList
    rw [if_pos (gd_sound hR hg)]
    obtain ⟨i, x, w', E', hp, hrun, hra, hgood, hst, _⟩ := hs E w a hR
    have hrel := hR.putO hst hgood hd.1 hra
    rw [putR_eq] at hrel
    have fin := HO_of_EV hti hd.2 (hk i hp) E0 r0 w0 E' _ w' hrel (hS.trans hst)
    left
    unfold Oper.wp
    rw [hrun, Oper.upon_value]
    exact fin
  | draw π kp K =>
    intro hok hl
    obtain ⟨L, pl⟩ := plan_of hok
    obtain ⟨i0, hd0, ho0, hrest, hk1⟩ := opl_cons pl hl
    refine DWp_step pl hd0 ho0 hk1 he fun E0 r0 w0 E b w hR hS a C heq hwq hC => ?_
    have hgd := gd_sound hR hg
    rw [hwq] at hgd
    rw [if_pos hgd]
    obtain ⟨i, x, w', E', hp, hrun, hra, hgood, hst, hkp⟩ := hs E w b hR
    have hrel := hR.putO hst hgood hd.1 hra
    rw [putR_eq] at hrel
    unfold Oper.wp
    rw [← heq, hrun, Oper.upon_value]
    exact hC x w' E' _ hrel (hS.trans hst) (kp_keeps hd0 hko hkp) (ED_sound hti pl hok rest _ _ hk1 hrest (hk i hp))
theorem EV_stop {o : Oper} {rest : List Oper} (hg : o.guard = none) (hs : stops o.op = true) : EV P ti G N ops (o :: rest) M σ = HO P ti G N ops (o :: rest) M σ := by
  rw [EV_cons]
  unfold gd
  rw [hg]
  simp [bindP, hs]
theorem EV_gstop {d : Option Tmp} {op : Op} {ty : TypeId} {ps : String} {af : Array Edge} {rest : List Oper} {j : Nat} {want : Bool} {b : Nat → AV} {sl : List (Nat × AV)} {r : Rs} (hs : stops op = true) : EV P ti G N ops (⟨d, op, ty, ps, af, some (j, want)⟩ :: rest) M ⟨b, sl, r⟩ = bindQ (fun q0 =>
    (q0 = want → HO P ti G N ops (⟨d, op, ty, ps, af, some (j, want)⟩ :: rest) M ⟨b, sl, r⟩) ∧ (q0 = (!want) → EV P ti G N ops rest M (St.putR ⟨b, sl, r⟩ d undA r))) (gdB ops ⟨b, sl, r⟩ j want) := by
  rw [EV_cons, gd_eq, bindP_map]
  show bindP _ _ = bindP _ _
  congr 1
  funext b
  simp only [hs, if_true]
  cases b <;> cases want <;> simp
section
variable {d : Option Tmp} {ty : TypeId} {ps : String} {af : Array Edge} {rest : List Oper} {j : Nat} {want : Bool} {b : Nat → AV} {sl : List (Nat × AV)} {r : Rs} {as : Array Operand} {ts : Array TypeId}
theorem EV_cap : EV P ti G N ops (⟨d, .call ⟨.builtin .cap, as, ts⟩, ty, ps, af, none⟩ :: rest) M ⟨b, sl, r⟩ = HO P ti G N ops (⟨d, .call ⟨.builtin .cap, as, ts⟩, ty, ps, af, none⟩ :: rest) M ⟨b, sl, r⟩ := EV_stop rfl rfl
theorem EV_g_cap : EV P ti G N ops (⟨d, .call ⟨.builtin .cap, as, ts⟩, ty, ps, af, some (j, want)⟩ :: rest) M ⟨b, sl, r⟩ = bindQ (fun q0 =>
    (q0 = want → HO P ti G N ops (⟨d, .call ⟨.builtin .cap, as, ts⟩, ty, ps, af, some (j, want)⟩ :: rest) M ⟨b, sl, r⟩) ∧ (q0 = (!want) → EV P ti G N ops rest M (St.putR ⟨b, sl, r⟩ d undA r))) (gdB ops ⟨b, sl, r⟩ j want) := EV_gstop rfl
theorem EV_copy : EV P ti G N ops (⟨d, .call ⟨.builtin .copy, as, ts⟩, ty, ps, af, none⟩ :: rest) M ⟨b, sl, r⟩ = HO P ti G N ops (⟨d, .call ⟨.builtin .copy, as, ts⟩, ty, ps, af, none⟩ :: rest) M ⟨b, sl, r⟩ := EV_stop rfl rfl
theorem EV_g_copy : EV P ti G N ops (⟨d, .call ⟨.builtin .copy, as, ts⟩, ty, ps, af, some (j, want)⟩ :: rest) M ⟨b, sl, r⟩ = bindQ (fun q0 =>
    (q0 = want → HO P ti G N ops (⟨d, .call ⟨.builtin .copy, as, ts⟩, ty, ps, af, some (j, want)⟩ :: rest) M ⟨b, sl, r⟩) ∧ (q0 = (!want) → EV P ti G N ops rest M (St.putR ⟨b, sl, r⟩ d undA r))) (gdB ops ⟨b, sl, r⟩ j want) := EV_gstop rfl
def slK : TK → Bool
  | .sl _ => true
  | _ => false
/-- The capacity of a slice whose spare places are known is at least that much. -/
theorem HO_cap (hti : TiOK P ti) {x : Operand} {t : TypeId} {g : Option (Nat × Bool)} {sz n : Nat} {xs zs : List D} (hg : gd ops σ ⟨d, .call ⟨.builtin .cap, #[x], #[t]⟩, ty, ps, af, g⟩ = some true)
    (hx : σ.ev G x = .sl (.sp zs) sz n xs) (ht : slK (tK ti t) = true) (hd : ((⟨d, .call ⟨.builtin .cap, #[x], #[t]⟩, ty, ps, af, g⟩ : Oper) :: rest).all (dstOK N) = true)
    (hk : ∀ c : Nat, n * sz + zs.length ≤ c * sz → EV P ti G N ops rest M (σ.putR d (.d (.c (.int .i64 c))) σ.r)) : HO P ti G N ops (⟨d, .call ⟨.builtin .cap, #[x], #[t]⟩, ty, ps, af, g⟩ :: rest) M σ := by
  refine HO_sem hti (fun c : Nat => .d (.c (.int .i64 c))) (fun _ => σ.r) (fun c => n * sz + zs.length ≤ c * sz) hg hd rfl (fun E w a hR => ?_) rfl hk
  obtain ⟨e, he⟩ : ∃ e, tK ti t = .sl e := by
    generalize tK ti t = q at ht
    cases q <;> first | exact ⟨_, rfl⟩ | cases ht
  obtain ⟨s, bb, z, hte⟩ := tK_sl he
  have hut := ti_run hti hte w
  have h := ev_sound hR x
  rw [hx] at h
  simp only [RA] at h
  obtain ⟨hl, A, c, hv, hc, _, k, hk1, hk2, _⟩ := h
  refine ⟨c, .int .i64 c, w, E, ?_, ?_, by simp [RA, RD, Value.oneCell'], hR.good, Step.refl _ _ _, .inr (Keeps.refl w)⟩
  · rw [hk1, ← Nat.add_mul]; exact Nat.mul_le_mul_right _ hk2
  · simp [execOp, resolve, invoke, builtin, hv, Builtin.cap_, hut, goInt]
end
theorem opl_nil' : opl ops [] = [] := rfl
def oplC : Option Oper → List Oper → List Oper
  | some o, l => o :: l
  | none, l => l
theorem oplC_some {o : Oper} {l : List Oper} : oplC (some o) l = o :: l := rfl
theorem opl_cons' {i : Nat} {π : List Nat} : opl ops (i :: π) = oplC ops[i]? (opl ops π) := by
  unfold opl
  rw [List.filterMap_cons]
  cases ops[i]? <;> rfl
end
end Go.Proofs.Yteeknmjjpcbphaa
