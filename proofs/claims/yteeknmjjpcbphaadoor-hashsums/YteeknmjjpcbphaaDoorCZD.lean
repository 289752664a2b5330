/- The frame of these proofs, part ZD: operations whose outcome isn't reckoned by sight of the slots alone: cap. -/
import Derived.Test.YteeknmjjpcbphaaDoorCZB
set_option linter.unusedVariables false
set_option linter.unusedSimpArgs false
namespace Go.Proofs.YteeknmjjpcbphaaDoor
open Go
section
variable {P : Program} {ti : Ti} {G : Nat → List D} {N : Nat} {ops : Array Oper} {M : KM} {σ : St}
theorem kp_keeps {π kp : List Nat} {K : KD} {n i0 : Nat} {o : Oper} {w w' : World} {tl : List Nat} (hd0 : π.drop (π.length - n) = i0 :: tl) (hko : keepOp o.op = false) (h : kpFree (.draw π kp K) n = true ∨ Keeps w w') : isKeep kp i0 o = true → Keeps w w' := by
  intro hki
  rcases h with h | h
  · exfalso
    have hg0 : π.getD (π.length - n) 0 = i0 := by
      have h1 : (π.drop (π.length - n))[0]? = some i0 := by rw [hd0]; rfl
      rw [List.getElem?_drop, Nat.add_zero] at h1
      rw [List.getD_eq_getElem?_getD, h1]; rfl
    unfold kpFree at h
    simp only [hg0, Bool.not_eq_true'] at h
    unfold isKeep at hki
    rw [h, hko] at hki
    simp at hki
  · exact h
/-- An operation that comes to a value in each world that fits; what is known of it comes with it. -/
theorem HO_sem (hti : TiOK P ti) {o : Oper} {rest : List Oper} {ι : Type} (v : ι → AV) (r' : ι → Rs) (p : ι → Prop) (hg : gd ops σ o = some true) (hd : (o :: rest).all (dstOK N) = true) (he : isEff ti o = true)
    (hs : ∀ E w a, Rel G N E σ a w → ∃ i x w' E', p i ∧ (execOp a.eval o).run P w = .ok (.value x) w' ∧ RA E' (r' i) w' (v i) x ∧ Good G E' (r' i) w' ∧ Step E σ.r w E' (r' i) w' ∧ (kpFree M (o :: rest).length = true ∨ Keeps w w')) (hko : keepOp o.op = false)
    (hk : ∀ i, p i → EV P ti G N ops rest M (σ.putR o.dst (v i) (r' i))) : HO P ti G N ops (o :: rest) M σ := by
  simp only [List.all_cons, Bool.and_eq_true] at hd
  cases M with
  | plain K =>
    intro E0 r0 w0 E a w hR hS
    unfold wpList
    rw [if_pos (gd_sound hR hg)]
    obtain ⟨i, x, w', E', hp, hrun, hra, hgood, hst, _⟩ := hs E w a hR
    have hrel := hR.putO hst hgood hd.1 hra
    rw [putR_eq] at hrel
    have fin := HO_of_EV hti hd.2 (hk i hp) E0 r0 w0 E' _ w' hrel (hS.trans hst)
    left
    unfold Oper.wp
    rw [hrun, Oper.upon_value]
    exact fin
  | draw π kp K =>
    intro hok hl
    obtain ⟨L, pl⟩ := plan_of hok
    obtain ⟨i0, hd0, ho0, hrest, hk1⟩ := opl_cons pl hl
    refine DWp_step pl hd0 ho0 hk1 he fun E0 r0 w0 E b w hR hS a C heq hwq hC => ?_
    have hgd := gd_sound hR hg
    rw [hwq] at hgd
    rw [if_pos hgd]
    obtain ⟨i, x, w', E', hp, hrun, hra, hgood, hst, hkp⟩ := hs E w b hR
    have hrel := hR.putO hst hgood hd.1 hra
    rw [putR_eq] at hrel
    unfold Oper.wp
    rw [← heq, hrun, Oper.upon_value]
    exact hC x w' E' _ hrel (hS.trans hst) (kp_keeps hd0 hko hkp) (ED_sound hti pl hok rest _ _ hk1 hrest (hk i hp))
theorem EV_stop {o : Oper} {rest : List Oper} (hg : o.guard = none) (hs : stops o.op = true) : EV P ti G N ops (o :: rest) M σ = HO P ti G N ops (o :: rest) M σ := by
  rw [EV_cons]
  unfold gd
  rw [hg]
  simp [bindP, hs]
theorem EV_gstop {d : Option Tmp} {op : Op} {ty : TypeId} {ps : String} {af : Array Edge} {rest : List Oper} {j : Nat} {want : Bool} {b : Nat → AV} {sl : List (Nat × AV)} {r : Rs} (hs : stops op = true) : EV P ti G N ops (⟨d, op, ty, ps, af, some (j, want)⟩ :: rest) M ⟨b, sl, r⟩ = bindQ (fun q0 =>
    (q0 = want → HO P ti G N ops (⟨d, op, ty, ps, af, some (j, want)⟩ :: rest) M ⟨b, sl, r⟩) ∧ (q0 = (!want) → EV P ti G N ops rest M (St.putR ⟨b, sl, r⟩ d undA r))) (gdB ops ⟨b, sl, r⟩ j want) := by
  rw [EV_cons, gd_eq, bindP_map]
  show bindP _ _ = bindP _ _
  congr 1
  funext b
  simp only [hs, if_true]
  cases b <;> cases want <;> simp
section
variable {d : Option Tmp} {ty : TypeId} {ps : String} {af : Array Edge} {rest : List Oper} {j : Nat} {want : Bool} {b : Nat → AV} {sl : List (Nat × AV)} {r : Rs} {as : Array Operand} {ts : Array TypeId}
theorem EV_cap : EV P ti G N ops (⟨d, .call ⟨.builtin .cap, as, ts⟩, ty, ps, af, none⟩ :: rest) M ⟨b, sl, r⟩ = HO P ti G N ops (⟨d, .call ⟨.builtin .cap, as, ts⟩, ty, ps, af, none⟩ :: rest) M ⟨b, sl, r⟩ := EV_stop rfl rfl
theorem EV_g_cap : EV P ti G N ops (⟨d, .call ⟨.builtin .cap, as, ts⟩, ty, ps, af, some (j, want)⟩ :: rest) M ⟨b, sl, r⟩ = bindQ (fun q0 =>
    (q0 = want → HO P ti G N ops (⟨d, .call ⟨.builtin .cap, as, ts⟩, ty, ps, af, some (j, want)⟩ :: rest) M ⟨b, sl, r⟩) ∧ (q0 = (!want) → EV P ti G N ops rest M (St.putR ⟨b, sl, r⟩ d undA r))) (gdB ops ⟨b, sl, r⟩ j want) := EV_gstop rfl
theorem EV_copy : EV P ti G N ops (⟨d, .call ⟨.builtin .copy, as, ts⟩, ty, ps, af, none⟩ :: rest) M ⟨b, sl, r⟩ = HO P ti G N ops (⟨d, .call ⟨.builtin .copy, as, ts⟩, ty, ps, af, none⟩ :: rest) M ⟨b, sl, r⟩ := EV_stop rfl rfl
theorem EV_g_copy : EV P ti G N ops (⟨d, .call ⟨.builtin .copy, as, ts⟩, ty, ps, af, some (j, want)⟩ :: rest) M ⟨b, sl, r⟩ = bindQ (fun q0 =>
    (q0 = want → HO P ti G N ops (⟨d, .call ⟨.builtin .copy, as, ts⟩, ty, ps, af, some (j, want)⟩ :: rest) M ⟨b, sl, r⟩) ∧ (q0 = (!want) → EV P ti G N ops rest M (St.putR ⟨b, sl, r⟩ d undA r))) (gdB ops ⟨b, sl, r⟩ j want) := EV_gstop rfl
def slK : TK → Bool
  | .sl _ => true
  | _ => false
theorem slK_sl {q : TK} (h : slK q = true) : ∃ e, q = .sl e := by
  cases q <;> first | exact ⟨_, rfl⟩ | cases h
/-- The capacity of a slice whose spare places are known is at least that much. -/
theorem HO_cap (hti : TiOK P ti) {x : Operand} {t : TypeId} {g : Option (Nat × Bool)} {sz n : Nat} {xs zs : List D} (hg : gd ops σ ⟨d, .call ⟨.builtin .cap, #[x], #[t]⟩, ty, ps, af, g⟩ = some true)
    (hx : σ.ev G x = .sl (.sp zs) sz n xs) (ht : slK (tK ti t) = true) (hd : ((⟨d, .call ⟨.builtin .cap, #[x], #[t]⟩, ty, ps, af, g⟩ : Oper) :: rest).all (dstOK N) = true)
    (hk : ∀ c : Nat, n * sz + zs.length ≤ c * sz → EV P ti G N ops rest M (σ.putR d (.d (.c (.int .i64 c))) σ.r)) : HO P ti G N ops (⟨d, .call ⟨.builtin .cap, #[x], #[t]⟩, ty, ps, af, g⟩ :: rest) M σ := by
  refine HO_sem hti (fun c : Nat => .d (.c (.int .i64 c))) (fun _ => σ.r) (fun c => n * sz + zs.length ≤ c * sz) hg hd rfl (fun E w a hR => ?_) rfl hk
  obtain ⟨e, he⟩ : ∃ e, tK ti t = .sl e := slK_sl ht
  obtain ⟨s, bb, z, hte⟩ := tK_sl he
  have hut := ti_run hti hte w
  have h := ev_sound hR x
  rw [hx] at h
  simp only [RA] at h
  obtain ⟨hl, A, c, hv, hc, _, k, hk1, hk2, _⟩ := h
  refine ⟨c, .int .i64 c, w, E, ?_, ?_, by simp [RA, RD, Value.oneCell'], hR.good, Step.refl _ _ _, .inr (Keeps.refl w)⟩
  · rw [hk1, ← Nat.add_mul]; exact Nat.mul_le_mul_right _ hk2
  · simp [execOp, resolve, invoke, builtin, hv, Builtin.cap_, hut, goInt]
/-- An object's cells are written over, all at once. -/
theorem obj_put {G : Nat → List D} {E : Env} {r : Rs} {w : World} (hG : Good G E r w) {o off : Nat} {l cs : List AV} (ho : objOf r o = some l) {b : Nat} (hb : E.bl o = some b) {ys : List Value} (hc : RAL E r w cs ys)
    (h1 : ∀ u ∈ ys, u.oneCell' = true) (hfit : off + cs.length ≤ l.length) :
    ∃ w' E', (storeCells ⟨b, off, none⟩ ys).run P w = .ok () w' ∧ Good G E' (r.set o (some (.obj (l.take off ++ cs ++ l.drop (off + cs.length))))) w' ∧ Step E r w E' (r.set o (some (.obj (l.take off ++ cs ++ l.drop (off + cs.length))))) w' := by
  obtain ⟨b', vs, el, hb', hh, hral, hone, hcell⟩ := obj_cell hG ho
  rw [hb] at hb'; injection hb' with hb'; subst hb'
  have hT : E.T b = 0 := by
    obtain ⟨b', hb2, hT, _⟩ := hG.obj o l (objOf_some ho)
    rw [hb] at hb2; injection hb2 with hb2; subst hb2; exact hT
  have hl := RAL_length l _ hral
  have hcl := RAL_length cs _ hc
  have hst := run_storeCells_at P b off el ys 0 vs w hh (by simp only [Array.length_toList] at hl; omega) h1
  simp only [Nat.add_zero] at hst
  have hlen : (l.take off ++ cs ++ l.drop (off + cs.length)).length = l.length := by
    simp only [List.length_append, List.length_take, List.length_drop]; omega
  have hsz2 : (vs.toList.take off ++ ys ++ vs.toList.drop (off + ys.length)).toArray.size = vs.size := by
    simp only [List.size_toArray, List.length_append, List.length_take, List.length_drop, Array.length_toList]
    simp only [Array.length_toList] at hl hcl
    omega
  have hs := step_setRow hG (x' := .obj (l.take off ++ cs ++ l.drop (off + cs.length))) (t' := 0) (objOf_some ho) hb hh hsz2 (by omega) (by intro j hj; omega) (.inr ⟨_, _, rfl, rfl, hlen.symm⟩)
  refine ⟨_, ⟨updN E.T b 0, E.bl⟩, hst, ?_, hs⟩
  refine good_setRow hG (objOf_some ho) hb hh hsz2 (by omega) (by intro j hj; omega) (.inr ⟨_, _, rfl, rfl, hlen.symm, rfl, ?_, ?_⟩)
  · intro u hu
    simp only [List.mem_append] at hu
    rcases hu with (hu | hu) | hu
    · exact hone u (List.mem_of_mem_take hu)
    · exact h1 u hu
    · exact hone u (List.mem_of_mem_drop hu)
  · show RAL _ _ _ _ (_ ++ _ ++ _)
    rw [← hcl] at hs ⊢
    exact RAL_append _ _ _ _ (RAL_append _ _ _ _ (RAL_take _ _ (hral.step hs) _) (hc.step hs)) (RAL_drop _ _ (hral.step hs) _)
/-- A copy from an object's cells into an object's cells (they may be one object). -/
theorem HO_copyO (hti : TiOK P ti) {x y : Operand} {t u e : TypeId} {g : Option (Nat × Bool)} {o off n o2 off2 n2 k : Nat} {l l2 : List AV} (hg : gd ops σ ⟨d, .call ⟨.builtin .copy, #[x, y], #[t, u]⟩, ty, ps, af, g⟩ = some true)
    (hx : σ.ev G x = .osl o off 1 n) (hy : σ.ev G y = .osl o2 off2 1 n2) (hl : objOf σ.r o = some l) (hl2 : objOf σ.r o2 = some l2) (ht : tK ti t = .sl e) (hte : tI ti e = true ∧ tS ti e = 1) (hn : 0 < n) (hn2 : 0 < n2) (hk2 : Nat.min n2 n = k)
    (hd : ((⟨d, .call ⟨.builtin .copy, #[x, y], #[t, u]⟩, ty, ps, af, g⟩ : Oper) :: rest).all (dstOK N) = true) (hkp : kpFree M (rest.length + 1) = true)
    (hk : EV P ti G N ops rest M (σ.putR d (.d (.c (.int .i64 k))) (σ.r.set o (some (.obj (l.take off ++ (l2.drop off2).take k ++ l.drop (off + k))))))) : HO P ti G N ops (⟨d, .call ⟨.builtin .copy, #[x, y], #[t, u]⟩, ty, ps, af, g⟩ :: rest) M σ := by
  refine HO_sem hti (fun _ : Unit => .d (.c (.int .i64 k))) (fun _ => σ.r.set o (some (.obj (l.take off ++ (l2.drop off2).take k ++ l.drop (off + k))))) (fun _ => True) hg hd rfl (fun E w a hR => ?_) rfl fun _ _ => hk
  obtain ⟨s, bb, z, htt⟩ := tK_sl ht
  have hut := ti_run hti htt w
  obtain ⟨ie, hie, hisz⟩ : ∃ ie, ti e = some ie ∧ ie.size = 1 := by
    unfold tI tS at hte
    cases hq : ti e with
    | none => rw [hq] at hte; simp at hte
    | some ie => rw [hq] at hte; exact ⟨ie, rfl, hte.2⟩
  have hsz := ti_size hti hie w
  rw [hisz] at hsz
  have h1 := ev_sound hR x
  have h2 := ev_sound hR y
  rw [hx] at h1
  rw [hy] at h2
  simp only [RA] at h1 h2
  obtain ⟨_, A, c, hv, _, h1⟩ := h1
  obtain ⟨_, A2, c2, hv2, _, h2⟩ := h2
  obtain ⟨hf1, h1⟩ := h1 l (objOf_some hl)
  obtain ⟨hf2, h2⟩ := h2 l2 (objOf_some hl2)
  obtain ⟨b, hb, rfl⟩ := h1 hn
  obtain ⟨b2, hb2, rfl⟩ := h2 hn2
  obtain ⟨b2', vs, el, hb2', hh, hral, hone, hcell⟩ := obj_cell hR.good hl2
  rw [hb2] at hb2'; injection hb2' with hb2'; subst hb2'
  have hvl := RAL_length l2 _ hral
  have hkn : k ≤ n ∧ k ≤ n2 := by rw [← hk2]; exact ⟨Nat.min_le_right _ _, Nat.min_le_left _ _⟩
  have hys : ((vs.toList.drop off2).take k).length = k := by rw [List.length_take, List.length_drop]; omega
  have hcs : ((l2.drop off2).take k).length = k := by rw [List.length_take, List.length_drop]; omega
  obtain ⟨w', E', hrun, hgood, hst⟩ := obj_put (P := P) hR.good (off := off) hl hb (RAL_take _ _ (RAL_drop _ _ hral off2) k) (fun u hu => hone u (List.mem_of_mem_drop (List.mem_of_mem_take hu))) (by rw [hcs]; omega)
  rw [hcs] at hgood hst
  have hload : (loadCells ⟨b2, off2, none⟩ k).run P w = .ok ((vs.toList.drop off2).take k).toArray w := by
    have := run_loadCells_list (P := P) (w := w) ⟨b2, off2, none⟩ ((vs.toList.drop off2).take k) (fun j v hj => by
      rw [List.getElem?_take] at hj
      split at hj
      · rw [List.getElem?_drop] at hj
        have ha : Addr.add ⟨b2, off2, none⟩ j = ⟨b2, off2 + j, none⟩ := by simp [Addr.add]
        rw [ha, hcell, ← hj, Array.getElem?_toList]
      · cases hj)
    rw [hys] at this
    exact this
  refine ⟨(), .int .i64 k, w', E', trivial, ?_, by simp [RA, RD, Value.oneCell'], hgood, hst, .inl hkp⟩
  simp [execOp, resolve, invoke, builtin, hv, hv2, Builtin.copy_, hut, Builtin.lenOf, Builtin.firstCells, hsz, hk2, hload, hrun, goInt]
end
theorem opl_nil' : opl ops [] = [] := rfl
def oplC : Option Oper → List Oper → List Oper
  | some o, l => o :: l
  | none, l => l
theorem oplC_some {o : Oper} {l : List Oper} : oplC (some o) l = o :: l := rfl
theorem opl_cons' {i : Nat} {π : List Nat} : opl ops (i :: π) = oplC ops[i]? (opl ops π) := by
  unfold opl
  rw [List.filterMap_cons]
  cases ops[i]? <;> rfl
end
end Go.Proofs.YteeknmjjpcbphaaDoor
