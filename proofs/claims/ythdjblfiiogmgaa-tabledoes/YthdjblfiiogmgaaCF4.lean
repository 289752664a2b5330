/- The frame of these proofs: an abstract interpreter, proved sound once. -/
import Derived.Test.YthdjblfiiogmgaaCF3
import Derived.MapKept
import Derived.Lib.AppendZerosOnto
import Derived.Lib.Overlaps
import Derived.Laws.Externs
import Derived.ReadAgain
import Derived.ChangeSame
import Derived.ChangeArms
import Derived.WideShapes
import Derived.SizedLaws
import Derived.JoinedCond
import Derived.Deep.CondSized
import Derived.Deep.Slices
import Derived.RowKit
import Derived.ProofKit
import Derived.OpenShut
/- The frame of these proofs, part ZD: operations whose outcome isn't reckoned by sight of the slots alone: cap. -/
set_option linter.unusedVariables false
set_option linter.unusedSimpArgs false
namespace Go.Proofs.Ythdjblfiiogmgaa
open Go
section
variable {P : Program} {ti : Ti} {G : GR} {N : Nat} {ops : Array Oper} {M : KM} {σ : St}
theorem kp_keeps {π kp : List Nat} {K : KD} {n i0 : Nat} {o : Oper} {w w' : World} {tl : List Nat} (hd0 : π.drop (π.length - n) = i0 :: tl) (hko : keepOp o.op = false) (h : kpFree (.draw π kp K) n = true ∨ Keeps w w') : isKeep kp i0 o = true → Keeps w w' := by
  intro hki
  rcases h with h | h
  · exfalso
    have hg0 : π.getD (π.length - n) 0 = i0 := by
      have h1 : (π.drop (π.length - n))[0]? = some i0 := by rw [hd0]; rfl
      rw [List.getElem?_drop, Nat.add_zero] at h1
      rw [List.getD_eq_getElem?_getD, h1]; rfl
    unfold kpFree at h
    simp only [hg0, Bool.not_eq_true'] at h
    unfold isKeep at hki
    rw [h, hko] at hki
    simp at hki
  · exact h
/-- An operation that comes to a value in each world that fits; what is known of it comes with it. -/
theorem HO_sem (hti : TiOK P ti) {o : Oper} {rest : List Oper} {ι : Type} (v : ι → AV) (r' : ι → Rs) (p : ι → Prop) (hg : gd ops σ o = some true) (hd : (o :: rest).all (dstOK N) = true) (he : isEff ti o = true)
    (hs : ∀ E w a, Rel G N E σ a w → ∃ i x w' E', p i ∧ (execOp a.eval o).run P w = .ok (.value x) w' ∧ RA E' (r' i) w' (v i) x ∧ Good G E' (r' i) w' ∧ Step E σ.r w E' (r' i) w' ∧ (kpFree M (o :: rest).length = true ∨ Keeps w w')) (hko : keepOp o.op = false)
    (hk : ∀ i, p i → EV P ti G N ops rest M (σ.putR o.dst (v i) (r' i))) : HO P ti G N ops (o :: rest) M σ := by
  simp only [List.all_cons, Bool.and_eq_true] at hd
  cases M with
  | plain K =>
    intro E0 r0 w0 E a w hR hS
    unfold wpListIn
    rw [if_pos (gd_sound hR hg)]
    obtain ⟨i, x, w', E', hp, hrun, hra, hgood, hst, _⟩ := hs E w a hR
    have hrel := hR.putO hst hgood hd.1 hra
    rw [putR_eq] at hrel
    have fin := HO_of_EV hti hd.2 (hk i hp) E0 r0 w0 E' _ w' hrel (hS.trans hst)
    refine ⟨fun f _ => fcR_fn G f, ?_⟩
    rw [Oper.semAt_eq _ _ _ (nd_of_run (.inl hrun)), hrun, Oper.uponIn_value]
    exact fin
  | draw π kp K =>
    intro hok hl
    obtain ⟨L, pl⟩ := plan_of hok
    obtain ⟨i0, hd0, ho0, hrest, hk1⟩ := opl_cons pl hl
    refine DWp_step pl hd0 ho0 hk1 he fun E0 r0 w0 E b w hR hS a C heq hwq hC => ?_
    have hgd := gd_sound hR hg
    rw [hwq] at hgd
    rw [if_pos hgd]
    obtain ⟨i, x, w', E', hp, hrun, hra, hgood, hst, hkp⟩ := hs E w b hR
    have hrel := hR.putO hst hgood hd.1 hra
    rw [putR_eq] at hrel
    unfold Oper.wp
    rw [← heq, hrun, Oper.upon_value]
    exact hC x w' E' _ hrel (hS.trans hst) (kp_keeps hd0 hko hkp) (ED_sound hti pl hok rest _ _ hk1 hrest (hk i hp))
theorem EV_stop {o : Oper} {rest : List Oper} (hg : o.guard = none) (hs : stops o.op = true) : EV P ti G N ops (o :: rest) M σ = HO P ti G N ops (o :: rest) M σ := by
  rw [EV_cons]
  unfold gd
  rw [hg]
  simp [bindP, stp, hs]
theorem EV_gstop {d : Option Tmp} {op : Op} {ty : TypeId} {ps : String} {af : Array Edge} {rest : List Oper} {j : Nat} {want : Bool} {b : Nat → AV} {sl : List (Nat × AV)} {r : Rs} (hs : stops op = true) : EV P ti G N ops (⟨d, op, ty, ps, af, some (j, want)⟩ :: rest) M ⟨b, sl, r⟩ = bindQ (fun q0 =>
    (q0 = want → HO P ti G N ops (⟨d, op, ty, ps, af, some (j, want)⟩ :: rest) M ⟨b, sl, r⟩) ∧ (q0 = (!want) → EV P ti G N ops rest M (St.putR ⟨b, sl, r⟩ d undA r))) (gdB ops ⟨b, sl, r⟩ j want) := by
  rw [EV_cons, gd_eq, bindP_map]
  show bindP _ _ = bindP _ _
  congr 1
  funext b
  simp only [stp, hs, Bool.true_or, if_true]
  cases b <;> cases want <;> simp
section
variable {d : Option Tmp} {ty : TypeId} {ps : String} {af : Array Edge} {rest : List Oper} {j : Nat} {want : Bool} {b : Nat → AV} {sl : List (Nat × AV)} {r : Rs} {as : Array Operand} {ts : Array TypeId}
theorem EV_cap : EV P ti G N ops (⟨d, .call ⟨.builtin .cap, as, ts⟩, ty, ps, af, none⟩ :: rest) M ⟨b, sl, r⟩ = HO P ti G N ops (⟨d, .call ⟨.builtin .cap, as, ts⟩, ty, ps, af, none⟩ :: rest) M ⟨b, sl, r⟩ := EV_stop rfl rfl
theorem EV_g_cap : EV P ti G N ops (⟨d, .call ⟨.builtin .cap, as, ts⟩, ty, ps, af, some (j, want)⟩ :: rest) M ⟨b, sl, r⟩ = bindQ (fun q0 =>
    (q0 = want → HO P ti G N ops (⟨d, .call ⟨.builtin .cap, as, ts⟩, ty, ps, af, some (j, want)⟩ :: rest) M ⟨b, sl, r⟩) ∧ (q0 = (!want) → EV P ti G N ops rest M (St.putR ⟨b, sl, r⟩ d undA r))) (gdB ops ⟨b, sl, r⟩ j want) := EV_gstop rfl
theorem EV_clear : EV P ti G N ops (⟨d, .call ⟨.builtin .clear, as, ts⟩, ty, ps, af, none⟩ :: rest) M ⟨b, sl, r⟩ = HO P ti G N ops (⟨d, .call ⟨.builtin .clear, as, ts⟩, ty, ps, af, none⟩ :: rest) M ⟨b, sl, r⟩ := EV_stop rfl rfl
theorem EV_copy : EV P ti G N ops (⟨d, .call ⟨.builtin .copy, as, ts⟩, ty, ps, af, none⟩ :: rest) M ⟨b, sl, r⟩ = HO P ti G N ops (⟨d, .call ⟨.builtin .copy, as, ts⟩, ty, ps, af, none⟩ :: rest) M ⟨b, sl, r⟩ := EV_stop rfl rfl
theorem EV_g_copy : EV P ti G N ops (⟨d, .call ⟨.builtin .copy, as, ts⟩, ty, ps, af, some (j, want)⟩ :: rest) M ⟨b, sl, r⟩ = bindQ (fun q0 =>
    (q0 = want → HO P ti G N ops (⟨d, .call ⟨.builtin .copy, as, ts⟩, ty, ps, af, some (j, want)⟩ :: rest) M ⟨b, sl, r⟩) ∧ (q0 = (!want) → EV P ti G N ops rest M (St.putR ⟨b, sl, r⟩ d undA r))) (gdB ops ⟨b, sl, r⟩ j want) := EV_gstop rfl
def slK : TK → Bool
  | .sl _ => true
  | _ => false
theorem slK_sl {q : TK} (h : slK q = true) : ∃ e, q = .sl e := by
  cases q <;> first | exact ⟨_, rfl⟩ | cases h
/-- The capacity of a slice whose spare places are known is at least that much. -/
theorem HO_cap (hti : TiOK P ti) {x : Operand} {t : TypeId} {g : Option (Nat × Bool)} {sz n : Nat} {xs zs : List D} (hg : gd ops σ ⟨d, .call ⟨.builtin .cap, #[x], #[t]⟩, ty, ps, af, g⟩ = some true)
    (hx : σ.ev G x = .sl (.sp zs) sz n xs) (ht : slK (tK ti t) = true) (hd : ((⟨d, .call ⟨.builtin .cap, #[x], #[t]⟩, ty, ps, af, g⟩ : Oper) :: rest).all (dstOK N) = true)
    (hk : ∀ c : Nat, n * sz + zs.length ≤ c * sz → EV P ti G N ops rest M (σ.putR d (.d (.c (.int .i64 c))) σ.r)) : HO P ti G N ops (⟨d, .call ⟨.builtin .cap, #[x], #[t]⟩, ty, ps, af, g⟩ :: rest) M σ := by
  refine HO_sem hti (fun c : Nat => .d (.c (.int .i64 c))) (fun _ => σ.r) (fun c => n * sz + zs.length ≤ c * sz) hg hd rfl (fun E w a hR => ?_) rfl hk
  obtain ⟨e, he⟩ : ∃ e, tK ti t = .sl e := slK_sl ht
  obtain ⟨s, bb, z, hte⟩ := tK_sl he
  have hut := ti_run hti hte w
  have h := ev_sound hR x
  rw [hx] at h
  simp only [RA] at h
  obtain ⟨hl, A, c, hv, hc, _, k, hk1, hk2, _⟩ := h
  refine ⟨c, .int .i64 c, w, E, ?_, ?_, by simp [RA, RD, Value.oneCell'], hR.good, Step.refl _ _ _, .inr (Keeps.refl w)⟩
  · rw [hk1, ← Nat.add_mul]; exact Nat.mul_le_mul_right _ hk2
  · simp [execOp, resolve, invoke, builtin, hv, Builtin.cap_, hut, goInt]
/-- An object's cells are written over, all at once. -/
theorem obj_put {G : GR} {E : Env} {r : Rs} {w : World} (hG : Good G E r w) {o off : Nat} {l cs : List AV} (ho : objOf r o = some l) {b : Nat} (hb : E.bl o = some b) {ys : List Value} (hc : RAL E r w cs ys)
    (h1 : ∀ u ∈ ys, u.oneCell' = true) (hfit : off + cs.length ≤ l.length) :
    ∃ w' E', (storeCells ⟨b, off, none⟩ ys).run P w = .ok () w' ∧ Good G E' (r.set o (some (.obj (l.take off ++ cs ++ l.drop (off + cs.length))))) w' ∧ Step E r w E' (r.set o (some (.obj (l.take off ++ cs ++ l.drop (off + cs.length))))) w' := by
  obtain ⟨b', vs, el, hb', hh, hral, hone, hcell⟩ := obj_cell hG ho
  rw [hb] at hb'; injection hb' with hb'; subst hb'
  have hT : E.T b = 0 := by
    obtain ⟨b', hb2, hT, _⟩ := hG.obj o l (objOf_some ho)
    rw [hb] at hb2; injection hb2 with hb2; subst hb2; exact hT
  have hl := RAL_length l _ hral
  have hcl := RAL_length cs _ hc
  have hst := run_storeCells_at P b off el ys 0 vs w hh (by simp only [Array.length_toList] at hl; omega) h1
  simp only [Nat.add_zero] at hst
  have hlen : (l.take off ++ cs ++ l.drop (off + cs.length)).length = l.length := by
    simp only [List.length_append, List.length_take, List.length_drop]; omega
  have hsz2 : (vs.toList.take off ++ ys ++ vs.toList.drop (off + ys.length)).toArray.size = vs.size := by
    simp only [List.size_toArray, List.length_append, List.length_take, List.length_drop, Array.length_toList]
    simp only [Array.length_toList] at hl hcl
    omega
  have hs := step_setRow hG (x' := .obj (l.take off ++ cs ++ l.drop (off + cs.length))) (t' := 0) (objOf_some ho) hb hh hsz2 (by omega) (by intro j hj; omega) (.inr ⟨_, _, rfl, rfl, hlen.symm⟩)
  refine ⟨_, ⟨updN E.T b 0, E.bl⟩, hst, ?_, hs⟩
  refine good_setRow hG (objOf_some ho) hb hh hsz2 (by omega) (by intro j hj; omega) (.inr ⟨_, _, rfl, rfl, hlen.symm, rfl, ?_, ?_⟩)
  · intro u hu
    simp only [List.mem_append] at hu
    rcases hu with (hu | hu) | hu
    · exact hone u (List.mem_of_mem_take hu)
    · exact h1 u hu
    · exact hone u (List.mem_of_mem_drop hu)
  · show RAL _ _ _ _ (_ ++ _ ++ _)
    rw [← hcl] at hs ⊢
    exact RAL_append _ _ _ _ (RAL_append _ _ _ _ (RAL_take _ _ (hral.step hs) _) (hc.step hs)) (RAL_drop _ _ (hral.step hs) _)
/-- A copy from an object's cells into an object's cells (they may be one object). -/
theorem HO_copyO (hti : TiOK P ti) {x y : Operand} {t u e : TypeId} {g : Option (Nat × Bool)} {o off n o2 off2 n2 k : Nat} {l l2 : List AV} (hg : gd ops σ ⟨d, .call ⟨.builtin .copy, #[x, y], #[t, u]⟩, ty, ps, af, g⟩ = some true)
    (hx : σ.ev G x = .osl o off 1 n) (hy : σ.ev G y = .osl o2 off2 1 n2) (hl : objOf σ.r o = some l) (hl2 : objOf σ.r o2 = some l2) (ht : tK ti t = .sl e) (hte : tI ti e = true ∧ tS ti e = 1) (hn : 0 < n) (hn2 : 0 < n2) (hk2 : Nat.min n2 n = k)
    (hd : ((⟨d, .call ⟨.builtin .copy, #[x, y], #[t, u]⟩, ty, ps, af, g⟩ : Oper) :: rest).all (dstOK N) = true) (hkp : kpFree M (rest.length + 1) = true)
    (hk : EV P ti G N ops rest M (σ.putR d (.d (.c (.int .i64 k))) (σ.r.set o (some (.obj (l.take off ++ (l2.drop off2).take k ++ l.drop (off + k))))))) : HO P ti G N ops (⟨d, .call ⟨.builtin .copy, #[x, y], #[t, u]⟩, ty, ps, af, g⟩ :: rest) M σ := by
  refine HO_sem hti (fun _ : Unit => .d (.c (.int .i64 k))) (fun _ => σ.r.set o (some (.obj (l.take off ++ (l2.drop off2).take k ++ l.drop (off + k))))) (fun _ => True) hg hd rfl (fun E w a hR => ?_) rfl fun _ _ => hk
  obtain ⟨s, bb, z, htt⟩ := tK_sl ht
  have hut := ti_run hti htt w
  obtain ⟨ie, hie, hisz⟩ : ∃ ie, ti e = some ie ∧ ie.size = 1 := by
    unfold tI tS at hte
    cases hq : ti e with
    | none => rw [hq] at hte; simp at hte
    | some ie => rw [hq] at hte; exact ⟨ie, rfl, hte.2⟩
  have hsz := ti_size hti hie w
  rw [hisz] at hsz
  have h1 := ev_sound hR x
  have h2 := ev_sound hR y
  rw [hx] at h1
  rw [hy] at h2
  simp only [RA] at h1 h2
  obtain ⟨_, A, c, hv, _, h1⟩ := h1
  obtain ⟨_, A2, c2, hv2, _, h2⟩ := h2
  obtain ⟨hf1, h1⟩ := h1 l (objOf_some hl)
  obtain ⟨hf2, h2⟩ := h2 l2 (objOf_some hl2)
  obtain ⟨b, hb, rfl⟩ := h1 hn
  obtain ⟨b2, hb2, rfl⟩ := h2 hn2
  obtain ⟨b2', vs, el, hb2', hh, hral, hone, hcell⟩ := obj_cell hR.good hl2
  rw [hb2] at hb2'; injection hb2' with hb2'; subst hb2'
  have hvl := RAL_length l2 _ hral
  have hkn : k ≤ n ∧ k ≤ n2 := by rw [← hk2]; exact ⟨Nat.min_le_right _ _, Nat.min_le_left _ _⟩
  have hys : ((vs.toList.drop off2).take k).length = k := by rw [List.length_take, List.length_drop]; omega
  have hcs : ((l2.drop off2).take k).length = k := by rw [List.length_take, List.length_drop]; omega
  obtain ⟨w', E', hrun, hgood, hst⟩ := obj_put (P := P) hR.good (off := off) hl hb (RAL_take _ _ (RAL_drop _ _ hral off2) k) (fun u hu => hone u (List.mem_of_mem_drop (List.mem_of_mem_take hu))) (by rw [hcs]; omega)
  rw [hcs] at hgood hst
  have hload : (loadCells ⟨b2, off2, none⟩ k).run P w = .ok ((vs.toList.drop off2).take k).toArray w := by
    have := run_loadCells_list (P := P) (w := w) ⟨b2, off2, none⟩ ((vs.toList.drop off2).take k) (fun j v hj => by
      rw [List.getElem?_take] at hj
      split at hj
      · rw [List.getElem?_drop] at hj
        have ha : Addr.add ⟨b2, off2, none⟩ j = ⟨b2, off2 + j, none⟩ := by simp [Addr.add]
        rw [ha, hcell, ← hj, Array.getElem?_toList]
      · cases hj)
    rw [hys] at this
    exact this
  refine ⟨(), .int .i64 k, w', E', trivial, ?_, by simp [RA, RD, Value.oneCell'], hgood, hst, .inl hkp⟩
  simp [execOp, resolve, invoke, builtin, hv, hv2, Builtin.copy_, hut, Builtin.lenOf, Builtin.firstCells, hsz, hk2, hload, hrun, goInt]
end
theorem opl_nil' : opl ops [] = [] := rfl
def oplC : Option Oper → List Oper → List Oper
  | some o, l => o :: l
  | none, l => l
theorem oplC_some {o : Oper} {l : List Oper} : oplC (some o) l = o :: l := rfl
theorem opl_cons' {i : Nat} {π : List Nat} : opl ops (i :: π) = oplC ops[i]? (opl ops π) := by
  unfold opl
  rw [List.filterMap_cons]
  cases ops[i]? <;> rfl
end
end Go.Proofs.Ythdjblfiiogmgaa
/- The frame of these proofs, part ZE: new names for old (rows of a loop's rounds, of a result), and new names for nil. -/
set_option linter.unusedVariables false
set_option linter.unusedSimpArgs false
namespace Go.Proofs.Ythdjblfiiogmgaa
open Go

/-! ### Names that are new, for nil or a full slice -/
def tks (F : List Nat) : Rs := F.map fun k => some (.tok k)
theorem tks_get {F : List Nat} {j : Nat} {x : Res} (h : (tks F)[j]? = some (some x)) : ∃ k, F[j]? = some k ∧ x = .tok k := by
  unfold tks at h
  rw [List.getElem?_map] at h
  cases hj : F[j]? with
  | none => rw [hj] at h; cases h
  | some k => rw [hj] at h; injection h with h; injection h with h; exact ⟨k, rfl, h.symm⟩
def envT (E : Env) (n : Nat) : Env := ⟨E.T, fun i => if i < n then E.bl i else none⟩
theorem envT_lt {E : Env} {n i : Nat} (h : i < n) : (envT E n).bl i = E.bl i := by simp [envT, h]
theorem step_tks {G : GR} {E : Env} {r : Rs} {w : World} (hG : Good G E r w) (F : List Nat) : Step E r w (envT E r.length) (r ++ tks F) w := by
  have hlt : ∀ {i : Nat} {x : Res} {b : Nat}, (r ++ tks F)[i]? = some (some x) → (envT E r.length).bl i = some b → i < r.length := by
    intro i x b _ hb
    by_cases hi : i < r.length
    · exact hi
    · simp [envT, hi] at hb
  refine ⟨rfl, rfl, rfl, Nat.le_refl _, fun b _ _ => ⟨rfl, rfl⟩, fun b ⟨i, x, hi, hb⟩ => ?_, Lasts.refl _ _, ShapeLasts.refl _, ⟨by simp, fun i k hi h => ?_, fun i l hi h => ?_, fun i l hi h => ?_⟩⟩
  · have h1 := hlt hi hb
    rw [List.getElem?_append_left h1] at hi
    rw [envT_lt h1] at hb
    exact .inl ⟨i, x, hi, hb⟩
  all_goals
    rw [List.getElem?_append_left hi] at h
  · exact ⟨k, h, Nat.le_refl _, fun _ => envT_lt hi⟩
  · exact ⟨l, h, rfl, envT_lt hi⟩
  · exact ⟨l, h, envT_lt hi⟩
theorem good_tks {G : GR} {E : Env} {r : Rs} {w : World} (hG : Good G E r w) (F : List Nat) : Good G (envT E r.length) (r ++ tks F) w := by
  have hs := step_tks hG F
  have hlt : ∀ {i : Nat} {x : Res}, (r ++ tks F)[i]? = some (some x) → (i < r.length ∧ r[i]? = some (some x)) ∨ ((envT E r.length).bl i = none ∧ ∃ k, x = .tok k) := by
    intro i x hi
    by_cases h1 : i < r.length
    · rw [List.getElem?_append_left h1] at hi; exact .inl ⟨h1, hi⟩
    · rw [List.getElem?_append_right (by omega)] at hi
      obtain ⟨k, _, hk⟩ := tks_get hi
      exact .inr ⟨by simp [envT, h1], k, hk⟩
  refine ⟨fun i k b hi hb => ?_, fun i l hi => ?_, fun i l hi => ?_, fun i j x y b hi hj hbi hbj => ?_, hG.fresh, hG.glob⟩
  · rcases hlt hi with ⟨h1, h2⟩ | ⟨h1, _⟩
    · rw [envT_lt h1] at hb; exact hG.tok i k b h2 hb
    · rw [h1] at hb; cases hb
  · rcases hlt hi with ⟨h1, h2⟩ | ⟨_, k, h2⟩
    · obtain ⟨b, hb, k1, vs, e, k2, k3, k4⟩ := hG.obj i l h2
      exact ⟨b, (envT_lt h1).trans hb, k1, vs, e, k2, k3.step hs, k4⟩
    · cases h2
  · rcases hlt hi with ⟨h1, h2⟩ | ⟨_, k, h2⟩
    · obtain ⟨b, hb, k1, k2⟩ := hG.map i l h2
      exact ⟨b, (envT_lt h1).trans hb, k1, k2⟩
    · cases h2
  · rcases hlt hi with ⟨h1, h2⟩ | ⟨h1, _⟩
    · rcases hlt hj with ⟨h3, h4⟩ | ⟨h3, _⟩
      · rw [envT_lt h1] at hbi; rw [envT_lt h3] at hbj
        exact hG.one i j x y b h2 h4 hbi hbj
      · rw [h3] at hbj; cases hbj
    · rw [h1] at hbi; cases hbi
/-- 'b' says no more than 'a', where the names from 'n' on are new ones of these lengths. -/
def WkF (n : Nat) (F : List Nat) (a b : AV) : Prop := WeakA a b ∨ ∃ o sz m xs, b = .sl (.own o) sz m xs ∧ n ≤ o ∧ F[o - n]? = some xs.length ∧ WeakA a (.sl .full sz m xs)
theorem WkF.sound {G : GR} {E : Env} {r : Rs} {w : World} (hG : Good G E r w) {F : List Nat} {a b : AV} {x : Value} (h : WkF r.length F a b) (hr : RA E r w a x) : RA (envT E r.length) (r ++ tks F) w b x := by
  rcases h with h | ⟨o, sz, m, xs, rfl, ho, hF, h⟩
  · exact (h.sound hr).step (step_tks hG F)
  · have h1 := h.sound hr
    simp only [RA] at h1 ⊢
    obtain ⟨hl, A, c, rfl, hc, hm, hf⟩ := h1
    have hlen : o - r.length < F.length := (List.getElem?_eq_some_iff.1 hF).1
    refine ⟨hl, A, c, rfl, hc, hm, by simp [tks]; omega, fun k hk => ?_⟩
    rw [List.getElem?_append_right (by omega)] at hk
    obtain ⟨k', hk', he⟩ := tks_get hk
    rw [hF] at hk'
    injection he with he
    injection hk' with hk'
    refine ⟨by omega, fun _ => ?_⟩
    have : (envT E r.length).bl o = none := by simp [envT]; omega
    rw [this]
    exact hf
theorem WkF.refl {n : Nat} {F : List Nat} (a : AV) : WkF n F a a := .inl (.refl a)
theorem WkF.top {n : Nat} {F : List Nat} (a : AV) : WkF n F a .top := .inl (.top a)
theorem WkF.nil {n : Nat} {F : List Nat} {sz o : Nat} (h : Nat.ble n o = true) (hF : F[o - n]? = some 0) : WkF n F (.d (.c (.slice none 0 0))) (.sl (.own o) sz 0 []) := .inr ⟨o, sz, 0, [], rfl, Nat.le_of_ble_eq_true h, hF, .nilFull sz⟩
theorem WkF.full {n : Nat} {F : List Nat} {sz o m : Nat} {xs : List D} (h : Nat.ble n o = true) (hF : F[o - n]? = some xs.length) : WkF n F (.sl .full sz m xs) (.sl (.own o) sz m xs) := .inr ⟨o, sz, m, xs, rfl, Nat.le_of_ble_eq_true h, hF, .refl _⟩
def WkFs (n : Nat) (F : List Nat) : List AV → List AV → Prop
  | [], [] => True
  | a :: l, b :: m => WkF n F a b ∧ WkFs n F l m
  | _, _ => False
theorem WkFs.refl {n : Nat} {F : List Nat} : ∀ l : List AV, WkFs n F l l
  | [] => trivial
  | a :: l => ⟨.refl a, WkFs.refl l⟩
theorem WkFs.len {n : Nat} {F : List Nat} : ∀ {l m : List AV}, WkFs n F l m → l.length = m.length
  | [], [], _ => rfl
  | a :: l, b :: m, h => by simp [WkFs.len h.2]
  | [], _ :: _, h => h.elim
  | _ :: _, [], h => h.elim
theorem WkFs.sound {G : GR} {E : Env} {r : Rs} {w : World} (hG : Good G E r w) {F : List Nat} : ∀ {l m : List AV} {vs : List Value}, WkFs r.length F l m → RAL E r w l vs → RAL (envT E r.length) (r ++ tks F) w m vs
  | [], [], vs, _, h => by simpa [RAL] using h
  | a :: l, b :: m, vs, hk, h => by
    simp only [RAL] at h ⊢
    obtain ⟨v, rest, rfl, h1, h2⟩ := h
    exact ⟨v, rest, rfl, hk.1.sound hG h1, WkFs.sound hG hk.2 h2⟩
  | [], _ :: _, _, h, _ => h.elim
  | _ :: _, [], _, h, _ => h.elim

theorem renL_map_d (g : Nat → Nat) : ∀ l : List D, renL g (l.map AV.d) = l.map AV.d
  | [] => rfl
  | a :: l => by rw [List.map_cons, renL, renL_map_d g l, ren]
theorem renL_append (g : Nat → Nat) : ∀ l m : List AV, renL g (l ++ m) = renL g l ++ renL g m
  | [], m => rfl
  | a :: l, m => by rw [List.cons_append, renL, renL_append g l m, renL]; rfl
theorem WkFs.data {n : Nat} {F : List Nat} {g : Nat → Nat} (l : List D) : WkFs n F (l.map AV.d) (renL g (l.map AV.d)) := by
  rw [renL_map_d]; exact .refl _
theorem WkFs.app {n : Nat} {F : List Nat} {g : Nat → Nat} : ∀ {l1 m1 l2 m2 : List AV}, WkFs n F l1 (renL g m1) → WkFs n F l2 (renL g m2) → WkFs n F (l1 ++ l2) (renL g (m1 ++ m2)) := by
  intro l1 m1 l2 m2 h1 h2
  rw [renL_append]
  generalize renL g m1 = a at *
  generalize renL g m2 = b at *
  induction l1 generalizing a with
  | nil => cases a with
    | nil => exact h2
    | cons _ _ => exact h1.elim
  | cons x l ih => cases a with
    | nil => exact h1.elim
    | cons y a => exact ⟨h1.1, ih a h1.2⟩
theorem wfL_map_d (n : Nat) : ∀ l : List D, wfL n (l.map AV.d) = true
  | [] => rfl
  | a :: l => by rw [List.map_cons, wfL, wfL_map_d n l]; rfl
theorem wfL_append (n : Nat) : ∀ l m : List AV, wfL n (l ++ m) = (wfL n l && wfL n m)
  | [], m => by simp [wfL]
  | a :: l, m => by simp [wfL, wfL_append n l m, Bool.and_assoc]

/-! ### Other names for the same -/
def hn (L : List Nat) (k : Nat) : Nat := L.getD k k
structure AliasC (g : Nat → Nat) (E1 : Env) (r1 : Rs) (E2 : Env) (r2 : Rs) : Prop where
  T : E1.T = E2.T
  bl : ∀ i, i < r1.length → E1.bl i = E2.bl (g i)
  tok : ∀ i k, r1[i]? = some (some (.tok k)) → r2[g i]? = some (some (.tok k))
  obj : ∀ i l, r1[i]? = some (some (.obj l)) → ∃ l2, r2[g i]? = some (some (.obj l2)) ∧ l2.length = l.length
  map : ∀ i l, r1[i]? = some (some (.mpx l)) → ∃ l2, r2[g i]? = some (some (.mpx l2))
mutual
theorem RA_unrenC {g : Nat → Nat} {E1 E2 : Env} {r1 r2 : Rs} {w : World} (hA : AliasC g E1 r1 E2 r2) : ∀ (a : AV) (x : Value), wfA r1.length a = true → RA E2 r2 w (ren g a) x → RA E1 r1 w a x
  | .d y, x, _, h => by simp only [RA, ren] at h ⊢; rw [hA.T]; exact h
  | .sl m sz n xs, x, hf, h => by
    simp only [RA, ren] at h ⊢
    obtain ⟨hl, A, c, rfl, hc, hr, hm⟩ := h
    rw [← hA.T] at hr
    refine ⟨hl, A, c, rfl, hc, hr, ?_⟩
    cases m with
    | full => exact hm
    | sp ys => rw [show MoOK E1 r1 w sz n xs.length A c (.sp ys) = MoOK E2 r2 w sz n xs.length A c (.sp ys) by simp only [MoOK, hA.T]]; exact hm
    | own i =>
      have hi : i < r1.length := by simpa [wfA, wfM] using hf
      refine ⟨hi, fun k hk => ?_⟩
      have := hm.2 k (hA.tok i _ hk)
      rw [← hA.bl i hi] at this
      exact this
  | .ptr i off, x, hf, h => by
    simp only [RA, ren] at h ⊢
    have hi : i < r1.length := by simpa [wfA] using hf
    refine ⟨hi, fun l hl => ?_⟩
    rw [hA.bl i hi]
    obtain ⟨l2, h2, _⟩ := hA.obj i _ hl
    exact h.2 _ h2
  | .el xs, x, _, h => by simp only [RA, ren] at h ⊢; rw [hA.T]; exact h
  | .csl i off sz n c, x, hf, h => by
    simp only [RA, ren] at h ⊢
    have hi : i < r1.length := by simpa [wfA] using hf
    obtain ⟨_, A, rfl, hc, h2⟩ := h
    refine ⟨hi, A, rfl, hc, fun l hl => ?_⟩
    obtain ⟨l2, hl2, hlen⟩ := hA.obj i _ hl
    have := h2 _ hl2
    rw [hlen] at this
    rw [hA.bl i hi]
    exact this
  | .osl i off sz n, x, hf, h => by
    simp only [RA, ren] at h ⊢
    have hi : i < r1.length := by simpa [wfA] using hf
    obtain ⟨_, A, c, rfl, hc, h2⟩ := h
    refine ⟨hi, A, c, rfl, hc, fun l hl => ?_⟩
    obtain ⟨l2, hl2, hlen⟩ := hA.obj i _ hl
    have := h2 _ hl2
    rw [hlen] at this
    rw [hA.bl i hi]
    exact this
  | .tup l, x, hf, h => by
    simp only [RA, ren] at h ⊢; obtain ⟨vs, rfl, hr⟩ := h
    exact ⟨vs, rfl, RAL_unrenC hA l _ (by simpa [wfA] using hf) hr⟩
  | .agg l, x, hf, h => by
    simp only [RA, ren] at h ⊢; obtain ⟨vs, rfl, hr, h1⟩ := h
    exact ⟨vs, rfl, RAL_unrenC hA l _ (by simpa [wfA] using hf) hr, h1⟩
  | .fn f a b, x, hf, h => by
    simp only [RA, ren] at h ⊢
    obtain ⟨vs, us, rfl, h1, h2⟩ := h
    simp only [wfA, Bool.and_eq_true] at hf
    exact ⟨vs, us, rfl, RAL_unrenC hA a _ hf.1 h1, RAL_unrenC hA b _ hf.2 h2⟩
  | .yv l L sl, x, hf, h => by
    simp only [RA, ren] at h ⊢
    exact ⟨h.1, RAL_unrenC hA sl _ (by simpa [wfA] using hf) h.2⟩
  | .mp i, x, hf, h => by
    simp only [RA, ren] at h ⊢
    have hi : i < r1.length := by simpa [wfA] using hf
    refine ⟨hi, fun l hl => ?_⟩
    rw [hA.bl i hi]
    obtain ⟨l2, h2⟩ := hA.map i _ hl
    exact h.2 _ h2
  | .top, _, _, _ => by simp [RA]
theorem RAL_unrenC {g : Nat → Nat} {E1 E2 : Env} {r1 r2 : Rs} {w : World} (hA : AliasC g E1 r1 E2 r2) : ∀ (l : List AV) (vs : List Value), wfL r1.length l = true → RAL E2 r2 w (renL g l) vs → RAL E1 r1 w l vs
  | [], _, _, h => by simpa [RAL, renL] using h
  | a :: l, vs, hf, h => by
    simp only [wfL, Bool.and_eq_true] at hf
    simp only [RAL, renL] at h ⊢
    obtain ⟨v, rest, rfl, h1, h2⟩ := h
    exact ⟨v, rest, rfl, RA_unrenC hA a v hf.1 h1, RAL_unrenC hA l rest hf.2 h2⟩
end

/-- Each thing that is named behind is named ahead, by its old name. -/
def hRes (n : Nat) (F : List Nat) (g : Nat → Nat) (y : Option (Option Res)) : Res → Prop
  | .tok k => y = some (some (.tok k))
  | .obj l => ∃ l0, y = some (some (.obj l0)) ∧ WkFs n F l0 (renL g l)
  | .mpx l => y = some (some (.mpx l))
def hfit (n : Nat) (F : List Nat) (g : Nat → Nat) (r : Rs) : Nat → Rs → Prop
  | _, [] => True
  | k, none :: re => hfit n F g r (k + 1) re
  | k, some x :: re => hRes n F g r[g k]? x ∧ hfit n F g r (k + 1) re
theorem hfit_at {n : Nat} {F : List Nat} {g : Nat → Nat} {r : Rs} : ∀ {re : Rs} {k i : Nat} {x : Res}, hfit n F g r k re → re[i]? = some (some x) → hRes n F g r[g (k + i)]? x
  | [], k, i, x, _, h => by simp at h
  | none :: re, k, 0, x, _, h => by simp at h
  | none :: re, k, i + 1, x, hf, h => by
    have := hfit_at (re := re) (k := k + 1) (i := i) hf (by simpa using h)
    rwa [Nat.add_right_comm] at this
  | some y :: re, k, 0, x, hf, h => by simp at h; subst h; exact hf.1
  | some y :: re, k, i + 1, x, hf, h => by
    have := hfit_at (re := re) (k := k + 1) (i := i) hf.2 (by simpa using h)
    rwa [Nat.add_right_comm] at this
def idxs : Nat → Rs → List Nat
  | _, [] => []
  | k, none :: r => idxs (k + 1) r
  | k, some _ :: r => k :: idxs (k + 1) r
theorem idxs_mem : ∀ {r : Rs} {k i : Nat} {x : Res}, r[i]? = some (some x) → k + i ∈ idxs k r
  | [], k, i, x, h => by simp at h
  | none :: r, k, 0, x, h => by simp at h
  | none :: r, k, i + 1, x, h => by
    have := idxs_mem (r := r) (k := k + 1) (i := i) (x := x) (by simpa using h)
    simp only [idxs]; rwa [Nat.add_right_comm] at this
  | some y :: r, k, 0, x, h => by simp [idxs]
  | some y :: r, k, i + 1, x, h => by
    have := idxs_mem (r := r) (k := k + 1) (i := i) (x := x) (by simpa using h)
    simp only [idxs, List.mem_cons]; right; rwa [Nat.add_right_comm] at this
def ndB : List Nat → Bool
  | [] => true
  | a :: l => !l.contains a && ndB l
def hOK (m : Nat) (L : List Nat) (re : Rs) : Bool := ndB ((idxs 0 re).map (hn L)) && (idxs 0 re).all fun k => Nat.ble m k || hn L k == k
theorem ndB_inj {f : Nat → Nat} : ∀ {l : List Nat}, ndB (l.map f) = true → ∀ i ∈ l, ∀ j ∈ l, f i = f j → i = j
  | [], _, i, hi, _, _, _ => by simp at hi
  | a :: l, h, i, hi, j, hj, he => by
    simp only [List.map_cons, ndB, Bool.and_eq_true, Bool.not_eq_true', List.contains_eq_mem, decide_eq_false_iff_not] at h
    simp only [List.mem_cons] at hi hj
    rcases hi with rfl | hi <;> rcases hj with rfl | hj
    · rfl
    · exact absurd (List.mem_map.2 ⟨j, hj, he.symm⟩) h.1
    · exact absurd (List.mem_map.2 ⟨i, hi, he⟩) h.1
    · exact ndB_inj h.2 i hi j hj he

section core
variable {G : GR} {E : Env} {r re : Rs} {w : World} {L : List Nat} {m : Nat} {F : List Nat}
def envH (E : Env) (n : Nat) (L : List Nat) : Env := ⟨E.T, fun k => (envT E n).bl (hn L k)⟩
theorem alias_of (hf : hfit r.length F (hn L) (r ++ tks F) 0 re) : AliasC (hn L) (envH E r.length L) re (envT E r.length) (r ++ tks F) := by
  have hat : ∀ {i : Nat} {x : Res}, re[i]? = some (some x) → hRes r.length F (hn L) (r ++ tks F)[hn L i]? x := fun {i} {x} h => by
    have := hfit_at hf h
    rwa [Nat.zero_add] at this
  refine ⟨rfl, fun _ _ => rfl, fun i k h => hat h, fun i l h => ?_, fun i l h => ⟨l, hat h⟩⟩
  obtain ⟨l0, h0, hk⟩ := hat h
  have := hk.len
  rw [renL_length] at this
  exact ⟨l0, h0, this⟩
theorem good_ren (hG : Good G E r w) (hf : hfit r.length F (hn L) (r ++ tks F) 0 re) (hok : hOK m L re = true) (hwr : wfRs re.length re = true) : Good G (envH E r.length L) re w := by
  have hA := alias_of (E := E) hf
  have hG2 := good_tks hG F
  have hat : ∀ {i : Nat} {x : Res}, re[i]? = some (some x) → hRes r.length F (hn L) (r ++ tks F)[hn L i]? x := fun {i} {x} h => by
    have := hfit_at hf h
    rwa [Nat.zero_add] at this
  simp only [hOK, Bool.and_eq_true] at hok
  have look : ∀ {i : Nat} {x : Res}, re[i]? = some (some x) → ∃ y, (r ++ tks F)[hn L i]? = some (some y) := fun {i} {x} h => by
    have := hat h
    cases x with
    | tok k => exact ⟨_, this⟩
    | obj l => obtain ⟨l0, h0, _⟩ := this; exact ⟨_, h0⟩
    | mpx l => exact ⟨_, this⟩
  refine ⟨fun i k b hi hb => hG2.tok _ k b (hat hi) hb, fun i l hi => ?_, fun i l hi => ?_, fun i j x y b hi hj hbi hbj => ?_, hG.fresh, hG.glob⟩
  · obtain ⟨l0, h0, hk⟩ := hat hi
    by_cases hlt : hn L i < r.length
    · rw [List.getElem?_append_left hlt] at h0
      obtain ⟨b, hb, h1, vs, e, h2, h3, h4⟩ := hG.obj _ _ h0
      exact ⟨b, (envT_lt hlt).trans hb, h1, vs, e, h2, RAL_unrenC hA l _ (wfRs_at hwr hi) (hk.sound hG h3), h4⟩
    · rw [List.getElem?_append_right (by omega)] at h0
      obtain ⟨k, _, he⟩ := tks_get h0
      cases he
  · obtain ⟨b, hb, h1, h2⟩ := hG2.map _ _ (hat hi)
    exact ⟨b, hb, h1, h2⟩
  · obtain ⟨x', hx'⟩ := look hi
    obtain ⟨y', hy'⟩ := look hj
    have := hG2.one _ _ _ _ b hx' hy' hbi hbj
    have h1 := idxs_mem (k := 0) hi
    have h2 := idxs_mem (k := 0) hj
    rw [Nat.zero_add] at h1 h2
    exact ndB_inj hok.1 i h1 j h2 this
theorem own_ren (hG : Good G E r w) (hf : hfit r.length F (hn L) (r ++ tks F) 0 re) (b : Nat) (h : Own (envH E r.length L) re b) : Own E r b ∨ w.heap.size ≤ b := by
  obtain ⟨i, x, hi, hb⟩ := h
  refine (step_tks hG F).own b ?_
  have this : hRes r.length F (hn L) (r ++ tks F)[hn L i]? x := by
    have := hfit_at hf hi
    rwa [Nat.zero_add] at this
  cases x with
  | tok k => exact ⟨_, _, this, hb⟩
  | obj l => obtain ⟨l0, h0, _⟩ := this; exact ⟨_, _, h0, hb⟩
  | mpx l => exact ⟨_, _, this, hb⟩
theorem step_ren {E0 : Env} {r0 : Rs} {w0 : World} (hG : Good G E r w) (hS : Step E0 r0 w0 E r w) (hf : hfit r.length F (hn L) (r ++ tks F) 0 re) (hok : hOK m L re = true) (hm : r0.length ≤ m) (hml : m ≤ re.length) : Step E0 r0 w0 (envH E r.length L) re w := by
  have hS2 := hS.trans (step_tks hG F)
  have hat : ∀ {i : Nat} {x : Res}, re[i]? = some (some x) → hRes r.length F (hn L) (r ++ tks F)[hn L i]? x := fun {i} {x} h => by
    have := hfit_at hf h
    rwa [Nat.zero_add] at this
  simp only [hOK, Bool.and_eq_true] at hok
  have same : ∀ {i : Nat} {x : Res}, i < r0.length → re[i]? = some (some x) → hn L i = i := fun {i} {x} hi h => by
    have h1 := idxs_mem (k := 0) h
    rw [Nat.zero_add] at h1
    have := List.all_eq_true.1 hok.2 i h1
    simp only [Bool.or_eq_true, beq_iff_eq] at this
    rcases this with h2 | h2
    · have := Nat.le_of_ble_eq_true h2; omega
    · exact h2
  refine ⟨hS2.os, hS2.tape, hS2.output, hS2.size, hS2.block, fun b ⟨i, x, hi, hb⟩ => ?_, hS2.lasts, hS2.shape, ⟨by omega, fun i k hi h => ?_, fun i l hi h => ?_, fun i l hi h => ?_⟩⟩
  · refine hS2.own b ?_
    have := hat hi
    cases x with
    | tok k => exact ⟨_, _, this, hb⟩
    | obj l => obtain ⟨l0, h0, _⟩ := this; exact ⟨_, _, h0, hb⟩
    | mpx l => exact ⟨_, _, this, hb⟩
  · have hsm := same hi h
    have h1 := hat h
    simp only [hRes, hsm] at h1
    obtain ⟨k2, h2, h3, h4⟩ := hS2.names.tok i k hi h1
    refine ⟨k2, h2, h3, fun he => ?_⟩
    show (envT E r.length).bl (hn L i) = _
    rw [hsm]; exact h4 he
  · have hsm := same hi h
    have h1 := hat h
    simp only [hRes, hsm] at h1
    obtain ⟨l0, h1, hk⟩ := h1
    obtain ⟨l2, h2, h3, h4⟩ := hS2.names.obj i l0 hi h1
    have := hk.len
    rw [renL_length] at this
    refine ⟨l2, h2, by omega, ?_⟩
    show (envT E r.length).bl (hn L i) = _
    rw [hsm]; exact h4
  · have hsm := same hi h
    have h1 := hat h
    simp only [hRes, hsm] at h1
    obtain ⟨l2, h2, h3⟩ := hS2.names.map i l hi h1
    refine ⟨l2, h2, ?_⟩
    show (envT E r.length).bl (hn L i) = _
    rw [hsm]; exact h3
theorem RA_fit (hG : Good G E r w) (hf : hfit r.length F (hn L) (r ++ tks F) 0 re) {a b : AV} {x : Value} (hb : wfA re.length b = true) (hk : WkF r.length F a (ren (hn L) b)) (h : RA E r w a x) : RA (envH E r.length L) re w b x :=
  RA_unrenC (alias_of hf) b x hb (hk.sound hG h)
end core

def WkLR (n : Nat) (F : List Nat) (g : Nat → Nat) (σ : St) : List (Nat × AV) → Prop
  | [] => True
  | (k, v) :: l => WkF n F (σ.get k) (ren g v) ∧ WkLR n F g σ l
theorem WkLR_mem {n : Nat} {F : List Nat} {g : Nat → Nat} {σ : St} : ∀ {l : List (Nat × AV)} {k : Nat} {v : AV}, WkLR n F g σ l → (k, v) ∈ l → WkF n F (σ.get k) (ren g v)
  | (k', v') :: l, k, v, h, hm => by
    simp only [WkLR] at h
    simp only [List.mem_cons, Prod.mk.injEq] at hm
    rcases hm with ⟨rfl, rfl⟩ | hm
    · exact h.1
    · exact WkLR_mem h.2 hm
/-- The state says no less than the form, by other names: 'L' holds the old name behind each new one; from the end on, 'F' new rows. -/
def FitR (m : Nat) (L F : List Nat) (σ : St) (st : List (Nat × AV)) (re : Rs) : Prop :=
  WkLR σ.r.length F (hn L) σ st ∧ wfSt re.length st = true ∧ hfit σ.r.length F (hn L) (σ.r ++ tks F) 0 re ∧ wfRs re.length re = true ∧ hOK m L re = true ∧ Nat.ble m re.length = true
section
variable {P : Program} {ti : Ti} {G : GR} {N : Nat}
theorem Rel.fitR {E E0 : Env} {r0 : Rs} {w0 : World} {σ : St} {a : Act} {w : World} {st : List (Nat × AV)} {re : Rs} {m : Nat} {L F : List Nat} (h : Rel G N E σ a w) (hS : Step E0 r0 w0 E σ.r w) (hm : r0.length ≤ m) (hf : FitR m L F σ st re) :
    Rel G N (envH E σ.r.length L) ⟨fun _ => .top, st, re⟩ a w ∧ Step E0 r0 w0 (envH E σ.r.length L) re w := by
  obtain ⟨wk, wf, rs, wfr, hok, hle⟩ := hf
  refine ⟨⟨h.size, fun i => ?_, good_ren h.good rs hok wfr, h.defers.move (Nat.le_refl _) (fun _ _ _ => rfl) (own_ren h.good rs)⟩, step_ren h.good hS rs hok hm (Nat.le_of_ble_eq_true hle)⟩
  show RA _ re w (lk st (fun _ => .top) i) _
  rcases lk_cases st (fun _ => AV.top) i with ⟨v, hv, he⟩ | ⟨_, he⟩
  · rw [he]
    exact RA_fit h.good rs (wfSt_mem wf hv) (WkLR_mem wk hv) (h.slot i)
  · rw [he]; simp [RA]
theorem HC_loopR {body : Code} {K : KD} {σ : St} {ι : Type} (st : ι → List (Nat × AV)) (re : ι → Rs) (p : ι → Prop) (μ : ι → Nat) (i0 : ι) (L F : List Nat) (h0 : p i0) (hf : FitR σ.r.length L F σ (st i0) (re i0))
    (round : ∀ i, p i → HC P ti G N body (.loop (fun σ' => ∃ j, p j ∧ μ j < μ i ∧ ∃ L F, FitR σ.r.length L F σ' (st j) (re j)) K) ⟨fun _ => .top, st i, re i⟩) : HC P ti G N (.loop body) K σ := by
  intro E0 r0 w0 E a w hR hS
  have hlen : r0.length ≤ σ.r.length := hS.names.len
  have hstart := hR.fitR hS hlen hf
  refine wp_loop_g (fun m a' w' => ∃ i E', p i ∧ μ i = m ∧ Rel G N E' ⟨fun _ => .top, st i, re i⟩ a' w' ∧ Step E0 r0 w0 E' (re i) w') (n0 := μ i0)
    ⟨i0, _, h0, rfl, hstart.1, hstart.2⟩ ?_
  intro m a w hI
  obtain ⟨i, E', hp, hm, hR', hS'⟩ := hI
  subst hm
  refine wpIn_mono (round i hp E0 r0 w0 E' a w hR' hS') fun e a1 w1 hq => ?_
  obtain ⟨σ1, E1, hk, hR1, hS1⟩ := hq
  cases e with
  | normal =>
    obtain ⟨j, hpj, hlt, L', F', hfit⟩ := hk
    have h2 := hR1.fitR hS1 hlen hfit
    exact ⟨μ j, hlt, j, _, hpj, rfl, h2.1, h2.2⟩
  | _ => exact ⟨σ1, E1, hk, hR1, hS1⟩
/-- The state in another form, at a loop or a drawn region. -/
theorem HC_fitR {c : Code} {K : KD} {σ : St} (st : List (Nat × AV)) (re : Rs) (L F : List Nat) (hf : FitR σ.r.length L F σ st re) (h : HC P ti G N c K ⟨fun _ => .top, st, re⟩) : HC P ti G N c K σ := by
  intro E0 r0 w0 E a w hR hS
  have h2 := hR.fitR hS hS.names.len hf
  exact h E0 r0 w0 _ a w h2.1 h2.2

/-! ### A result in another form -/
def WkFT (n : Nat) (F : List Nat) (a b : AV) : Prop := WkF n F a b ∨ ∃ l l0, a = .tup l ∧ b = .tup l0 ∧ WkFs n F l l0
theorem WkFT.one {n : Nat} {F : List Nat} {a b : AV} (h : WkF n F a b) : WkFT n F a b := .inl h
theorem WkFT.tup {n : Nat} {F : List Nat} {l m : List AV} (h : WkFs n F l m) : WkFT n F (.tup l) (.tup m) := .inr ⟨l, m, rfl, rfl, h⟩
theorem WkFT.sound {E : Env} {r : Rs} {w : World} (hG : Good G E r w) {F : List Nat} {a b : AV} {x : Value} (h : WkFT r.length F a b) (hr : RA E r w a x) : RA (envT E r.length) (r ++ tks F) w b x := by
  rcases h with h | ⟨l, l0, rfl, rfl, h⟩
  · exact h.sound hG hr
  · simp only [RA] at hr ⊢
    obtain ⟨vs, h1, h2⟩ := hr
    exact ⟨vs, h1, h.sound hG h2⟩
/-- What a result says, by other names. -/
def FitV (m : Nat) (L F : List Nat) (v : AV) (r : Rs) (v' : AV) (re : Rs) : Prop :=
  WkFT r.length F v (ren (hn L) v') ∧ wfA re.length v' = true ∧ hfit r.length F (hn L) (r ++ tks F) 0 re ∧ wfRs re.length re = true ∧ hOK m L re = true ∧ Nat.ble m re.length = true
theorem AC.fit {f : FuncId} {args : List AV} {r : Rs} {O : AV → Rs → Prop} (h : AC P G f args r fun v r' => ∃ v1 r1 L F, O v1 r1 ∧ FitV r.length L F v r' v1 r1) : AC P G f args r O := by
  refine ⟨h.1, fun E w vals hG hA => (h.2 E w vals hG hA).mono fun e w' ⟨v, x, r', E', he, ⟨v1, r1, L, F, hO, hf⟩, h1, h2, h3⟩ => ?_⟩
  obtain ⟨wk, wf, rs, wfr, hok, hle⟩ := hf
  exact ⟨v1, x, r1, _, he, hO, RA_unrenC (alias_of rs) v1 x wf (wk.sound h2 h1), good_ren h2 rs hok wfr, step_ren h2 h3 rs hok (Nat.le_refl _) (Nat.le_of_ble_eq_true hle)⟩
end
end Go.Proofs.Ythdjblfiiogmgaa
/- The frame of these proofs, part ZF: a call that only reads what it is handed, and tells numbers, texts and truth values alone: structs of the call's own are lent to it as data. -/
set_option linter.unusedVariables false
set_option linter.unusedSimpArgs false
namespace Go.Proofs.Ythdjblfiiogmgaa
open Go

/-- A datum that hangs on no memory. -/
def scalD : D → Bool
  | .c _ => true
  | .agg l => l.all fun d => match d with | .c _ => true | _ => false
  | _ => false
def scalA : AV → Bool
  | .d d => scalD d
  | .tup l => l.all fun a => match a with | .d d => scalD d | _ => false
  | _ => false
theorem scal_bD (l : List UInt8) : scalA (.d (.agg (bD l))) = true := by
  simp [scalA, scalD, bD]
theorem RL_scal {T T' : Nat → Nat} {w w' : World} : ∀ {l : List D} {vs : List Value}, (l.all fun d => match d with | .c _ => true | _ => false) = true → RL T w l vs → RL T' w' l vs
  | [], vs, _, h => by simpa [RL] using h
  | d :: l, vs, hs, h => by
    simp only [List.all_cons, Bool.and_eq_true] at hs
    simp only [RL] at h ⊢
    obtain ⟨v, rest, rfl, h1, h2, h3⟩ := h
    refine ⟨v, rest, rfl, h1, ?_, RL_scal hs.2 h3⟩
    cases d <;> simp only [RD, Bool.false_eq_true, false_and] at hs h2 ⊢
    exact h2
theorem RD_scal {T T' : Nat → Nat} {w w' : World} {d : D} {v : Value} (hs : scalD d = true) (h : RD T w d v) : RD T' w' d v := by
  cases d with
  | c y => simpa [RD] using h
  | sl sz n xs => simp [scalD] at hs
  | p xs => simp [scalD] at hs
  | agg l =>
    simp only [RD] at h ⊢
    obtain ⟨vs, rfl, h⟩ := h
    exact ⟨vs, rfl, RL_scal hs h⟩
theorem RA_scal {E E' : Env} {r r' : Rs} {w w' : World} {a : AV} {v : Value} (hs : scalA a = true) (h : RA E r w a v) : RA E' r' w' a v := by
  cases a <;> simp only [scalA, Bool.false_eq_true] at hs
  case d d => simp only [RA] at h ⊢; exact RD_scal hs h
  case tup l =>
    simp only [RA] at h ⊢
    obtain ⟨vs, rfl, h⟩ := h
    refine ⟨vs, rfl, ?_⟩
    have : ∀ (l : List AV) (vs : List Value), (l.all fun a => match a with | .d d => scalD d | _ => false) = true → RAL E r w l vs → RAL E' r' w' l vs := by
      intro l
      induction l with
      | nil => intro vs _ h; simpa [RAL] using h
      | cons a l ih =>
        intro vs hs h
        simp only [List.all_cons, Bool.and_eq_true] at hs
        simp only [RAL] at h ⊢
        obtain ⟨v, rest, rfl, h1, h2⟩ := h
        refine ⟨v, rest, rfl, ?_, ih rest hs.2 h2⟩
        cases a <;> simp only [RA, Bool.false_eq_true, false_and] at hs h1 ⊢
        exact RD_scal hs.1 h1
    exact this l vs.toList hs h

/-! ### What is lent -/
def csize (w : World) (b : Nat) : Nat := match w.heap[b]? with
  | some (.cells vs _ _) => vs.size
  | _ => 0
def LentB (E : Env) (r : Rs) (b : Nat) : Prop := ∃ i l, r[i]? = some (some (.obj l)) ∧ E.bl i = some b ∧ (allD l).isSome = true
open Classical in
noncomputable def lentT (E : Env) (r : Rs) (w : World) : Nat → Nat := fun b => if LentB E r b then csize w b else E.T b
noncomputable def lentE (E : Env) (r : Rs) (w : World) : Env := ⟨lentT E r w, E.bl⟩
section
variable {G : GR} {E : Env} {r : Rs} {w : World}
theorem lentT_obj (hG : Good G E r w) {i b : Nat} {l : List AV} (hi : r[i]? = some (some (.obj l))) (hb : E.bl i = some b) (hl : (allD l).isSome = true) : lentT E r w b = csize w b := by
  unfold lentT; rw [if_pos ⟨i, l, hi, hb, hl⟩]
theorem lent_lasts (hG : Good G E r w) : Lasts E.T w (lentT E r w) w := by
  refine ⟨fun b => ?_, fun _ _ => rfl⟩
  unfold lentT
  split
  · rename_i h
    obtain ⟨i, l, hi, hb, _⟩ := h
    obtain ⟨b', hb', hT, _⟩ := hG.obj i l hi
    rw [hb] at hb'; injection hb' with hb'; subst hb'
    omega
  · exact Nat.le_refl _
theorem lent_good (hG : Good G E r w) : Good G (lentE E r w) [] w := by
  refine ⟨fun i k b h => (by simp at h), fun i l h => (by simp at h), fun i l h => (by simp at h), fun i j x y b h => (by simp at h), fun b hb => ?_, fun g => RM.lasts (lent_lasts hG) _ _ (hG.glob g)⟩
  show lentT E r w b = 0
  unfold lentT
  split
  · rename_i h
    obtain ⟨i, l, hi, hb2, _⟩ := h
    have := hG.lt hi hb2; omega
  · exact hG.fresh b hb
/-- A value as it is, or a pointer or slice into what is lent. -/
def BwA (r : Rs) (a b : AV) : Prop := (WeakA a b ∧ wfA 0 b = true) ∨ (∃ i off l ds, a = .ptr i off ∧ objOf r i = some l ∧ allD l = some ds ∧ b = .el (ds.drop off)) ∨
  (∃ i off sz n l ds, a = .osl i off sz n ∧ objOf r i = some l ∧ allD l = some ds ∧ 0 < n ∧ b = .d (.sl sz n ((ds.drop off).take (n * sz)))) ∨
  (∃ i off sz n c l ds, a = .csl i off sz n c ∧ objOf r i = some l ∧ allD l = some ds ∧ 0 < n ∧ b = .d (.sl sz n ((ds.drop off).take (n * sz))))
theorem BwA.val {a b : AV} (h : WeakA a b) (hw : wfA 0 b = true) : BwA r a b := .inl ⟨h, hw⟩
theorem BwA.ptr {i off : Nat} {l : List AV} {ds : List D} (ho : objOf r i = some l) (hl : allD l = some ds) : BwA r (.ptr i off) (.el (ds.drop off)) := .inr (.inl ⟨i, off, l, ds, rfl, ho, hl, rfl⟩)
theorem BwA.ptr0 {i : Nat} {l : List AV} {ds : List D} (ho : objOf r i = some l) (hl : allD l = some ds) : BwA r (.ptr i 0) (.el ds) := .inr (.inl ⟨i, 0, l, ds, rfl, ho, hl, rfl⟩)
theorem BwA.osl {i off sz n : Nat} {l : List AV} {ds : List D} (ho : objOf r i = some l) (hl : allD l = some ds) (hn : 0 < n) : BwA r (.osl i off sz n) (.d (.sl sz n ((ds.drop off).take (n * sz)))) := .inr (.inr (.inl ⟨i, off, sz, n, l, ds, rfl, ho, hl, hn, rfl⟩))
theorem BwA.csl {i off sz n c : Nat} {l : List AV} {ds : List D} (ho : objOf r i = some l) (hl : allD l = some ds) (hn : 0 < n) : BwA r (.csl i off sz n c) (.d (.sl sz n ((ds.drop off).take (n * sz)))) := .inr (.inr (.inr ⟨i, off, sz, n, c, l, ds, rfl, ho, hl, hn, rfl⟩))
theorem lent_row (hG : Good G E r w) {i : Nat} {l : List AV} {ds : List D} (ho : objOf r i = some l) (hl : allD l = some ds) : ∃ b, E.bl i = some b ∧ l.length = ds.length ∧ RM (lentT E r w) w ds ⟨b, 0, none⟩ := by
  obtain ⟨b, hb, hT, vs, e, hh, hral, hone⟩ := hG.obj i l (objOf_some ho)
  have hrl := allD_sound l _ ds hral hl hone
  have h1 := RAL_length _ _ hral
  have h2 := RL_length _ _ hrl
  refine ⟨b, hb, by omega, RM_of_values _ _ vs.toList (RL.lasts (lent_lasts hG) _ _ hrl) (fun j u hj => ?_) ?_⟩
  · rw [addr_plain, cell_of_row w b _ vs e (0, 0) hh]; simpa using hj
  · show 0 + ds.length ≤ lentT E r w b
    rw [lentT_obj hG (objOf_some ho) hb (by rw [hl]; rfl)]
    unfold csize
    rw [hh]
    simp only [Array.length_toList] at h2
    simp only; omega
theorem BwA.sound (hG : Good G E r w) {a b : AV} {x : Value} (h : BwA r a b) (hr : RA E r w a x) : RA (lentE E r w) [] w b x := by
  rcases h with ⟨h, hw⟩ | ⟨i, off, l, ds, rfl, ho, hl, rfl⟩ | ⟨i, off, sz, n, l, ds, rfl, ho, hl, hn, rfl⟩ | ⟨i, off, sz, n, c, l, ds, rfl, ho, hl, hn, rfl⟩
  · have h1 := h.sound hr
    have hN : Names E r (lentE E r w) r := ⟨Nat.le_refl _, fun i k' _ h => ⟨k', h, Nat.le_refl _, fun _ => rfl⟩, fun i l' _ h => ⟨l', h, rfl, rfl⟩, fun i l' _ h => ⟨l', h, rfl⟩⟩
    exact RA_weak (r' := []) ⟨by simp, fun i x h => by simp at h⟩ b x hw (RA.lasts (lent_lasts hG) hN (ShapeLasts.refl w) b x h1)
  · obtain ⟨b, hb, hlen, hrm⟩ := lent_row hG ho hl
    simp only [RA] at hr ⊢
    obtain ⟨b2, hb2, rfl⟩ := hr.2 l (objOf_some ho)
    rw [hb] at hb2; injection hb2 with hb2; subst hb2
    refine ⟨_, rfl, ?_⟩
    have := RM_drop _ _ hrm off
    rwa [addr_plain, Nat.zero_add] at this
  · obtain ⟨b, hb, hlen, hrm⟩ := lent_row hG ho hl
    simp only [RA, RD] at hr ⊢
    obtain ⟨_, A, c, rfl, hc, hx⟩ := hr
    obtain ⟨hfit, hx⟩ := hx l (objOf_some ho)
    obtain ⟨b2, hb2, rfl⟩ := hx hn
    rw [hb] at hb2; injection hb2 with hb2; subst hb2
    refine ⟨by rw [List.length_take, List.length_drop]; omega, _, _, rfl, hc, .inr ⟨_, rfl, ?_⟩⟩
    have := RM_take _ _ (RM_drop _ _ hrm off) (n * sz)
    rwa [addr_plain, Nat.zero_add] at this
  · obtain ⟨b, hb, hlen, hrm⟩ := lent_row hG ho hl
    simp only [RA, RD] at hr ⊢
    obtain ⟨_, A, rfl, hc, hx⟩ := hr
    obtain ⟨hfit, hx⟩ := hx l (objOf_some ho)
    obtain ⟨b2, hb2, rfl⟩ := hx (by omega)
    rw [hb] at hb2; injection hb2 with hb2; subst hb2
    have hm : n * sz ≤ c * sz := Nat.mul_le_mul_right _ hc
    refine ⟨by rw [List.length_take, List.length_drop]; omega, _, _, rfl, hc, .inr ⟨_, rfl, ?_⟩⟩
    have := RM_take _ _ (RM_drop _ _ hrm off) (n * sz)
    rwa [addr_plain, Nat.zero_add] at this
def BwAs (r : Rs) : List AV → List AV → Prop
  | [], [] => True
  | a :: l, b :: m => BwA r a b ∧ BwAs r l m
  | _, _ => False
theorem BwAs.sound (hG : Good G E r w) : ∀ {l m : List AV} {vs : List Value}, BwAs r l m → RAL E r w l vs → RAL (lentE E r w) [] w m vs
  | [], [], vs, _, h => by simpa [RAL] using h
  | a :: l, b :: m, vs, hk, h => by
    simp only [RAL] at h ⊢
    obtain ⟨v, rest, rfl, h1, h2⟩ := h
    exact ⟨v, rest, rfl, hk.1.sound hG h1, BwAs.sound hG hk.2 h2⟩
  | [], _ :: _, _, h, _ => h.elim
  | _ :: _, [], _, h, _ => h.elim
/-- Behind the call all is as it was. -/
theorem lent_back {P : Program} {f : FuncId} {args : List AV} {v0 : AV} (h : AC P G f args [] fun v r' => v = v0 ∧ r' = []) (hv : scalA v0 = true) (hG : Good G E r w) {vals : Array Value} (hA : RAL (lentE E r w) [] w args vals.toList) :
    Calls P f vals w fun e w' => ∃ x, e = .returned x ∧ RA E r w' v0 x ∧ Good G E r w' ∧ Step E r w E r w' ∧ Keeps w w' := by
  refine (h.2 _ w vals (lent_good hG) hA).mono fun e w' ⟨v, x, r', E1, he, ⟨hv1, hr1⟩, hra, hG1, hS⟩ => ?_
  subst hv1; subst hr1
  have hkeep : Keeps w w' := ⟨hS.size, fun b hb => (hS.block b hb (by rintro ⟨i, y, hi, _⟩; simp at hi)).1⟩
  have hst : Step E r w E r w' := by
    refine ⟨hS.os, hS.tape, hS.output, hS.size, fun b hb _ => ⟨hkeep.2 b hb, rfl⟩, fun b hb => .inl hb, ⟨fun _ => Nat.le_refl _, fun a ha => ?_⟩, hS.shape, Names.refl _ _⟩
    have hlt := hG.pub_lt ha
    unfold World.cell?
    rw [hkeep.2 _ hlt]
  refine ⟨x, he, RA_scal hv hra, ?_, hst, hkeep⟩
  refine ⟨fun i k b hi hb => ?_, fun i l hi => ?_, fun i l hi => ?_, hG.one, fun b hb => hG.fresh b (Nat.le_trans hS.size hb), fun g => RM.lasts hst.lasts _ _ (hG.glob g)⟩
  · obtain ⟨h1, cur, e, h2, h3⟩ := hG.tok i k b hi hb
    exact ⟨h1, cur, e, (hkeep.2 _ (hG.lt hi hb)).trans h2, h3⟩
  · obtain ⟨b, hb, h1, vs, e, h2, h3, h4⟩ := hG.obj i l hi
    exact ⟨b, hb, h1, vs, e, (hkeep.2 _ (hG.lt hi hb)).trans h2, h3.step hst, h4⟩
  · obtain ⟨b, hb, h1, h2⟩ := hG.map i l hi
    exact ⟨b, hb, h1, h2.lasts (T' := E.T) (hkeep.2 _ (hG.lt hi hb)) hst.lasts⟩
end
section
variable {P : Program} {ti : Ti} {G : GR} {N : Nat} {ops : Array Oper} {σ : St}
theorem HO_lend (hti : TiOK P ti) {o : Oper} {rest : List Oper} {M : KM} {f : FuncId} {as args : List AV} {v0 : AV} {c : Call} (h : AC P G f args [] fun v r' => v = v0 ∧ r' = []) (hv : scalA v0 = true) (ho : o.op = .call c)
    (hg : gd ops σ o = some true) (hc : calleeOf (σ.ev G) c = some (f, as)) (hd : (o :: rest).all (dstOK N) = true) (hw : BwAs σ.r as args)
    (hk : EV P ti G N ops rest M (σ.putR o.dst v0 σ.r)) : HO P ti G N ops (o :: rest) M σ := by
  simp only [List.all_cons, Bool.and_eq_true] at hd
  cases M with
  | plain K =>
    intro E0 r0 w0 E a w hR hS
    unfold wpListIn
    rw [if_pos (gd_sound hR hg)]
    obtain ⟨vals, hrun, hral⟩ := callee_run (P := P) (fun x => ev_sound hR x) ho hc h.1
    refine ⟨fun f _ => fcR_fn G f, ?_⟩
    rw [Oper.semAt_eq _ _ _ (fun c hc => by rw [ho] at hc; cases hc), hrun, Oper.uponIn_enter]
    refine ⟨fun hd => (by cases hd), ?_⟩
    refine callsIn_any G ?_
    refine (lent_back h hv hR.good (hw.sound hR.good hral)).mono fun e w' hq => ?_
    obtain ⟨x, rfl, hra, hgood, hst, _⟩ := hq
    have hrel := hR.putO hst hgood hd.1 hra
    rw [putR_eq] at hrel
    exact HO_of_EV hti hd.2 hk E0 r0 w0 E _ w' hrel (hS.trans hst)
  | draw π kp K =>
    intro hok hl
    obtain ⟨L, pl⟩ := plan_of hok
    obtain ⟨i0, hd0, ho0, hrest, hk1⟩ := opl_cons pl hl
    have he : isEff ti o = true := by
      unfold isEff
      have : stops o.op = true := by
        rw [ho]
        unfold calleeOf at hc
        split at hc
        · rename_i x hx; simp [stops, hx]
        · cases hc
      simp [this]
    refine DWp_step pl hd0 ho0 hk1 he fun E0 r0 w0 E b w hR hS a C heq hwq hC => ?_
    have hgd := gd_sound hR hg
    rw [hwq] at hgd
    rw [if_pos hgd]
    obtain ⟨vals, hrun, hral⟩ := callee_run (P := P) (fun x => ev_sound hR x) ho hc h.1
    unfold Oper.wp
    rw [← heq, hrun, Oper.upon_enter]
    refine (lent_back h hv hR.good (hw.sound hR.good hral)).mono fun e w' hq => ?_
    obtain ⟨x, rfl, hra, hgood, hst, hkeep⟩ := hq
    have hrel := hR.putO hst hgood hd.1 hra
    rw [putR_eq] at hrel
    exact hC x w' E _ hrel (hS.trans hst) (fun _ => hkeep) (ED_sound hti pl hok rest _ _ hk1 hrest hk)
end
end Go.Proofs.Ythdjblfiiogmgaa
/- The frame of these proofs, part ZG: where rows are the call's own ('lit'): an append to nothing makes a row that may be written; any other operation by sight. -/
set_option linter.unusedVariables false
set_option linter.unusedSimpArgs false
namespace Go.Proofs.Ythdjblfiiogmgaa
open Go
section
variable {P : Program} {ti : Ti} {G : GR} {N : Nat} {ops : Array Oper} {M : KM} {σ : St}
theorem keepOp_app {c : Call} : keepOp (.call c) = false := rfl
/-- An append, as it is reckoned where rows are data. -/
theorem HO_app (hti : TiOK P ti) {d : Option Tmp} {x y : Operand} {t u ty : TypeId} {ps : String} {af : Array Edge} {g : Option (Nat × Bool)} {rest : List Oper} {v : AV} {r' : Rs} (hg : gd ops σ ⟨d, .call ⟨.builtin .append, #[x, y], #[t, u]⟩, ty, ps, af, g⟩ = some true)
    (he : evApp ti σ.r t u (σ.ev G x) (σ.ev G y) = some (v, r')) (hd : ((⟨d, .call ⟨.builtin .append, #[x, y], #[t, u]⟩, ty, ps, af, g⟩ : Oper) :: rest).all (dstOK N) = true) (hkp : kpFree M (rest.length + 1) = true)
    (hk : EV P ti G N ops rest M (σ.putR d v r')) : HO P ti G N ops (⟨d, .call ⟨.builtin .append, #[x, y], #[t, u]⟩, ty, ps, af, g⟩ :: rest) M σ := by
  refine HO_sem hti (fun _ : Unit => v) (fun _ => r') (fun _ => True) hg hd rfl (fun E w a hR => ?_) rfl fun _ _ => hk
  obtain ⟨z, w', E', hrun, hra, hgood, hst⟩ := evA_sound (P := P) hti hR.good (fun q => ev_sound hR q) (o := ⟨d, .call ⟨.builtin .append, #[x, y], #[t, u]⟩, ty, ps, af, g⟩) (v := v) (r' := r') he
  rcases hrun with hrun | ⟨hrun, _⟩
  · exact ⟨(), z, w', E', trivial, hrun, hra, hgood, hst, .inl hkp⟩
  · exfalso
    have : ∀ s : Sem Value, (s.bind fun q => (pure (.value q) : Sem Next)).run P w ≠ .ok .skip w' := by
      intro s h
      have h2 : ((s >>= fun q => pure (.value q)) : Sem Next).run P w = .ok .skip w' := h
      rw [Sem.run_bind] at h2
      cases hs : s.run P w <;> rw [hs] at h2 <;> simp at h2
    revert hrun
    simp [execOp, resolve, invoke, builtin]
    intro h
    generalize (Builtin.append_ #[t, u] ty #[a.eval x, a.eval y]).run P w = q at h
    cases q <;> simp at h
/-- .. for simp. -/
theorem HO_appB (hti : TiOK P ti) {d : Option Tmp} {x y : Operand} {t u ty : TypeId} {ps : String} {af : Array Edge} {g : Option (Nat × Bool)} {rest : List Oper} (hg : gd ops σ ⟨d, .call ⟨.builtin .append, #[x, y], #[t, u]⟩, ty, ps, af, g⟩ = some true)
    (hd : ((⟨d, .call ⟨.builtin .append, #[x, y], #[t, u]⟩, ty, ps, af, g⟩ : Oper) :: rest).all (dstOK N) = true) (hkp : kpFree M (rest.length + 1) = true)
    (hk : bindQ2 (fun v r' => EV P ti G N ops rest M (σ.putR d v r')) (evApp ti σ.r t u (σ.ev G x) (σ.ev G y))) : HO P ti G N ops (⟨d, .call ⟨.builtin .append, #[x, y], #[t, u]⟩, ty, ps, af, g⟩ :: rest) M σ := by
  obtain ⟨⟨v, r'⟩, he, hk⟩ := bindP_elim hk
  exact HO_app hti hg he hd hkp hk
theorem HO_appO (hti : TiOK P ti) {d : Option Tmp} {x y : Operand} {t u ty e : TypeId} {ps : String} {af : Array Edge} {g : Option (Nat × Bool)} {rest : List Oper} {m : Nat} {ys : List D} {zl : List AV} (hg : gd ops σ ⟨d, .call ⟨.builtin .append, #[x, y], #[t, u]⟩, ty, ps, af, g⟩ = some true)
    (ht : tK ti t = .sl e) (hu : isSrc (tK ti u) = true) (hi : tI ti e = true) (hx : slOf (tS ti e) (σ.ev G x) = some (some .full, 0, [])) (hy : srcOf σ.r (tS ti e) (σ.ev G y) = some (m, ys)) (hz : tZ ti e = some zl) (hpos : 0 < tS ti e) (hm : 0 < m)
    (h63 : m ≤ 9223372036854775807) (hb : m * tB ti e ≤ 140737488355328) (hd : ((⟨d, .call ⟨.builtin .append, #[x, y], #[t, u]⟩, ty, ps, af, g⟩ : Oper) :: rest).all (dstOK N) = true)
    (hk : ∀ k : Nat, EV P ti G N ops rest M (σ.putR d (.osl σ.r.length 0 (tS ti e) m) (σ.r ++ [some (.obj (ys.map .d ++ repA zl k))]))) : HO P ti G N ops (⟨d, .call ⟨.builtin .append, #[x, y], #[t, u]⟩, ty, ps, af, g⟩ :: rest) M σ := by
  obtain ⟨s, bb, z, hte⟩ := tK_sl ht
  obtain ⟨ie, hee⟩ : ∃ ie, ti e = some ie := by
    unfold tI at hi
    exact Option.isSome_iff_exists.1 hi
  have hsz : tS ti e = ie.size := by unfold tS; rw [hee]
  have hby : tB ti e = ie.bytes := by unfold tB; rw [hee]
  have hzz : zeroA ie.zero = some zl := by unfold tZ at hz; rw [hee] at hz; exact hz
  obtain ⟨iu, hue, hsrc⟩ : ∃ iu, ti u = some iu ∧ Src iu.u := by
    unfold tK at hu
    cases h : ti u with
    | none => rw [h] at hu; simp [isSrc] at hu
    | some iu =>
      refine ⟨iu, rfl, ?_⟩
      rw [h] at hu
      obtain ⟨uu, _, _, _⟩ := iu
      cases uu <;> simp [tkOf, isSrc] at hu
      · exact .inr rfl
      · exact .inl ⟨_, rfl⟩
  rw [hsz] at hx hy hpos hk
  rw [hby] at hb
  refine HO_sem hti (fun k : Nat => .osl σ.r.length 0 ie.size m) (fun k => σ.r ++ [some (.obj (ys.map .d ++ repA zl k))]) (fun _ => True) hg hd rfl (fun E w a hR => ?_) rfl fun k _ => hk k
  have hG := hR.good
  obtain ⟨hut, _⟩ := hti _ _ hte
  obtain ⟨_, fe, hfe, hfs, hfb, hfz, hzs, _⟩ := hti _ _ hee
  obtain ⟨huu, _⟩ := hti _ _ hue
  obtain ⟨hlx, A, c, hxv, hnc, hrx, hmo⟩ := slOf_sound (ev_sound hR x) hx
  obtain ⟨hly, hlen, news, hnews, hf1, hf2⟩ := srcOf_sound (P := P) hG (ev_sound hR y) hy
  rw [← hfs] at hf1 hf2
  have hnl := RL_length _ _ hnews
  have hc0 : c = 0 := hmo
  subst hc0
  have hof : (Builtin.firstCells fe.size 0 (.slice A 0 0)).run P w.drew = .ok (#[] : Array Value) w.drew := by
    cases A with
    | none => simp [Builtin.firstCells]
    | some ad => exact run_firstCells_some (P := P) w.drew fe.size 0 ad 0 0 [] (by simp) (fun j u hj => by simp at hj)
  have hGd := good_drew hG
  have hsd := step_drew E σ.r w
  have hrun := app_grow (P := P) (ty := ty) hut huu hsrc hfe hfz (olds := []) hof hlen hf2 (by omega) (by omega) (growslice_fits (by omega) (by rw [hfb, Nat.zero_add]; exact hb))
  have hst := step_push hGd (.cells (#[] ++ news.toArray ++ Builtin.zeroCells ie.zero.cells (grownCap w (0 + m) 0 e - (0 + m))) e) 0 (some (.obj (ys.map .d ++ repA zl (grownCap w (0 + m) 0 e - (0 + m)))))
  obtain ⟨z1, z2⟩ := zeros_sound (E := E) (r := σ.r) (w := w) hzz (n := grownCap w (0 + m) 0 e - (0 + m)) hzs hpos
  have hzc : (Builtin.zeroCells ie.zero.cells (grownCap w (0 + m) 0 e - (0 + m))).toList = ((Array.range ((grownCap w (0 + m) 0 e - (0 + m)) * ie.size)).map fun i => (ie.zero.cells[i % ie.zero.cells.size]!)).toList := by
    unfold Builtin.zeroCells
    rw [hzs]
  rw [← hzc] at z1 z2
  have hcells : RAL E σ.r w (ys.map .d ++ repA zl (grownCap w (0 + m) 0 e - (0 + m))) (#[] ++ news.toArray ++ Builtin.zeroCells ie.zero.cells (grownCap w (0 + m) 0 e - (0 + m)) : Array Value).toList := by
    simp only [Array.toList_append, List.nil_append]
    exact RAL_append _ _ _ _ (RAL_map_d _ _ hnews) z1
  have hge := grownCap_ge w (0 + m) 0 e
  refine ⟨_, .slice (some ⟨w.heap.size, 0, none⟩) m (grownCap w (0 + m) 0 e), _, _, trivial, ?_, ?_, good_push hGd _ _ _ ⟨fun k hk => (by cases hk), fun l hl => ?_, fun l hl => (by cases hl)⟩, hsd.trans hst, .inr (Keeps.trans (Keeps.drew w) (Keeps.alloc w.drew _))⟩
  · have h0 : (0 : Nat) + m = m := Nat.zero_add m
    rw [h0] at hrun
    rw [← hxv] at hrun
    simp [execOp, resolve, invoke, builtin, hrun, h0]
  · simp only [RA]
    refine ⟨by simp, _, _, rfl, by omega, fun l hl => ?_⟩
    simp at hl
    subst hl
    refine ⟨?_, fun _ => ⟨_, updN_same _ _ _, rfl⟩⟩
    rw [List.length_append, List.length_map, hly]; omega
  · injection hl with hl; subst hl
    refine ⟨updN_same _ _ _, _, e, heap_alloc_new w.drew _, (hcells.step (hsd.trans hst)), ?_⟩
    intro q hq
    simp only [Array.toList_append, List.nil_append, List.mem_append] at hq
    rcases hq with hq | hq
    · exact RL_one _ _ hnews q hq
    · exact z2 q hq
theorem values_wide {T : Nat → Nat} {w : World} {ds : List D} {us : List Value} (h : RL T w ds us) : ∀ u ∈ us, u.oneCell' = true := by
  induction ds generalizing us with
  | nil => simp only [RL] at h; subst h; simp
  | cons d ds ih =>
    simp only [RL] at h
    obtain ⟨v, rest, rfl, h1, _, h3⟩ := h
    intro u hu
    rcases List.mem_cons.1 hu with rfl | hu
    · exact h1
    · exact ih h3 u hu
/-- A copy of data into an object's cells. -/
theorem HO_copyD (hti : TiOK P ti) {d : Option Tmp} {x y : Operand} {t u e ty : TypeId} {ps : String} {af : Array Edge} {g : Option (Nat × Bool)} {rest : List Oper} {o off n m k : Nat} {mo : Option Mo} {l : List AV} {ys : List D} (hg : gd ops σ ⟨d, .call ⟨.builtin .copy, #[x, y], #[t, u]⟩, ty, ps, af, g⟩ = some true)
    (hx : σ.ev G x = .osl o off 1 n) (hy : slOf 1 (σ.ev G y) = some (mo, m, ys)) (hl : objOf σ.r o = some l) (ht : tK ti t = .sl e) (hte : tI ti e = true ∧ tS ti e = 1) (hn : 0 < n) (hk2 : Nat.min m n = k)
    (hd : ((⟨d, .call ⟨.builtin .copy, #[x, y], #[t, u]⟩, ty, ps, af, g⟩ : Oper) :: rest).all (dstOK N) = true) (hkp : kpFree M (rest.length + 1) = true)
    (hk : EV P ti G N ops rest M (σ.putR d (.d (.c (.int .i64 k))) (σ.r.set o (some (.obj (l.take off ++ (ys.take k).map .d ++ l.drop (off + k))))))) : HO P ti G N ops (⟨d, .call ⟨.builtin .copy, #[x, y], #[t, u]⟩, ty, ps, af, g⟩ :: rest) M σ := by
  refine HO_sem hti (fun _ : Unit => .d (.c (.int .i64 k))) (fun _ => σ.r.set o (some (.obj (l.take off ++ (ys.take k).map .d ++ l.drop (off + k))))) (fun _ => True) hg hd rfl (fun E w a hR => ?_) rfl fun _ _ => hk
  obtain ⟨s, bb, z, htt⟩ := tK_sl ht
  have hut := ti_run hti htt w
  obtain ⟨ie, hie, hisz⟩ : ∃ ie, ti e = some ie ∧ ie.size = 1 := by
    unfold tI tS at hte
    cases hq : ti e with
    | none => rw [hq] at hte; simp at hte
    | some ie => rw [hq] at hte; exact ⟨ie, rfl, hte.2⟩
  have hsz := ti_size hti hie w
  rw [hisz] at hsz
  have h1 := ev_sound hR x
  rw [hx] at h1
  simp only [RA] at h1
  obtain ⟨_, A, c, hv, _, h1⟩ := h1
  obtain ⟨hf1, h1⟩ := h1 l (objOf_some hl)
  obtain ⟨b, hb, rfl⟩ := h1 hn
  obtain ⟨hly, A2, c2, hv2, hnc, hrx, hmo⟩ := slOf_sound (ev_sound hR y) hy
  have hkn : k ≤ n ∧ k ≤ m := by rw [← hk2]; exact ⟨Nat.min_le_right _ _, Nat.min_le_left _ _⟩
  obtain ⟨us, hus, hload⟩ : ∃ us : List Value, RL E.T w (ys.take k) us ∧ (Builtin.firstCells 1 k (.slice A2 m c2)).run P w = .ok us.toArray w := by
    rcases hrx with h0 | ⟨ad, rfl, hrm⟩
    · have hk0 : k = 0 := by subst h0; simp at hly; omega
      subst hk0
      refine ⟨[], by simp [RL], ?_⟩
      cases A2 with
      | none => simp [Builtin.firstCells]
      | some ad => exact run_firstCells_some (P := P) w 1 0 ad m c2 [] (by simp) (fun j u hj => by simp at hj)
    · obtain ⟨us, hus, hcs⟩ := RM_values _ _ (RM_take _ _ hrm k)
      refine ⟨us, hus, ?_⟩
      have hul := RL_length _ _ hus
      exact run_firstCells_some (P := P) w 1 k ad m c2 us (by rw [hul, List.length_take]; omega) hcs
  have hul := RL_length _ _ hus
  have hkl : (ys.take k).length = k := by rw [List.length_take]; omega
  obtain ⟨w', E', hrun, hgood, hst⟩ := obj_put (P := P) hR.good (off := off) hl hb (RAL_map_d _ _ hus) (values_wide hus) (by rw [List.length_map, hkl]; omega)
  rw [List.length_map, hkl] at hgood hst
  refine ⟨(), .int .i64 k, w', E', trivial, ?_, by simp [RA, RD, Value.oneCell'], hgood, hst, .inl hkp⟩
  simp [execOp, resolve, invoke, builtin, hv, hv2, Builtin.copy_, hut, Builtin.lenOf, hsz, hk2, hload, hrun, goInt]
end
end Go.Proofs.Ythdjblfiiogmgaa
/- The frame of these proofs, part ZH: a drawn region, two of whose operations may come in either order: it is shown for each of the two. -/
set_option linter.unusedVariables false
set_option linter.unusedSimpArgs false
namespace Go.Proofs.Ythdjblfiiogmgaa
open Go
def edgeTo (x : Nat) : Edge := ⟨x, .data⟩
def addAt : List Oper → Nat → Nat → List Oper
  | [], _, _ => []
  | ⟨d, op, ty, ps, af, g⟩ :: l, 0, x => ⟨d, op, ty, ps, af.push (edgeTo x), g⟩ :: l
  | o :: l, n + 1, x => o :: addAt l n x
theorem addAt_len : ∀ (l : List Oper) (y x : Nat), (addAt l y x).length = l.length
  | [], _, _ => rfl
  | o :: l, 0, x => rfl
  | o :: l, n + 1, x => by rw [addAt, List.length_cons, addAt_len l n x, List.length_cons]
theorem addAt_get : ∀ (l : List Oper) (y x i : Nat), (addAt l y x)[i]? = if i = y then (l[i]?).map (fun o => { o with after := o.after.push (edgeTo x) }) else l[i]?
  | [], y, x, i => by simp [addAt]
  | ⟨d, op, ty, ps, af, g⟩ :: l, 0, x, 0 => rfl
  | ⟨d, op, ty, ps, af, g⟩ :: l, 0, x, i + 1 => by simp [addAt]
  | o :: l, n + 1, x, 0 => by simp [addAt]
  | o :: l, n + 1, x, i + 1 => by
    rw [addAt, List.getElem?_cons_succ, addAt_get l n x i, List.getElem?_cons_succ]
    simp only [Nat.add_right_cancel_iff]
section
variable {P : Program} {ops ops' : Array Oper} {Q : Exit → Act → World → Prop}
/-- An order that the operations' bonds allow. -/
def VL (ops : Array Oper) : Nat → Array Bool → List Nat → Prop
  | 0, _, l => l = []
  | n + 1, listed, [] => Region.ready .any ops listed = []
  | n + 1, listed, i :: l => i ∈ Region.ready .any ops listed ∧ VL ops n (listed.setIfInBounds i true) l
theorem VL_wp : ∀ (n : Nat) (listed : Array Bool) (l : List Nat) (a : Act) (w : World), VL ops n listed l → wpAny P .any ops Q n listed a w → wpOps P ops Q l a w
  | 0, listed, l, a, w, h, k => by
    simp only [VL] at h
    subst h
    exact k.2
  | n + 1, listed, [], a, w, h, k => k.1 h
  | n + 1, listed, i :: l, a, w, h, k => by
    rw [wpOps_cons]
    exact wpOp_mono (fun a w hk => VL_wp n _ l a w h.2 hk) (k.2 i h.1)
theorem VL_lin : ∀ (n t : Nat) (listed : Array Bool), VL ops n listed (Region.linearise.go .any ops n t listed [])
  | 0, t, listed => by simp [Region.linearise.go, VL]
  | n + 1, t, listed => by
    simp only [Region.linearise.go]
    change VL ops (n + 1) listed (match (Region.ready .any ops listed)[t % (Region.ready .any ops listed).length]? with
      | some i => Region.linearise.go .any ops n (t / (Region.ready .any ops listed).length) (listed.setIfInBounds i true) [i]
      | none => [].reverse)
    cases hi : (Region.ready .any ops listed)[t % (Region.ready .any ops listed).length]? with
    | none =>
      show Region.ready .any ops listed = []
      cases hr : Region.ready .any ops listed with
      | nil => rfl
      | cons x xs =>
        rw [hr] at hi
        have hlt : t % (x :: xs).length < (x :: xs).length := Nat.mod_lt _ (by simp)
        simp at hi
        simp at hlt
        omega
    | some i =>
      simp only []
      rw [linearise_go_acc, List.reverse_singleton, List.singleton_append]
      exact ⟨List.mem_of_getElem? hi, VL_lin n _ _⟩
/-- The same operations, with one bond more: y waits for x. -/
structure Ext (ops ops' : Array Oper) (y x : Nat) : Prop where
  size : ops'.size = ops.size
  get : ∀ i, ops'[i]? = if i = y then (ops[i]?).map (fun o => { o with after := o.after.push (edgeTo x) }) else ops[i]?
theorem ext_addAt (l : List Oper) (y x : Nat) : Ext l.toArray (addAt l y x).toArray y x :=
  ⟨by simp [addAt_len], fun i => by simpa using addAt_get l y x i⟩
theorem mem_ready {ops : Array Oper} {listed : Array Bool} {i : Nat} : i ∈ Region.ready .any ops listed ↔ listed.getD i true = false ∧ ∃ o, ops[i]? = some o ∧ ∀ e ∈ o.after, Region.binds .any e = true → listed.getD e.on false = true := by
  unfold Region.ready
  simp only [List.mem_filter, List.mem_range, Bool.and_eq_true, Bool.not_eq_true']
  constructor
  · rintro ⟨hs, h1, h2⟩
    refine ⟨h1, ?_⟩
    cases ho : ops[i]? with
    | none => simp [ho] at h2
    | some o =>
      refine ⟨o, rfl, fun e he hb => ?_⟩
      simp only [ho, Option.map_some, Option.getD_some, Array.all_eq_true'] at h2
      have := h2 e he
      simpa [hb] using this
  · rintro ⟨h1, o, ho, h2⟩
    refine ⟨?_, h1, ?_⟩
    · exact (Array.getElem?_eq_some_iff.1 ho).1
    · simp only [ho, Option.map_some, Option.getD_some, Array.all_eq_true']
      intro e he
      cases hb : Region.binds .any e with
      | false => rfl
      | true => simpa using h2 e he hb
variable {x y : Nat}
theorem Ext.ready (h : Ext ops ops' y x) {listed : Array Bool} {i : Nat} : i ∈ Region.ready .any ops' listed ↔ i ∈ Region.ready .any ops listed ∧ (i = y → listed.getD x false = true) := by
  rw [mem_ready, mem_ready, h.get]
  by_cases hi : i = y
  · simp only [hi, if_true, true_implies]
    constructor
    · rintro ⟨h1, o, ho, h2⟩
      rw [Option.map_eq_some_iff] at ho
      obtain ⟨o1, ho1, rfl⟩ := ho
      refine ⟨⟨h1, o1, ho1, fun e he hb => h2 e (Array.mem_push.2 (.inl he)) hb⟩, h2 (edgeTo x) (Array.mem_push.2 (.inr rfl)) rfl⟩
    · rintro ⟨⟨h1, o, ho, h2⟩, h3⟩
      refine ⟨h1, _, by rw [ho]; rfl, fun e he hb => ?_⟩
      rcases Array.mem_push.1 he with he | rfl
      · exact h2 e he hb
      · exact h3
  · simp [hi]
theorem getD_set_true {listed : Array Bool} {i x : Nat} (h : listed.getD x false = true) : (listed.setIfInBounds i true).getD x false = true := by
  rw [Array.getD_eq_getD_getElem?] at h ⊢
  rw [Array.getElem?_setIfInBounds]
  split
  · split <;> simp_all
  · exact h
theorem ready_nil {listed : Array Bool} (h : ∀ i, i ∉ Region.ready .any ops listed) : Region.ready .any ops listed = [] := List.eq_nil_iff_forall_not_mem.2 h
theorem VL_done (h : Ext ops ops' y x) : ∀ (n : Nat) (listed : Array Bool) (l : List Nat), listed.getD x false = true → VL ops n listed l → VL ops' n listed l
  | 0, _, _, _, k => k
  | n + 1, listed, [], hx, k => ready_nil fun i hi => by
    have := (h.ready.1 hi).1
    rw [show Region.ready .any ops listed = [] from k] at this
    cases this
  | n + 1, listed, i :: l, hx, k => ⟨h.ready.2 ⟨k.1, fun _ => hx⟩, VL_done h n _ l (getD_set_true hx) k.2⟩
/-- Every order keeps one of the two bonds. -/
theorem VL_split {ops1 ops2 : Array Oper} (h1 : Ext ops ops1 y x) (h2 : Ext ops ops2 x y) (hxy : x ≠ y) : ∀ (n : Nat) (listed : Array Bool) (l : List Nat), VL ops n listed l → VL ops1 n listed l ∨ VL ops2 n listed l := by
  intro n
  induction n with
  | zero => intro listed l k; exact .inl k
  | succ n ih =>
    intro listed l k
    cases l with
    | nil => exact .inl (ready_nil fun i hi => by
        have := (h1.ready.1 hi).1
        rw [show Region.ready .any ops listed = [] from k] at this
        cases this)
    | cons i l =>
      obtain ⟨hi, k⟩ := k
      have hlt : i < listed.size := by
        have := (mem_ready.1 hi).1
        rw [Array.getD_eq_getD_getElem?] at this
        by_cases hl : i < listed.size
        · exact hl
        · rw [Array.getElem?_eq_none (by omega)] at this; simp at this
      have hset : (listed.setIfInBounds i true).getD i false = true := by
        rw [Array.getD_eq_getD_getElem?, Array.getElem?_setIfInBounds]; simp [hlt]
      by_cases hx : i = x
      · subst hx
        exact .inl ⟨h1.ready.2 ⟨hi, fun e => absurd e hxy⟩, VL_done h1 n _ l hset k⟩
      · by_cases hy : i = y
        · subst hy
          exact .inr ⟨h2.ready.2 ⟨hi, fun e => absurd e hx⟩, VL_done h2 n _ l hset k⟩
        · rcases ih _ l k with k | k
          · exact .inl ⟨h1.ready.2 ⟨hi, fun e => absurd e hy⟩, k⟩
          · exact .inr ⟨h2.ready.2 ⟨hi, fun e => absurd e hx⟩, k⟩
theorem Ext.yielded (h : Ext ops ops' y x) (tmps : Array Value) (j : Nat) : yielded ops' tmps j = yielded ops tmps j := by
  have e : (ops'[j]?).bind (·.dst) = (ops[j]?).bind (·.dst) := by
    rw [h.get]
    by_cases hj : j = y
    · rw [if_pos hj]; cases ops[j]? <;> rfl
    · rw [if_neg hj]
  unfold Go.yielded
  rw [e]
theorem Ext.wpOps (h : Ext ops ops' y x) : ∀ (l : List Nat) (a : Act) (w : World), wpOps P ops' Q l a w → wpOps P ops Q l a w
  | [], a, w, k => k
  | i :: l, a, w, k => by
    rw [wpOps_cons] at k ⊢
    unfold wpOp at k ⊢
    have hy : ∀ tmps, Go.yielded ops' tmps = Go.yielded ops tmps := fun tmps => funext fun j => h.yielded tmps j
    rw [hy, h.get] at k
    cases ho : ops[i]? with
    | none => rw [ho] at k; simp only [Option.map_none, ite_self] at k; exact h.wpOps l a w k
    | some o =>
      rw [ho] at k
      by_cases hi : i = y
      · simp only [hi, if_true, Option.map_some] at k
        simp only
        have e1 : Region.wanted { o with after := o.after.push (edgeTo x) } (Go.yielded ops a.tmps) = Region.wanted o (Go.yielded ops a.tmps) := rfl
        rw [e1] at k
        split
        · rename_i hw
          rw [if_pos hw] at k
          rcases k with k | k
          · exact .inl (Oper.wp_mono (fun a w hk => h.wpOps l a w hk) (show o.wp P a w _ Q from k))
          · exact .inr k
        · rename_i hw
          rw [if_neg hw] at k
          exact h.wpOps l _ w k
      · simp only [hi, if_false] at k
        simp only
        split
        · rename_i hw
          rw [if_pos hw] at k
          exact k.imp (Oper.wp_mono (fun a w hk => h.wpOps l a w hk)) id
        · rename_i hw
          rw [if_neg hw] at k
          exact h.wpOps l _ w k
end
section
variable {P : Program} {ti : Ti} {G : GR} {N : Nat} {σ : St} {K : KD}
/-- A drawn region, shown for every order that is allowed. -/
def HV (P : Program) (ti : Ti) (G : GR) (N : Nat) (l : List Oper) (K : KD) (σ : St) : Prop :=
  ∀ E0 r0 w0 E a w, Rel G N E σ a w → Step E0 r0 w0 E σ.r w → ∀ s, VL l.toArray l.toArray.size (Array.replicate l.toArray.size false) s → wpOps P l.toArray (lift G N E0 r0 w0 (app P ti G N K)) s a { w with drawn := w.drawn + 1 }
theorem HC_of_HV (hm : P.follows .mixedOrders = true) {id : Nat} {l : List Oper} (h : HV P ti G N l K σ) (hro : G.ro = none := by rfl) : HC P ti G N (.region id l.toArray true) K σ := by
  intro E0 r0 w0 E a w hR hS
  refine wide_of hro (wp_region_draw fun t => ?_)
  simp only [Region.schedule, hm, Bool.true_or, if_true]
  exact h E0 r0 w0 E a w hR hS _ (VL_lin _ t _)
theorem HV_split (x y : Nat) (hxy : x ≠ y) {l : List Oper} (h1 : HV P ti G N (addAt l y x) K σ) (h2 : HV P ti G N (addAt l x y) K σ) : HV P ti G N l K σ := by
  intro E0 r0 w0 E a w hR hS s hs
  have e1 := ext_addAt l y x
  have e2 := ext_addAt l x y
  rcases VL_split e1 e2 hxy _ _ s hs with k | k
  · refine e1.wpOps s a _ (h1 E0 r0 w0 E a w hR hS s ?_)
    rw [e1.size]; exact k
  · refine e2.wpOps s a _ (h2 E0 r0 w0 E a w hR hS s ?_)
    rw [e2.size]; exact k
theorem HV_order (kp : List Nat) (hti : TiOK P ti) {l : List Oper} (π : List Nat) (hok : planOK ti N l.toArray π kp = true) (hlen : π.length = l.length) (l' : List Oper) (hl : l' = opl l.toArray π) (h : EV P ti G N l.toArray l' (.draw π kp K) σ) : HV P ti G N l K σ := by
  intro E0 r0 w0 E a w hR hS s hs
  refine VL_wp _ _ s a _ hs ?_
  have hrel : Rel G N E σ a w.drew := ⟨hR.size, fun i => (hR.slot i).step (step_drew E σ.r w), good_drew hR.good, hR.defers.step (step_drew E σ.r w)⟩
  obtain ⟨L, pl⟩ := plan_of hok
  have := ED_sound (K := K) hti pl hok l' 0 σ (Nat.zero_le _) (by rw [List.drop_zero]; exact hl) h E0 r0 w0 E a w.drew [] ⟨fun e he => (by simp at he), by simp, fun i hi => by simp at hi, fun e he => (by simp at he), trivial⟩ hrel (hS.trans (step_drew E σ.r w))
  have e1 : lstU l.toArray (([] : List Ent).map (·.1) ++ π.drop 0) = Array.replicate l.toArray.size false := by
    apply Array.ext
    · simp [lstU]
    · intro i h1 h2
      have hi : i < l.length := by simpa [lstU] using h1
      have := pl.all i (by simpa using hi)
      simp [lstU, this]
  rw [e1] at this
  have e2 : l.toArray.size = π.length := by simp [hlen]
  simp only [List.length_nil, Nat.zero_add, Nat.sub_zero] at this
  rw [← e2] at this
  refine wpAny_mono' (fun e a w h => ?_) _ _ _ _ this
  cases e <;> first | exact h | exact h.elim
end
end Go.Proofs.Ythdjblfiiogmgaa
/- The frame of these proofs, part ZI: maps: made, asked, laid into. -/
set_option linter.unusedVariables false
set_option linter.unusedSimpArgs false
namespace Go.Proofs.Ythdjblfiiogmgaa
open Go
section
variable {G : GR} {E : Env} {r : Rs} {w : World}
theorem MapIs.noc {x : MX} {b : Nat} (h : MapIs E w x b) : ∃ o, w.heap[b]? = some o ∧ noCells o = true := by
  cases x with
  | m l => obtain ⟨es, cl, hh, _⟩ := h; exact ⟨_, hh, rfl⟩
  | o b' o => exact ⟨_, h.2.1, h.2.2⟩
/-- An object that is no row is put in another's place. -/
def World.setOb (w : World) (g : Nat) (o : Obj) : World := { w with heap := w.heap.setIfInBounds g o }
@[reducible] def World.setMap (w : World) (g : Nat) (es : Array MapEntry) (c : Nat) : World := World.setOb w g (.map es c)
theorem setMap_other (w : World) (g : Nat) (o : Obj) {b : Nat} (h : b ≠ g) : (World.setOb w g o).heap[b]? = w.heap[b]? := by
  simp [World.setOb, Array.getElem?_setIfInBounds, Ne.symm h]
theorem setMap_lasts (hG : Good G E r w) {i g : Nat} {l : MX} (hi : r[i]? = some (some (.mpx l))) (hb : E.bl i = some g) (o : Obj) : Lasts E.T w E.T (World.setOb w g o) := by
  obtain ⟨b, hb', hT, _⟩ := hG.map i l hi
  rw [hb] at hb'; injection hb' with hb'; subst hb'
  refine ⟨fun _ => Nat.le_refl _, fun a ha => World.cell?_of_block (setMap_other w g o fun e => ?_)⟩
  rw [e, hT] at ha; omega
theorem step_setMap (hG : Good G E r w) {i g : Nat} {l l' : MX} (hi : r[i]? = some (some (.mpx l))) (hb : E.bl i = some g) (o : Obj) : Step E r w E (r.set i (some (.mpx l'))) (World.setOb w g o) := by
  have hown : Own E r g := ⟨i, _, hi, hb⟩
  obtain ⟨b, hb', hT, hmm⟩ := hG.map i l hi
  rw [hb] at hb'; injection hb' with hb'; subst hb'
  obtain ⟨o0, hh, hno⟩ := hmm.noc
  refine ⟨rfl, rfl, rfl, by simp [World.setOb], fun b hlt hn => ?_, fun b ho => ?_, setMap_lasts hG hi hb o, fun b s hs => ?_, ?_⟩
  · exact ⟨setMap_other w g o (fun e => hn (e ▸ hown)), rfl⟩
  · obtain ⟨j, y, hj, hbj⟩ := ho
    rcases getElem?_set_cases hj with ⟨rfl, _⟩ | ⟨_, hj⟩
    · exact .inl ⟨j, _, hi, hbj⟩
    · exact .inl ⟨j, y, hj, hbj⟩
  · by_cases hbg : b = g
    · subst hbg
      unfold World.shape? at hs
      rw [hh] at hs
      cases o0 <;> first | (cases hno; done) | (simp at hs; done)
    · unfold World.shape? at hs ⊢
      rw [setMap_other w g o hbg]
      exact hs
  · refine ⟨by simp, fun j k' _ hj => ?_, fun j l' _ hj => ?_, fun j l' _ hj => ?_⟩
    · rcases getElem?_set_cases hj with ⟨rfl, hy⟩ | ⟨_, hj⟩
      · injection hy with hy; cases hy
      · exact ⟨k', hj, Nat.le_refl _, fun _ => rfl⟩
    · rcases getElem?_set_cases hj with ⟨rfl, hy⟩ | ⟨_, hj⟩
      · injection hy with hy; cases hy
      · exact ⟨l', hj, rfl, rfl⟩
    · rcases getElem?_set_cases hj with ⟨rfl, hy⟩ | ⟨_, hj⟩
      · exact ⟨l, hi, rfl⟩
      · exact ⟨l', hj, rfl⟩
theorem good_setMap (hG : Good G E r w) {i g : Nat} {l l' : MX} (hi : r[i]? = some (some (.mpx l))) (hb : E.bl i = some g) (o : Obj) (hm : MapIs E (World.setOb w g o) l' g) : Good G E (r.set i (some (.mpx l'))) (World.setOb w g o) := by
  have hs : Step E r w E (r.set i (some (.mpx l'))) (World.setOb w g o) := step_setMap hG hi hb o
  have hne : ∀ j y b, j ≠ i → r[j]? = some (some y) → E.bl j = some b → b ≠ g := fun j y b hji hj hbj e => hji (hG.one j i y _ g hj hi (e ▸ hbj) hb)
  have hT : E.T g = 0 := by
    obtain ⟨b, hb', hT, _⟩ := hG.map i l hi
    rw [hb] at hb'; injection hb' with hb'; subst hb'
    exact hT
  refine ⟨fun j k b hj hbj => ?_, fun j l hj => ?_, fun j l2 hj => ?_, fun j k y z b hj hk hbj hbk => ?_, fun b hbs => ?_, fun gl => RM.lasts hs.lasts _ _ (hG.glob gl)⟩
  · rcases getElem?_set_cases hj with ⟨rfl, hy⟩ | ⟨hji, hj⟩
    · injection hy with hy; cases hy
    · have hbg := hne j _ b hji hj hbj
      obtain ⟨h1, cur, e, h2, h3⟩ := hG.tok j k b hj hbj
      exact ⟨h1, cur, e, (setMap_other w g o hbg).trans h2, h3⟩
  · rcases getElem?_set_cases hj with ⟨rfl, hy⟩ | ⟨hji, hj⟩
    · injection hy with hy; cases hy
    · obtain ⟨b, hbj, h1, vs, e, h2, h3, h4⟩ := hG.obj j l hj
      have hbg := hne j _ b hji hj hbj
      exact ⟨b, hbj, h1, vs, e, (setMap_other w g o hbg).trans h2, h3.step hs, h4⟩
  · rcases getElem?_set_cases hj with ⟨rfl, hy⟩ | ⟨hji, hj⟩
    · injection hy with hy
      injection hy with hy
      subst hy
      exact ⟨g, hb, hT, hm⟩
    · obtain ⟨b, hbj, h1, h2⟩ := hG.map j l2 hj
      have hbg := hne j _ b hji hj hbj
      exact ⟨b, hbj, h1, h2.lasts (T' := E.T) (setMap_other w g o hbg) hs.lasts⟩
  · have h1 : ∃ y', r[j]? = some (some y') := by
      rcases getElem?_set_cases hj with ⟨rfl, _⟩ | ⟨_, hj⟩
      · exact ⟨_, hi⟩
      · exact ⟨_, hj⟩
    have h2 : ∃ y', r[k]? = some (some y') := by
      rcases getElem?_set_cases hk with ⟨rfl, _⟩ | ⟨_, hk⟩
      · exact ⟨_, hi⟩
      · exact ⟨_, hk⟩
    obtain ⟨y', hy'⟩ := h1
    obtain ⟨z', hz'⟩ := h2
    exact hG.one j k y' z' b hy' hz' hbj hbk
  · have hlt : g < w.heap.size := hG.lt hi hb
    exact hG.fresh b (by simpa [World.setOb] using hbs)
end
/-! ### Keys -/
def cellsD : D → List D
  | .agg xs => xs
  | d => [d]
def formD (g : Bool) : D → Bool
  | .agg _ => g
  | .c _ => !g
  | .sl _ _ _ => false
  | .p _ => false
/-- Are two keys the same? -/
def keyEq (ks : List CK) (g : Bool) (k a : D) : Option Bool := if (formD g k && formD g a) = true then eqD ks (cellsD k) (cellsD a) else none
def findI (ks : List CK) (g : Bool) (k : D) : List (D × D) → Nat → Option (Option (Nat × D))
  | [], _ => some none
  | (a, v) :: l, i => match keyEq ks g k a with
    | some true => some (some (i, v))
    | some false => findI ks g k l (i + 1)
    | none => none
def putM (k v : D) (l : List (D × D)) : Option (Nat × D) → List (D × D)
  | some (j, _) => l.set j (k, v)
  | none => l ++ [(k, v)]
section
variable {P : Program} {ti : Ti} {w : World}
theorem isV_form {T : Nat → Nat} {i : TI} {d : D} {x : Value} (h : RD T w d x) (hf : formD (isAggD i.u) d = true) : ∃ vs, IsV i.u x vs ∧ RL T w (cellsD d) vs := by
  cases d with
  | c y =>
    have hg : isAggD i.u = false := by simpa [formD] using hf
    simp only [RD] at h
    refine ⟨[x], by simp [IsV, hg], ?_⟩
    simp only [cellsD, RL, RD]
    exact ⟨x, [], rfl, by rw [h.1]; exact h.2, ⟨h.1, h.2⟩, rfl⟩
  | sl a b c => simp [formD] at hf
  | p a => simp [formD] at hf
  | agg xs =>
    have hg : isAggD i.u = true := by simpa [formD] using hf
    simp only [RD] at h
    obtain ⟨vs, rfl, h⟩ := h
    exact ⟨vs.toList, by simp [IsV, hg], h⟩
theorem bytes_beq (a b : ByteArray) : (a == b) = decide (a = b) := by
  rw [Bool.eq_iff_iff, decide_eq_true_eq]
  constructor
  · intro h
    have h2 : (a.data == b.data) = true := h
    exact ByteArray.ext (by simpa using h2)
  · rintro rfl
    show (a.data == a.data) = true
    simp
theorem eqV_true : ∀ {ks : List CK} {xs ys : List Value}, eqV ks xs ys = some true → xs = ys
  | [], [], [], _ => rfl
  | k :: ks, x :: xs, y :: ys, h => by
    simp only [eqV] at h
    obtain ⟨b1, b2, h1, h2, h3⟩ := and2_some h
    have h3' : b1 = true ∧ b2 = true := by simpa using h3.symm
    obtain ⟨rfl, rfl⟩ := h3'
    rw [eqV_true h2]
    congr 1
    cases k
    · obtain ⟨k, a, b, rfl, rfl, hh⟩ := ckV_int h1
      have : a = b := by simpa using hh.symm
      rw [this]
    · obtain ⟨a, b, rfl, rfl, hh⟩ := ckV_bool h1
      have : a = b := by simpa using hh.symm
      rw [this]
    · obtain ⟨a, b, rfl, rfl, hh⟩ := ckV_str h1
      have : a = b := by simpa using hh.symm
      rw [this]
  | [], [], _ :: _, h => by simp [eqV] at h
  | [], _ :: _, _, h => by simp [eqV] at h
  | _ :: _, [], _, h => by simp [eqV] at h
  | _ :: _, _ :: _, [], h => by simp [eqV] at h
theorem isV_inj {u : TypeDesc} {x y : Value} {vs : List Value} (h : IsV u x vs) (k : IsV u y vs) : x = y := by
  unfold IsV at h k
  split at h
  · rename_i hg; rw [if_pos hg] at k; rw [h, k]
  · rename_i hg; rw [if_neg hg] at k; rw [h] at k; simpa using k
theorem sameBits_one {k : CK} {v u : Value} {b : Bool} (h : ckV k v u = some b) (n : Nat) : Instr.sameBits n v v = true := by
  cases k
  · obtain ⟨k, a, b, rfl, rfl, h⟩ := ckV_int h; cases n <;> simp [Instr.sameBits]
  · obtain ⟨a, b, rfl, rfl, h⟩ := ckV_bool h; cases n <;> simp [Instr.sameBits]
  · obtain ⟨a, b, rfl, rfl, h⟩ := ckV_str h; cases n <;> simp [Instr.sameBits, bytes_beq]
theorem sameBits_all : ∀ {ks : List CK} {xs ys : List Value} {b : Bool}, eqV ks xs ys = some b → ∀ n, ∀ x ∈ xs, Instr.sameBits n x x = true
  | [], [], _, _, _, _, x, hx => by cases hx
  | k :: ks, x :: xs, y :: ys, b, h, n, z, hz => by
    simp only [eqV] at h
    obtain ⟨b1, b2, h1, h2, h3⟩ := and2_some h
    rcases List.mem_cons.1 hz with rfl | hz
    · exact sameBits_one h1 n
    · exact sameBits_all h2 n z hz
  | _ :: _, [], _, _, _, _, x, hx => by cases hx
  | _ :: _, _ :: _, [], _, h, _, _, _ => by simp [eqV] at h
  | [], _ :: _, _, _, h, _, _, _ => by simp [eqV] at h
theorem sameBits_self {u : TypeDesc} {x : Value} {vs us : List Value} {ks : List CK} {b : Bool} (hx : IsV u x vs) (h : eqV ks vs us = some b) (n : Nat) : Instr.sameBits (n + 1) x x = true := by
  have ha := sameBits_all h
  unfold IsV at hx
  split at hx
  · subst hx
    simp only [Instr.sameBits, BEq.rfl, Bool.true_and, List.all_eq_true]
    intro p hp
    have : p.1 = p.2 ∧ p.1 ∈ vs := by
      simp only [List.zip] at hp
      clear h ha
      generalize hL : vs.toArray.toList = L at hp
      have hL' : L = vs := by rw [← hL]
      subst hL'
      clear hL
      induction L with
      | nil => simp at hp
      | cons a L ih =>
        simp only [List.zipWith_cons_cons, List.mem_cons] at hp
        rcases hp with rfl | hp
        · simp
        · obtain ⟨h1, h2⟩ := ih hp; exact ⟨h1, by simp [h2]⟩
    rw [← this.1]
    exact ha n _ this.2
  · exact ha (n + 1) x (by rw [hx]; simp)
theorem items_check (hti : TiOK P ti) {em : Bool} {d : Nat} {e : TypeId} {ie : TI} (hie : ti e = some ie) {kse : List CK} (hl : kse.length = ie.size) (h1 : isAggD ie.u = false → ie.size = 1)
    (IH : ∀ (x : Value) (vs us : List Value) (b : Bool), IsV ie.u x vs → eqV kse vs us = some b → (Instr.checkKey em d e x).run P w = .ok () w) (xs ys : Array Value) :
    ∀ (n s : Nat) (b : Bool), eqV (List.replicate n kse).flatten (xs.toList.drop (s * ie.size)) (ys.toList.drop (s * ie.size)) = some b →
      (forIn (List.range' s n) PUnit.unit (fun i (_ : PUnit) => (do Instr.checkKey em d e (← part e xs (i * (← sizeOf e))); pure (ForInStep.yield PUnit.unit) : Sem (ForInStep PUnit)))).run P w = .ok PUnit.unit w
  | 0, s, b, h => by simp
  | n + 1, s, b, h => by
    rw [List.replicate_succ, List.flatten_cons] at h
    obtain ⟨b1, b2, h2, h3, rfl⟩ := eqV_app h
    have hlen := eqV_len h2
    rw [hl] at h2 h3 hlen
    obtain ⟨z, hz, hzv⟩ := part_isV (P := P) (w := w) hti hie (vs := xs) (off := s * ie.size) hlen.1 h1
    have hr := IH z _ _ b1 hzv h2
    rw [List.drop_drop, List.drop_drop] at h3
    have hs : s * ie.size + ie.size = (s + 1) * ie.size := (Nat.succ_mul s ie.size).symm
    rw [hs] at h3
    have hrest := items_check hti hie hl h1 IH xs ys n (s + 1) b2 h3
    have hsz := ti_size (P := P) hti hie w
    rw [List.range'_succ]
    simp only [List.forIn_cons, Sem.run_bind, hsz, Result.andThen_ok, hz, hr, Sem.run_pure]
    simpa using hrest
theorem fields_check (hti : TiOK P ti) {em : Bool} {m d : Nat} (IH : ∀ (t : TypeId) (i : TI) (ks : List CK), ti t = some i → flatT ti m t = some ks → ∀ (x : Value) (vs us : List Value) (b : Bool), IsV i.u x vs → eqV ks vs us = some b → (Instr.checkKey em d t x).run P w = .ok () w) (xs ys : Array Value) :
    ∀ (fs : List Field) (off : Nat) (ks : List CK) (b : Bool), flatFs (flatT ti m) off fs = some ks → eqV ks (xs.toList.drop off) (ys.toList.drop off) = some b →
      (forIn fs PUnit.unit (fun f (_ : PUnit) => (if f.name ≠ "_" then (do let z ← part f.type xs f.offset; Instr.checkKey em d f.type z; pure (ForInStep.yield PUnit.unit)) else pure (ForInStep.yield PUnit.unit) : Sem (ForInStep PUnit)))).run P w = .ok PUnit.unit w
  | [], off, ks, b, hf, h => by simp
  | f :: fs, off, ks, b, hf, h => by
    simp only [flatFs] at hf
    split at hf
    · rename_i hn
      obtain ⟨hn, rfl⟩ := hn
      split at hf
      · rename_i k1 hk1
        simp only [Option.map_eq_some_iff] at hf
        obtain ⟨k2, hk2, rfl⟩ := hf
        obtain ⟨b1, b2, h2, h3, rfl⟩ := eqV_app h
        obtain ⟨ie, hie⟩ : ∃ ie, ti f.type = some ie := by
          cases m with
          | zero => simp [flatT] at hk1
          | succ m =>
            simp only [flatT] at hk1
            split at hk1
            · exact ⟨_, ‹_›⟩
            · cases hk1
        obtain ⟨hl, h1⟩ := flat_one hie hk1
        have hlen := eqV_len h2
        rw [hl] at h2 h3 hlen
        obtain ⟨z, hz, hzv⟩ := part_isV (P := P) (w := w) hti hie (vs := xs) (off := f.offset) hlen.1 h1
        have hr := IH f.type ie k1 hie hk1 z _ _ b1 hzv h2
        rw [List.drop_drop, List.drop_drop] at h3
        rw [hl] at hk2
        have hrest := fields_check hti IH xs ys fs (f.offset + ie.size) k2 b2 hk2 h3
        simp only [List.forIn_cons, Sem.run_bind, hn, ne_eq, not_false_eq_true, if_true, Result.andThen_ok, hz, hr, Sem.run_pure]
        simpa using hrest
      · cases hf
    · cases hf
theorem check_flat (hti : TiOK P ti) (em : Bool) : ∀ (m : Nat) (d : Nat) (t : TypeId) (i : TI) (ks : List CK), ti t = some i → flatT ti m t = some ks → ∀ (x : Value) (vs us : List Value) (b : Bool), IsV i.u x vs → eqV ks vs us = some b → (Instr.checkKey em (d + m) t x).run P w = .ok () w
  | 0, d, t, i, ks, hi, h, _, _, _, _, _, _ => by simp [flatT] at h
  | m + 1, d, t, i, ks, hi, h, x, vs, us, b, hx, hb => by
    have hu := ti_u (P := P) hti hi
    simp only [flatT, hi] at h
    rw [show d + (m + 1) = (d + m) + 1 from rfl]
    split at h
    · rename_i hu2
      rw [hu2] at hu
      simp [Instr.checkKey, run_underlying hu]
    · rename_i k hu2
      rw [hu2] at hu
      simp [Instr.checkKey, run_underlying hu]
    · rename_i hu2
      rw [hu2] at hu
      simp [Instr.checkKey, run_underlying hu]
    · rename_i n e hu2
      obtain ⟨h1, _⟩ := flatI_some h
      simp only [Option.map_eq_some_iff] at h1
      obtain ⟨kse, hk, rfl⟩ := h1
      simp only [IsV, hu2, isAggD, if_true] at hx
      subst hx
      obtain ⟨ie, hie⟩ : ∃ ie, ti e = some ie := by
        cases m with
        | zero => simp [flatT] at hk
        | succ m =>
          simp only [flatT] at hk
          split at hk
          · exact ⟨_, ‹_›⟩
          · cases hk
      obtain ⟨hl, h1⟩ := flat_one hie hk
      rw [hu2] at hu
      rw [Instr.checkKey]
      simp only [Sem.run_bind, run_underlying hu, Result.andThen_ok]
      simp only [Std.Legacy.Range.forIn_eq_forIn_range', Std.Legacy.Range.size, Nat.sub_zero, Nat.add_one_sub_one, Nat.div_one]
      rw [items_check hti hie hl h1 (fun x vs us b hx hb => check_flat hti em m d e ie kse hie hk x vs us b hx hb) vs.toArray us.toArray n 0 b (by simpa using hb)]
      rfl
    · rename_i fs hu2
      obtain ⟨h1, _⟩ := flatI_some h
      simp only [IsV, hu2, isAggD, if_true] at hx
      subst hx
      rw [hu2] at hu
      rw [Instr.checkKey]
      simp only [Sem.run_bind, run_underlying hu, Result.andThen_ok]
      rw [← Array.forIn_toList]
      rw [fields_check hti (fun t i ks hi hk x vs us b hx hb => check_flat hti em m d t i ks hi hk x vs us b hx hb) vs.toArray us.toArray fs.toList 0 ks b h1 (by simpa using hb)]
      rfl
    · cases h
/-- What is found. -/
def FoundAs (T : Nat → Nat) (w : World) (x : Value) (es : List MapEntry) (i : Nat) : Option (Nat × D) → Option (Nat × Value) → Prop
  | none, a => a = none
  | some (j, v), a => ∃ q e, j = i + q ∧ es[q]? = some e ∧ a = some (j, e.val) ∧ RD T w v e.val ∧ e.key = x
theorem FoundAs.succ {T : Nat → Nat} {x : Value} {e0 : MapEntry} {es : List MapEntry} {i : Nat} {o : Option (Nat × D)} {a : Option (Nat × Value)} (h : FoundAs T w x es (i + 1) o a) : FoundAs T w x (e0 :: es) i o a := by
  cases o with
  | none => exact h
  | some p =>
    obtain ⟨q, e, h1, h2, h3, h4⟩ := h
    exact ⟨q + 1, e, by omega, h2, h3, h4⟩
theorem findAsking_run (hti : TiOK P ti) {T : Nat → Nat} {kt : TypeId} {i : TI} {ks : List CK} (hi : ti kt = some i) (hk : tF ti kt = some ks) {k : D} {x : Value} (hx : RD T w k x) :
    ∀ (l : List (D × D)) (es : List MapEntry) (n : Nat) (o : Option (Nat × D)), es.length = l.length → (∀ (j : Nat) a d, l[j]? = some (a, d) → ∃ e, es[j]? = some e ∧ RD T w a e.key ∧ RD T w d e.val) → findI ks (isAggD i.u) k l n = some o →
      ∃ a, (Instr.findAsking kt x es n).run P w = .ok a w ∧ FoundAs T w x es n o a
  | [], [], n, o, _, _, h => by
    simp only [findI] at h; injection h with h; subst h
    exact ⟨none, by simp [Instr.findAsking], rfl⟩
  | [], _ :: _, n, o, hl, _, _ => by cases hl
  | _ :: _, [], n, o, hl, _, _ => by cases hl
  | (a, v) :: l, e :: es, n, o, hl, hm, h => by
    obtain ⟨e', he, hka, hv⟩ := hm 0 a v rfl
    have he' : e = e' := by simpa using he
    subst he'
    simp only [findI] at h
    have hrun : ∀ b, keyEq ks (isAggD i.u) k a = some b → (Op.equal kt x e.key).run P w = .ok b w ∧ (b = true → e.key = x) := fun b hb => by
      unfold keyEq at hb
      split at hb
      · rename_i hf
        rw [Bool.and_eq_true] at hf
        obtain ⟨vs, h1, h2⟩ := isV_form hx hf.1
        obtain ⟨us, h3, h4⟩ := isV_form hka hf.2
        have h5 := eqD_sound h2 h4 hb
        refine ⟨eq_flat hti 8 9992 kt i ks hi hk x e.key vs us b w h1 h3 h5, fun hb => ?_⟩
        subst hb
        have := eqV_true h5
        subst this
        exact isV_inj h3 h1
      · cases hb
    cases hq : keyEq ks (isAggD i.u) k a with
    | none => rw [hq] at h; cases h
    | some b =>
      rw [hq] at h
      have hr := hrun b hq
      cases b with
      | true =>
        simp only at h
        injection h with h; subst h
        exact ⟨some (n, e.val), by simp [Instr.findAsking, hr.1], 0, e, by simp, rfl, rfl, hv, hr.2 rfl⟩
      | false =>
        simp only at h
        obtain ⟨a2, h1, h2⟩ := findAsking_run hti hi hk hx l es (n + 1) o (by simpa using hl) (fun j a d hj => by simpa using hm (j + 1) a d (by simpa using hj)) h
        exact ⟨a2, by simp [Instr.findAsking, hr.1, h1], h2.succ⟩
theorem findNow_run {T : Nat → Nat} {i : TI} {ck : CK} (hd : ∀ v u b, ckV ck v u = some b → Instr.sameNow i.u v u = some b) (hg : isAggD i.u = false) {k : D} {x : Value} (hx : RD T w k x) :
    ∀ (l : List (D × D)) (es : List MapEntry) (n : Nat) (o : Option (Nat × D)), es.length = l.length → (∀ (j : Nat) a d, l[j]? = some (a, d) → ∃ e, es[j]? = some e ∧ RD T w a e.key ∧ RD T w d e.val) → findI [ck] (isAggD i.u) k l n = some o →
      ∃ a, Instr.findNow i.u x es n = some a ∧ FoundAs T w x es n o a
  | [], [], n, o, _, _, h => by
    simp only [findI] at h; injection h with h; subst h
    exact ⟨none, by simp [Instr.findNow], rfl⟩
  | [], _ :: _, n, o, hl, _, _ => by cases hl
  | _ :: _, [], n, o, hl, _, _ => by cases hl
  | (a, v) :: l, e :: es, n, o, hl, hm, h => by
    obtain ⟨e', he, hka, hv⟩ := hm 0 a v rfl
    have he' : e = e' := by simpa using he
    subst he'
    simp only [findI] at h
    have hrun : ∀ b, keyEq [ck] (isAggD i.u) k a = some b → Instr.sameNow i.u x e.key = some b ∧ (b = true → e.key = x) := fun b hb => by
      unfold keyEq at hb
      split at hb
      · rename_i hf
        rw [Bool.and_eq_true] at hf
        obtain ⟨vs, h1, h2⟩ := isV_form hx hf.1
        obtain ⟨us, h3, h4⟩ := isV_form hka hf.2
        have := eqD_sound h2 h4 hb
        have hinj : b = true → e.key = x := fun hb => by
          subst hb
          have := eqV_true this
          subst this
          exact isV_inj h3 h1
        refine ⟨?_, hinj⟩
        simp only [IsV, hg, Bool.false_eq_true, if_false] at h1 h3
        subst h1; subst h3
        simp only [eqV] at this
        obtain ⟨b1, b2, k1, k2, rfl⟩ := and2_some this
        injection k2 with k2; subst k2
        rw [Bool.and_true]
        exact hd _ _ _ k1
      · cases hb
    cases hq : keyEq [ck] (isAggD i.u) k a with
    | none => rw [hq] at h; cases h
    | some b =>
      rw [hq] at h
      have hr := hrun b hq
      cases b with
      | true =>
        simp only at h
        injection h with h; subst h
        exact ⟨some (n, e.val), by simp [Instr.findNow, hr.1], 0, e, by simp, rfl, rfl, hv, hr.2 rfl⟩
      | false =>
        simp only at h
        obtain ⟨a2, h1, h2⟩ := findNow_run hd hg hx l es (n + 1) o (by simpa using hl) (fun j a d hj => by simpa using hm (j + 1) a d (by simpa using hj)) h
        exact ⟨a2, by simp [Instr.findNow, hr.1, h1], h2.succ⟩
theorem findKey_run (hti : TiOK P ti) {T : Nat → Nat} {kt : TypeId} {i : TI} {ks : List CK} (hi : ti kt = some i) (hk : tF ti kt = some ks) {k : D} {x : Value} (hx : RD T w k x) {l : List (D × D)} {es : List MapEntry} {o : Option (Nat × D)} (hl : es.length = l.length)
    (hm : ∀ (j : Nat) a d, l[j]? = some (a, d) → ∃ e, es[j]? = some e ∧ RD T w a e.key ∧ RD T w d e.val) (h : findI ks (isAggD i.u) k l 0 = some o) : ∃ a, (Instr.findKey kt x es).run P w = .ok a w ∧ FoundAs T w x es 0 o a := by
  have hu := ti_u (P := P) hti hi
  have asking : Instr.findNow i.u x es 0 = none → ∃ a, (Instr.findKey kt x es).run P w = .ok a w ∧ FoundAs T w x es 0 o a := fun hn => by
    obtain ⟨a, h1, h2⟩ := findAsking_run (P := P) hti hi hk hx l es 0 o hl hm h
    exact ⟨a, by simp [Instr.findKey, run_underlying hu, hn, h1], h2⟩
  have now : ∀ ck, ks = [ck] → (∀ v u b, ckV ck v u = some b → Instr.sameNow i.u v u = some b) → isAggD i.u = false → ∃ a, (Instr.findKey kt x es).run P w = .ok a w ∧ FoundAs T w x es 0 o a := fun ck hks hd hg => by
    subst hks
    obtain ⟨a, h1, h2⟩ := findNow_run hd hg hx l es 0 o hl hm h
    exact ⟨a, by simp [Instr.findKey, run_underlying hu, h1], h2⟩
  have agg : (∀ v u, Instr.sameNow i.u v u = none) → ∃ a, (Instr.findKey kt x es).run P w = .ok a w ∧ FoundAs T w x es 0 o a := fun hs => by
    cases es with
    | nil =>
      have : l = [] := List.eq_nil_of_length_eq_zero hl.symm
      subst this
      simp only [findI] at h; injection h with h; subst h
      exact ⟨none, by simp [Instr.findKey, run_underlying hu, Instr.findNow], rfl⟩
    | cons e es => exact asking (by simp [Instr.findNow, hs])
  unfold tF at hk
  simp only [flatT, hi] at hk
  split at hk
  · rename_i hu2
    obtain ⟨h1, _⟩ := flatI_some hk
    injection h1 with h1
    exact now .bool h1.symm (fun v u b hb => by obtain ⟨p, q, rfl, rfl, rfl⟩ := ckV_bool hb; rw [hu2]; simp [Instr.sameNow]; cases p <;> cases q <;> rfl) (by rw [hu2]; rfl)
  · rename_i q hu2
    obtain ⟨h1, _⟩ := flatI_some hk
    injection h1 with h1
    exact now .int h1.symm (fun v u b hb => by obtain ⟨k, p, q, rfl, rfl, rfl⟩ := ckV_int hb; rw [hu2]; simp [Instr.sameNow]; rfl) (by rw [hu2]; rfl)
  · rename_i hu2
    obtain ⟨h1, _⟩ := flatI_some hk
    injection h1 with h1
    exact now .str h1.symm (fun v u b hb => by obtain ⟨p, q, rfl, rfl, rfl⟩ := ckV_str hb; rw [hu2]; simp [Instr.sameNow, bytes_beq]) (by rw [hu2]; rfl)
  · rename_i hu2
    exact agg fun v u => by rw [hu2]; simp [Instr.sameNow]
  · rename_i hu2
    exact agg fun v u => by rw [hu2]; simp [Instr.sameNow]
  · cases hk
end
/-! ### The operations -/
section
variable {P : Program} {ti : Ti} {G : GR} {N : Nat} {ops : Array Oper} {M : KM} {σ : St}
/-- HO_sem, where an operation may tell nothing. -/
theorem HO_sem2 (hti : TiOK P ti) {o : Oper} {rest : List Oper} {ι : Type} (v : ι → AV) (r' : ι → Rs) (p : ι → Prop) (hg : gd ops σ o = some true) (hd : (o :: rest).all (dstOK N) = true) (he : isEff ti o = true)
    (hs : ∀ E w a, Rel G N E σ a w → ∃ i x w' E', p i ∧ ((execOp a.eval o).run P w = .ok (.value x) w' ∨ (execOp a.eval o).run P w = .ok .skip w' ∧ x = undef) ∧ RA E' (r' i) w' (v i) x ∧ Good G E' (r' i) w' ∧ Step E σ.r w E' (r' i) w' ∧ (kpFree M (o :: rest).length = true ∨ Keeps w w')) (hko : keepOp o.op = false)
    (hk : ∀ i, p i → EV P ti G N ops rest M (σ.putR o.dst (v i) (r' i))) : HO P ti G N ops (o :: rest) M σ := by
  simp only [List.all_cons, Bool.and_eq_true] at hd
  cases M with
  | plain K =>
    intro E0 r0 w0 E a w hR hS
    unfold wpListIn
    rw [if_pos (gd_sound hR hg)]
    obtain ⟨i, x, w', E', hp, hrun, hra, hgood, hst, _⟩ := hs E w a hR
    have hrel := hR.putO hst hgood hd.1 hra
    rw [putR_eq] at hrel
    have fin := HO_of_EV hti hd.2 (hk i hp) E0 r0 w0 E' _ w' hrel (hS.trans hst)
    refine ⟨fun f _ => fcR_fn G f, ?_⟩
    rw [Oper.semAt_eq _ _ _ (nd_of_run (hrun.imp id And.left))]
    rcases hrun with hrun | ⟨hrun, rfl⟩
    · rw [hrun, Oper.uponIn_value]; exact fin
    · rw [hrun, Oper.uponIn_skip]; exact fin
  | draw π kp K =>
    intro hok hl
    obtain ⟨L, pl⟩ := plan_of hok
    obtain ⟨i0, hd0, ho0, hrest, hk1⟩ := opl_cons pl hl
    refine DWp_step pl hd0 ho0 hk1 he fun E0 r0 w0 E b w hR hS a C heq hwq hC => ?_
    have hgd := gd_sound hR hg
    rw [hwq] at hgd
    rw [if_pos hgd]
    obtain ⟨i, x, w', E', hp, hrun, hra, hgood, hst, hkp⟩ := hs E w b hR
    have hrel := hR.putO hst hgood hd.1 hra
    rw [putR_eq] at hrel
    have fin := hC x w' E' _ hrel (hS.trans hst) (kp_keeps hd0 hko hkp) (ED_sound hti pl hok rest _ _ hk1 hrest (hk i hp))
    unfold Oper.wp
    rcases hrun with hrun | ⟨hrun, rfl⟩
    · rw [← heq, hrun, Oper.upon_value]; exact fin
    · rw [← heq, hrun, Oper.upon_skip]; exact fin
def tM (ti : Ti) (t : TypeId) : Option (TypeId × TypeId) := match ti t with
  | some ⟨.map k e, _, _, _⟩ => some (k, e)
  | _ => none
theorem tM_u (hti : TiOK P ti) {t k e : TypeId} (h : tM ti t = some (k, e)) : P.underlying t = some (.map k e) := by
  unfold tM at h
  split at h
  · rename_i hi
    injection h with h; injection h with h1 h2; subst h1; subst h2
    exact ti_u hti hi
  · cases h
theorem HO_makeMap (hti : TiOK P ti) {d : Option Tmp} {t ty : TypeId} {ps : String} {af : Array Edge} {g : Option (Nat × Bool)} {rest : List Oper} (hg : gd ops σ ⟨d, .makeMap t none, ty, ps, af, g⟩ = some true)
    (hd : ((⟨d, .makeMap t none, ty, ps, af, g⟩ : Oper) :: rest).all (dstOK N) = true)
    (hk : EV P ti G N ops rest M (σ.putR d (.mp σ.r.length) (σ.r ++ [some (.map [])]))) : HO P ti G N ops (⟨d, .makeMap t none, ty, ps, af, g⟩ :: rest) M σ := by
  refine HO_sem2 hti (fun _ : Unit => .mp σ.r.length) (fun _ => σ.r ++ [some (.map [])]) (fun _ => True) hg hd rfl (fun E w a hR => ?_) rfl fun _ _ => hk
  have hG := hR.good
  have hs := step_push hG (.map #[] 0) 0 (some (.map []))
  refine ⟨(), .map (some w.heap.size), w.alloc (.map #[] 0), ⟨updN E.T w.heap.size 0, updN E.bl σ.r.length (some w.heap.size)⟩, trivial, .inl (by simp [execOp, resolve, Instr.makeMap]), ?_, good_push hG (.map #[] 0) 0 (.map []) ⟨fun k h => (by cases h), fun l h => (by cases h), fun l h => ?_⟩, hs, .inr (Keeps.alloc w _)⟩
  · simp only [RA]
    refine ⟨by simp, fun l hl => ⟨w.heap.size, updN_same _ _ _, rfl⟩⟩
  · injection h with h; subst h
    refine ⟨updN_same _ _ _, #[], 0, heap_alloc_new w _, rfl, fun j k d hj => by simp at hj⟩
/-- What a lookup tells. -/
def lkRes (z : AV) : Bool → Option (Nat × D) → AV
  | false, some (_, v) => .d v
  | false, none => z
  | true, some (_, v) => .tup [.d v, .d (.c (.bool true))]
  | true, none => .tup [z, .d (.c (.bool false))]
theorem keyEq_form {ks : List CK} {g : Bool} {k a : D} {b : Bool} (h : keyEq ks g k a = some b) : formD g k = true ∧ formD g a = true ∧ eqD ks (cellsD k) (cellsD a) = some b := by
  unfold keyEq at h
  split at h
  · rename_i hf
    rw [Bool.and_eq_true] at hf
    exact ⟨hf.1, hf.2, h⟩
  · cases h
theorem map_at {E : Env} {r : Rs} {w : World} (hG : Good G E r w) {i : Nat} {l : List (D × D)} {x : Value} (hl : r[i]? = some (some (.map l))) (hx : RA E r w (.mp i) x) :
    ∃ b es c, E.bl i = some b ∧ x = .map (some b) ∧ w.heap[b]? = some (.map es c) ∧ es.size = l.length ∧ ∀ (j : Nat) k d, l[j]? = some (k, d) → ∃ e, es[j]? = some e ∧ RD E.T w k e.key ∧ e.born < c ∧ RD E.T w d e.val := by
  simp only [RA] at hx
  obtain ⟨b, hb, rfl⟩ := hx.2 _ hl
  obtain ⟨b', hb', _, es, c, h1, h2, h3⟩ := hG.map i (.m l) hl
  rw [hb] at hb'; injection hb' with hb'; subst hb'
  exact ⟨b, es, c, hb, rfl, h1, h2, h3⟩
theorem key_check (hti : TiOK P ti) {T : Nat → Nat} {w : World} {kt : TypeId} {ki : TI} {ks : List CK} (hki : ti kt = some ki) (hks : tF ti kt = some ks) {k : D} {x : Value} (hx : RD T w k x) {b : Bool} (hok : keyEq ks (isAggD ki.u) k k = some b) (em : Bool) : (Instr.checkKey em 10000 kt x).run P w = .ok () w ∧ ∀ n, Instr.sameBits (n + 1) x x = true := by
  obtain ⟨h1, _, h2⟩ := keyEq_form hok
  obtain ⟨vs, h3, h4⟩ := isV_form hx h1
  have h5 := eqD_sound h4 h4 h2
  exact ⟨check_flat hti em 8 9992 kt ki ks hki hks x vs vs b h3 h5, sameBits_self h3 h5⟩
theorem ki_of {kt : TypeId} {ks : List CK} (hks : tF ti kt = some ks) : ∃ ki, ti kt = some ki := by
  unfold tF at hks
  simp only [flatT] at hks
  split at hks
  · exact ⟨_, ‹_›⟩
  · cases hks
theorem HO_lookup (hti : TiOK P ti) {d : Option Tmp} {x y : Operand} {ok : Bool} {t ty kt et : TypeId} {ps : String} {af : Array Edge} {gd_ : Option (Nat × Bool)} {rest : List Oper} {i : Nat} {l : List (D × D)} {k : D} {ks : List CK} {g b : Bool} {o : Option (Nat × D)} {z : AV}
    (hg : gd ops σ ⟨d, .lookup t x y ok, ty, ps, af, gd_⟩ = some true) (hx : σ.ev G x = .mp i) (hl : σ.r[i]? = some (some (.map l))) (hy : σ.ev G y = .d k) (hm : tM ti t = some (kt, et)) (hks : tF ti kt = some ks) (hgg : tG ti kt = g) (hok : keyEq ks g k k = some b) (hf : findI ks g k l 0 = some o)
    (hz : (ti et).map (fun i => constAV i.zero) = some z) (hd : ((⟨d, .lookup t x y ok, ty, ps, af, gd_⟩ : Oper) :: rest).all (dstOK N) = true)
    (hk : EV P ti G N ops rest M (σ.putR d (lkRes z ok o) σ.r)) : HO P ti G N ops (⟨d, .lookup t x y ok, ty, ps, af, gd_⟩ :: rest) M σ := by
  refine HO_sem2 hti (fun _ : Unit => lkRes z ok o) (fun _ => σ.r) (fun _ => True) hg hd rfl (fun E w a hR => ?_) rfl fun _ _ => hk
  have hG := hR.good
  have h1 := ev_sound hR x
  have h2 := ev_sound hR y
  rw [hx] at h1
  rw [hy] at h2
  simp only [RA] at h2
  obtain ⟨bb, es, c, hb, hxv, hh, hsz, hes⟩ := map_at hG hl h1
  have hgo : (getObj bb).run P w = .ok (.map es c) w := by simp [getObj, Sem.run, hh]
  obtain ⟨ki, hki⟩ := ki_of hks
  have hgk : g = isAggD ki.u := by rw [← hgg]; unfold tG; rw [hki]
  subst hgk
  obtain ⟨hck, _⟩ := key_check (P := P) hti hki hks h2 hok es.isEmpty
  obtain ⟨fa, hfr, hfa⟩ := findKey_run (P := P) hti hki hks h2 (es := es.toList) (by simpa using hsz) (fun j a d hj => by obtain ⟨e, q1, q2, _, q3⟩ := hes j a d hj; exact ⟨e, by simpa using q1, q2, q3⟩) hf
  obtain ⟨ie, hie, hze⟩ : ∃ ie, ti et = some ie ∧ constAV ie.zero = z := by
    rw [Option.map_eq_some_iff] at hz; exact hz
  have hzr := ti_zero (P := P) hti hie w
  have hzra := constAV_sound E σ.r w ie.zero
  rw [hze] at hzra
  have hmu := tM_u (P := P) hti hm
  cases o with
  | none =>
    have hfa : fa = none := hfa
    subst hfa
    cases ok with
    | false => exact ⟨(), ie.zero, w, E, trivial, .inl (by simp [execOp, resolve, Instr.lookup, run_underlying hmu, hxv, hgo, hck, hfr, hzr]), hzra, hG, Step.refl _ _ _, .inr (Keeps.refl w)⟩
    | true =>
      refine ⟨(), .tuple #[ie.zero, .bool false], w, E, trivial, .inl (by simp [execOp, resolve, Instr.lookup, run_underlying hmu, hxv, hgo, hck, hfr, hzr]), ?_, hG, Step.refl _ _ _, .inr (Keeps.refl w)⟩
      simp only [lkRes, RA, RAL]
      exact ⟨#[ie.zero, .bool false], rfl, _, _, rfl, hzra, _, _, rfl, by simp [RD, Value.oneCell'], rfl⟩
  | some p =>
    obtain ⟨j, v⟩ := p
    obtain ⟨q, e, hj, he, rfl, hv, _⟩ := hfa
    cases ok with
    | false => exact ⟨(), e.val, w, E, trivial, .inl (by simp [execOp, resolve, Instr.lookup, run_underlying hmu, hxv, hgo, hck, hfr]), hv, hG, Step.refl _ _ _, .inr (Keeps.refl w)⟩
    | true =>
      refine ⟨(), .tuple #[e.val, .bool true], w, E, trivial, .inl (by simp [execOp, resolve, Instr.lookup, run_underlying hmu, hxv, hgo, hck, hfr]), ?_, hG, Step.refl _ _ _, .inr (Keeps.refl w)⟩
      simp only [lkRes, RA, RAL]
      exact ⟨#[e.val, .bool true], rfl, _, _, rfl, hv, _, _, rfl, by simp [RD, Value.oneCell'], rfl⟩
theorem HO_mapUpdate (hti : TiOK P ti) {d : Option Tmp} {x y zz : Operand} {t ty kt et : TypeId} {ps : String} {af : Array Edge} {gd_ : Option (Nat × Bool)} {rest : List Oper} {i : Nat} {l : List (D × D)} {k v : D} {ks : List CK} {g b : Bool} {o : Option (Nat × D)}
    (hg : gd ops σ ⟨d, .mapUpdate t x y zz, ty, ps, af, gd_⟩ = some true) (hx : σ.ev G x = .mp i) (hl : σ.r[i]? = some (some (.map l))) (hy : σ.ev G y = .d k) (hzv : σ.ev G zz = .d v) (hm : tM ti t = some (kt, et)) (hks : tF ti kt = some ks) (hgg : tG ti kt = g) (hok : keyEq ks g k k = some b) (hf : findI ks g k l 0 = some o)
    (hd : ((⟨d, .mapUpdate t x y zz, ty, ps, af, gd_⟩ : Oper) :: rest).all (dstOK N) = true) (hkp : kpFree M (rest.length + 1) = true)
    (hk : EV P ti G N ops rest M (σ.putR d undA (σ.r.set i (some (.map (putM k v l o)))))) : HO P ti G N ops (⟨d, .mapUpdate t x y zz, ty, ps, af, gd_⟩ :: rest) M σ := by
  refine HO_sem2 hti (fun _ : Unit => undA) (fun _ => σ.r.set i (some (.map (putM k v l o)))) (fun _ => True) hg hd rfl (fun E w a hR => ?_) rfl fun _ _ => hk
  have hG := hR.good
  have h1 := ev_sound hR x
  have h2 := ev_sound hR y
  have h3 := ev_sound hR zz
  rw [hx] at h1
  rw [hy] at h2
  rw [hzv] at h3
  simp only [RA] at h2 h3
  obtain ⟨bb, es, c, hb, hxv, hh, hsz, hes⟩ := map_at hG hl h1
  have hgo : (getObj bb).run P w = .ok (.map es c) w := by simp [getObj, Sem.run, hh]
  obtain ⟨ki, hki⟩ := ki_of hks
  have hgk : g = isAggD ki.u := by rw [← hgg]; unfold tG; rw [hki]
  subst hgk
  obtain ⟨hck, hsame⟩ := key_check (P := P) hti hki hks h2 hok false
  obtain ⟨fa, hfr, hfa⟩ := findKey_run (P := P) hti hki hks h2 (es := es.toList) (by simpa using hsz) (fun j a d hj => by obtain ⟨e, q1, q2, _, q3⟩ := hes j a d hj; exact ⟨e, by simpa using q1, q2, q3⟩) hf
  have hmu := tM_u (P := P) hti hm
  have hund : ∀ E r w, RA E r w undA undef := fun E r w => by simp [undA, RA, RAL, undef]
  cases o with
  | none =>
    have hfa : fa = none := hfa
    subst hfa
    have hset : (setObj bb (.map (es.push ⟨a.eval y, a.eval zz, c⟩) (c + 1))).run P w = .ok () (World.setMap w bb (es.push ⟨a.eval y, a.eval zz, c⟩) (c + 1)) := by simp [setObj, Sem.run, hh, World.setMap, World.setOb]
    have hla := setMap_lasts hG hl hb (.map (es.push ⟨a.eval y, a.eval zz, c⟩) (c + 1))
    have hbs : bb < w.heap.size := (Array.getElem?_eq_some_iff.1 hh).1
    refine ⟨(), undef, World.setMap w bb (es.push ⟨a.eval y, a.eval zz, c⟩) (c + 1), E, trivial, .inr ⟨by simp [execOp, resolve, Instr.mapUpdate, run_underlying hmu, hxv, hgo, hck, hfr, hset], rfl⟩, hund _ _ _, good_setMap hG hl hb _ ⟨es.push ⟨a.eval y, a.eval zz, c⟩, c + 1, (by simp [World.setMap, World.setOb, hbs]), by simp [putM, hsz], fun j k' d' hj => ?_⟩, step_setMap hG hl hb _, .inl hkp⟩
    simp only [putM] at hj
    by_cases hjl : j < l.length
    · rw [List.getElem?_append_left hjl] at hj
      obtain ⟨e, q1, q2, q3, q4⟩ := hes j k' d' hj
      exact ⟨e, by rw [Array.getElem?_push_lt (by omega), ← q1, Array.getElem?_eq_getElem], RD.lasts hla _ _ q2, by omega, RD.lasts hla _ _ q4⟩
    · have hj2 : j = l.length := by
        have := (List.getElem?_eq_some_iff.1 hj).1
        simp at this; omega
      subst hj2
      simp at hj
      obtain ⟨rfl, rfl⟩ := hj
      exact ⟨⟨a.eval y, a.eval zz, c⟩, by rw [← hsz]; simp, RD.lasts hla _ _ h2, by simp, RD.lasts hla _ _ h3⟩
  | some p =>
    obtain ⟨j, v0⟩ := p
    obtain ⟨q, e, hj, he, rfl, hv, hek⟩ := hfa
    rw [Nat.zero_add] at hj
    subst hj
    have he2 : es[j]? = some e := by simpa using he
    have hkt : (Instr.keyThatStays (((es[j]?).map (·.key)).getD (a.eval y)) (a.eval y)).run P w = .ok (a.eval y) w := by
      rw [he2]
      simp only [Option.map_some, Option.getD_some, hek]
      simp [Instr.keyThatStays, hsame 9999]
    have hset : (setObj bb (.map (es.modify j fun e => { e with key := a.eval y, val := a.eval zz }) c)).run P w = .ok () (World.setMap w bb (es.modify j fun e => { e with key := a.eval y, val := a.eval zz }) c) := by simp [setObj, Sem.run, hh, World.setMap, World.setOb]
    have hla := setMap_lasts hG hl hb (.map (es.modify j fun e => { e with key := a.eval y, val := a.eval zz }) c)
    have hbs : bb < w.heap.size := (Array.getElem?_eq_some_iff.1 hh).1
    refine ⟨(), undef, World.setMap w bb (es.modify j fun e => { e with key := a.eval y, val := a.eval zz }) c, E, trivial, .inr ⟨by simp only [execOp, resolve, Instr.mapUpdate, Sem.run_bind, run_underlying hmu, hxv, Result.andThen_ok, hgo, hck, hfr, hkt, hset]; rfl, rfl⟩, hund _ _ _, good_setMap hG hl hb _ ⟨es.modify j fun e => { e with key := a.eval y, val := a.eval zz }, c, (by simp [World.setMap, World.setOb, hbs]), by simp [putM, hsz], fun j2 k' d' hj => ?_⟩, step_setMap hG hl hb _, .inl hkp⟩
    simp only [putM] at hj
    by_cases hjj : j2 = j
    · subst hjj
      have hlt := (List.getElem?_eq_some_iff.1 hj).1
      rw [List.length_set] at hlt
      rw [List.getElem?_set_self hlt] at hj
      injection hj with hj
      injection hj with hj1 hj2
      subst hj1; subst hj2
      have hb2 : e.born < c := by
        obtain ⟨e', q1, _, q3, _⟩ := hes j2 _ _ (List.getElem?_eq_getElem hlt)
        rw [he2] at q1; injection q1 with q1; subst q1; exact q3
      exact ⟨{ e with key := a.eval y, val := a.eval zz }, by simp [Array.getElem?_modify, he2], RD.lasts hla _ _ h2, hb2, RD.lasts hla _ _ h3⟩
    · rw [List.getElem?_set_ne (fun e => hjj e.symm)] at hj
      obtain ⟨e', q1, q2, q3, q4⟩ := hes j2 k' d' hj
      exact ⟨e', by simp [Array.getElem?_modify, Ne.symm hjj, q1], RD.lasts hla _ _ q2, q3, RD.lasts hla _ _ q4⟩
end
section
variable {P : Program} {ti : Ti} {G : GR} {N : Nat} {ops : Array Oper} {M : KM}
variable {d : Option Tmp} {ty t : TypeId} {ps : String} {af : Array Edge} {rest : List Oper} {j : Nat} {want : Bool} {b : Nat → AV} {sl : List (Nat × AV)} {r : Rs} {x y z : Operand} {h : Option Operand} {ok : Bool}
theorem EV_makeMap : EV P ti G N ops (⟨d, .makeMap t h, ty, ps, af, none⟩ :: rest) M ⟨b, sl, r⟩ = HO P ti G N ops (⟨d, .makeMap t h, ty, ps, af, none⟩ :: rest) M ⟨b, sl, r⟩ := EV_stop rfl rfl
theorem EV_g_makeMap : EV P ti G N ops (⟨d, .makeMap t h, ty, ps, af, some (j, want)⟩ :: rest) M ⟨b, sl, r⟩ = bindQ (fun q0 =>
    (q0 = want → HO P ti G N ops (⟨d, .makeMap t h, ty, ps, af, some (j, want)⟩ :: rest) M ⟨b, sl, r⟩) ∧ (q0 = (!want) → EV P ti G N ops rest M (St.putR ⟨b, sl, r⟩ d undA r))) (gdB ops ⟨b, sl, r⟩ j want) := EV_gstop rfl
theorem EV_lookup : EV P ti G N ops (⟨d, .lookup t x y ok, ty, ps, af, none⟩ :: rest) M ⟨b, sl, r⟩ = HO P ti G N ops (⟨d, .lookup t x y ok, ty, ps, af, none⟩ :: rest) M ⟨b, sl, r⟩ := EV_stop rfl rfl
theorem EV_g_lookup : EV P ti G N ops (⟨d, .lookup t x y ok, ty, ps, af, some (j, want)⟩ :: rest) M ⟨b, sl, r⟩ = bindQ (fun q0 =>
    (q0 = want → HO P ti G N ops (⟨d, .lookup t x y ok, ty, ps, af, some (j, want)⟩ :: rest) M ⟨b, sl, r⟩) ∧ (q0 = (!want) → EV P ti G N ops rest M (St.putR ⟨b, sl, r⟩ d undA r))) (gdB ops ⟨b, sl, r⟩ j want) := EV_gstop rfl
theorem EV_mapUpdate : EV P ti G N ops (⟨d, .mapUpdate t x y z, ty, ps, af, none⟩ :: rest) M ⟨b, sl, r⟩ = HO P ti G N ops (⟨d, .mapUpdate t x y z, ty, ps, af, none⟩ :: rest) M ⟨b, sl, r⟩ := EV_stop rfl rfl
theorem EV_g_mapUpdate : EV P ti G N ops (⟨d, .mapUpdate t x y z, ty, ps, af, some (j, want)⟩ :: rest) M ⟨b, sl, r⟩ = bindQ (fun q0 =>
    (q0 = want → HO P ti G N ops (⟨d, .mapUpdate t x y z, ty, ps, af, some (j, want)⟩ :: rest) M ⟨b, sl, r⟩) ∧ (q0 = (!want) → EV P ti G N ops rest M (St.putR ⟨b, sl, r⟩ d undA r))) (gdB ops ⟨b, sl, r⟩ j want) := EV_gstop rfl
end
end Go.Proofs.Ythdjblfiiogmgaa
/- The frame of these proofs, part ZJ: an array or a struct of the call's own is laid for good: from there on its pointer and its slices are data. -/
set_option linter.unusedVariables false
set_option linter.unusedSimpArgs false
namespace Go.Proofs.Ythdjblfiiogmgaa
open Go
section
variable {G : GR} {E : Env} {r : Rs} {w : World}
theorem lay_row (hG : Good G E r w) {i : Nat} {l : List AV} {ds : List D} (ho : objOf r i = some l) (hl : allD l = some ds) :
    ∃ b T', E.bl i = some b ∧ l.length = ds.length ∧ RM T' w ds ⟨b, 0, none⟩ ∧ Good G ⟨T', E.bl⟩ (r.set i none) w ∧ Step E r w ⟨T', E.bl⟩ (r.set i none) w := by
  obtain ⟨b, hb, hT, vs, e, hh, hral, hone⟩ := hG.obj i l (objOf_some ho)
  have hrl := allD_sound l _ ds hral hl hone
  have h1 := RAL_length _ _ hral
  have h2 := RL_length _ _ hrl
  simp only [Array.length_toList] at h1 h2
  have hlt : b < w.heap.size := hG.lt (objOf_some ho) hb
  have hL : Lasts E.T w (updN E.T b vs.size) w := by
    refine ⟨fun q => ?_, fun a _ => rfl⟩
    by_cases hq : q = b
    · subst hq; rw [updN_same, hT]; omega
    · rw [updN_ne _ _ _ hq]; exact Nat.le_refl _
  have hne : ∀ {j : Nat} {x : Res}, (r.set i none)[j]? = some (some x) → r[j]? = some (some x) ∧ E.bl j ≠ some b := by
    intro j x hj
    obtain ⟨hji, hj⟩ := getElem?_setnone hj
    exact ⟨hj, fun hbj => hji (hG.one j i x _ b hj (objOf_some ho) hbj hb)⟩
  have hS : Step E r w ⟨updN E.T b vs.size, E.bl⟩ (r.set i none) w := by
    refine ⟨rfl, rfl, rfl, Nat.le_refl _, fun q hq hno => ?_, fun q ⟨j, x, hj, hbj⟩ => .inl ⟨j, x, (hne hj).1, hbj⟩, hL, ShapeLasts.refl _, ⟨by simp, fun j k _ hj => ?_, fun j k _ hj => ?_, fun j k _ hj => ?_⟩⟩
    · have hqb : q ≠ b := fun h => hno ⟨i, _, objOf_some ho, h ▸ hb⟩
      exact ⟨rfl, updN_ne _ _ _ hqb⟩
    · exact ⟨k, (hne hj).1, Nat.le_refl _, fun _ => rfl⟩
    · exact ⟨k, (hne hj).1, rfl, rfl⟩
    · exact ⟨k, (hne hj).1, rfl⟩
  refine ⟨b, updN E.T b vs.size, hb, by omega, ?_, ?_, hS⟩
  · refine RM_of_values _ _ vs.toList (RL.lasts hL _ _ hrl) (fun j u hj => ?_) (by simp [updN_same]; omega)
    rw [addr_plain, cell_of_row w b _ vs e (0, 0) hh]
    simpa using hj
  · refine ⟨fun j k q hj hq => ?_, fun j k hj => ?_, fun j k hj => ?_, fun j k x y q hj hk hbj hbk => hG.one j k x y q (hne hj).1 (hne hk).1 hbj hbk, fun q hq => ?_, fun g => RM.lasts hL _ _ (hG.glob g)⟩
    · obtain ⟨hj, hjb⟩ := hne hj
      have hqb : q ≠ b := fun h => hjb (h ▸ hq)
      obtain ⟨h1, cur, e3, h2, h3⟩ := hG.tok j k q hj hq
      exact ⟨(updN_ne _ _ _ hqb).trans h1, cur, e3, h2, h3⟩
    · obtain ⟨hj, hjb⟩ := hne hj
      obtain ⟨q, hq, h1, vs3, e3, h2, h3, h4⟩ := hG.obj j k hj
      have hqb : q ≠ b := fun h => hjb (h ▸ hq)
      exact ⟨q, hq, (updN_ne _ _ _ hqb).trans h1, vs3, e3, h2, h3.step hS, h4⟩
    · obtain ⟨hj, hjb⟩ := hne hj
      obtain ⟨q, hq, h1, h2⟩ := hG.map j k hj
      have hqb : q ≠ b := fun h => hjb (h ▸ hq)
      exact ⟨q, hq, (updN_ne _ _ _ hqb).trans h1, h2.lasts (T' := E.T) rfl hL⟩
    · show updN E.T b vs.size q = 0
      rw [updN_ne _ _ _ (by omega)]
      exact hG.fresh q hq
def fzA (i : Nat) (ds : List D) : AV → AV
  | .ptr j off => if j = i then .el (ds.drop off) else .ptr j off
  | .osl j off sz n => if j = i ∧ 0 < n then .d (.sl sz n ((ds.drop off).take (n * sz))) else .osl j off sz n
  | .csl j off sz n c => if j = i ∧ 0 < c then .d (.sl sz n ((ds.drop off).take (n * sz))) else .csl j off sz n c
  | a => a
def fzL (i : Nat) (ds : List D) : List (Nat × AV) → List (Nat × AV)
  | [] => []
  | (k, a) :: l => (k, fzA i ds a) :: fzL i ds l
theorem fz_sound (hG : Good G E r w) {i : Nat} {l : List AV} {ds : List D} {b : Nat} {T' : Nat → Nat} (ho : objOf r i = some l) (hb : E.bl i = some b) (hlen : l.length = ds.length) (hrm : RM T' w ds ⟨b, 0, none⟩) (hS : Step E r w ⟨T', E.bl⟩ (r.set i none) w) {a : AV} {x : Value} (h : RA E r w a x) :
    RA ⟨T', E.bl⟩ (r.set i none) w (fzA i ds a) x := by
  have keep := h.step hS
  cases a with
  | ptr j off =>
    simp only [fzA]
    split
    · rename_i hj
      subst hj
      simp only [RA] at h ⊢
      obtain ⟨b2, hb2, rfl⟩ := h.2 l (objOf_some ho)
      rw [hb] at hb2; injection hb2 with hb2; subst hb2
      refine ⟨_, rfl, ?_⟩
      have := RM_drop _ _ hrm off
      rwa [addr_plain, Nat.zero_add] at this
    · exact keep
  | osl j off sz n =>
    simp only [fzA]
    split
    · rename_i hj
      obtain ⟨hj, hn⟩ := hj
      subst hj
      simp only [RA, RD] at h ⊢
      obtain ⟨_, A, c, rfl, hc, hx⟩ := h
      obtain ⟨hfit, hx⟩ := hx l (objOf_some ho)
      obtain ⟨b2, hb2, rfl⟩ := hx hn
      rw [hb] at hb2; injection hb2 with hb2; subst hb2
      refine ⟨by rw [List.length_take, List.length_drop]; omega, _, _, rfl, hc, .inr ⟨_, rfl, ?_⟩⟩
      have := RM_take _ _ (RM_drop _ _ hrm off) (n * sz)
      rwa [addr_plain, Nat.zero_add] at this
    · exact keep
  | csl j off sz n c =>
    simp only [fzA]
    split
    · rename_i hj
      obtain ⟨hj, hn⟩ := hj
      subst hj
      simp only [RA, RD] at h ⊢
      obtain ⟨_, A, rfl, hc, hx⟩ := h
      obtain ⟨hfit, hx⟩ := hx l (objOf_some ho)
      obtain ⟨b2, hb2, rfl⟩ := hx hn
      rw [hb] at hb2; injection hb2 with hb2; subst hb2
      have hmul : n * sz ≤ c * sz := Nat.mul_le_mul_right _ hc
      refine ⟨by rw [List.length_take, List.length_drop]; omega, _, _, rfl, hc, .inr ⟨_, rfl, ?_⟩⟩
      have := RM_take _ _ (RM_drop _ _ hrm off) (n * sz)
      rwa [addr_plain, Nat.zero_add] at this
    · exact keep
  | _ => exact keep
end
section
variable {P : Program} {ti : Ti} {G : GR} {N : Nat} {K : KD}
theorem lk_fz {i : Nat} {ds : List D} {b : Nat → AV} : ∀ {l : List (Nat × AV)} {k : Nat}, (∃ v, lk l b k = v ∧ lk (fzL i ds l) b k = fzA i ds v) ∨ (lk l b k = b k ∧ lk (fzL i ds l) b k = b k)
  | [], k => .inr ⟨rfl, rfl⟩
  | (j, a) :: l, k => by
    simp only [fzL, lk]
    split
    · exact .inl ⟨_, rfl, rfl⟩
    · exact lk_fz
theorem HC_lay (i : Nat) {c : Code} {b : Nat → AV} {sl : List (Nat × AV)} {r : Rs} {l : List AV} {ds : List D} (ho : objOf r i = some l) (hl : allD l = some ds) (h : HC P ti G N c K ⟨b, fzL i ds sl, r.set i none⟩) : HC P ti G N c K ⟨b, sl, r⟩ := by
  intro E0 r0 w0 E a w hR hS
  obtain ⟨bb, T', hb, hlen, hrm, hgood, hst⟩ := lay_row hR.good ho hl
  refine h E0 r0 w0 ⟨T', E.bl⟩ a w ⟨hR.size, fun k => ?_, hgood, hR.defers.step hst⟩ (hS.trans hst)
  have hk := hR.slot k
  show RA _ (r.set i none) w (lk (fzL i ds sl) b k) _
  change RA E r w (lk sl b k) _ at hk
  rcases lk_fz (i := i) (ds := ds) (b := b) (l := sl) (k := k) with ⟨v, h1, h2⟩ | ⟨h1, h2⟩
  · rw [h2]; rw [h1] at hk; exact fz_sound hR.good ho hb hlen hrm hst hk
  · rw [h2]; rw [h1] at hk; exact hk.step hst
/-- A region's end in one form, whatever order it took: what comes behind is shown once. -/
theorem HC_cutR {c : Code} {K : KD} {σ : St} (st : List (Nat × AV)) (re : Rs) (h1 : HC P ti G N c (.loop (fun σ' => ∃ L F, FitR σ.r.length L F σ' st re) K) σ) (h2 : A P ti G N K .normal ⟨fun _ => .top, st, re⟩) : HC P ti G N c K σ := by
  intro E0 r0 w0 E a w hR hS
  refine wpIn_mono (h1 E0 r0 w0 E a w hR hS) fun e a1 w1 hq => ?_
  obtain ⟨σ1, E1, hk, hR1, hS1⟩ := hq
  cases e with
  | normal =>
    obtain ⟨L, F, hfit⟩ := hk
    have h3 := hR1.fitR hS1 hS.names.len hfit
    exact ⟨_, _, h2, h3.1, h3.2⟩
  | _ => exact ⟨σ1, E1, hk, hR1, hS1⟩
end
end Go.Proofs.Ythdjblfiiogmgaa
/- The frame of these proofs, part ZK: slices of own rows whose capacity is known: capacity, copies, appends, laying what a call hands back. -/
set_option linter.unusedVariables false
set_option linter.unusedSimpArgs false
namespace Go.Proofs.Ythdjblfiiogmgaa
open Go
section
variable {P : Program} {ti : Ti} {G : GR} {N : Nat} {ops : Array Oper} {M : KM} {σ : St}
theorem tI_info (hti : TiOK P ti) {e : TypeId} (h : tI ti e = true) : ∃ ie, ti e = some ie ∧ tS ti e = ie.size ∧ tB ti e = ie.bytes ∧ (∀ w : World, (sizeOf e).run P w = .ok ie.size w) := by
  unfold tI at h
  obtain ⟨ie, hie⟩ := Option.isSome_iff_exists.1 h
  exact ⟨ie, hie, by unfold tS; rw [hie], by unfold tB; rw [hie], fun w => ti_size hti hie w⟩
/-- The capacity. -/
theorem HO_capC (hti : TiOK P ti) {d : Option Tmp} {x : Operand} {t ty : TypeId} {ps : String} {af : Array Edge} {g : Option (Nat × Bool)} {rest : List Oper} {o off sz n c : Nat} (hg : gd ops σ ⟨d, .call ⟨.builtin .cap, #[x], #[t]⟩, ty, ps, af, g⟩ = some true)
    (hx : σ.ev G x = .csl o off sz n c) (ht : slK (tK ti t) = true) (hd : ((⟨d, .call ⟨.builtin .cap, #[x], #[t]⟩, ty, ps, af, g⟩ : Oper) :: rest).all (dstOK N) = true)
    (hk : EV P ti G N ops rest M (σ.putR d (.d (.c (.int .i64 c))) σ.r)) : HO P ti G N ops (⟨d, .call ⟨.builtin .cap, #[x], #[t]⟩, ty, ps, af, g⟩ :: rest) M σ := by
  refine HO_sem hti (fun _ : Unit => .d (.c (.int .i64 c))) (fun _ => σ.r) (fun _ => True) hg hd rfl (fun E w a hR => ?_) rfl fun _ _ => hk
  obtain ⟨e, he⟩ : ∃ e, tK ti t = .sl e := slK_sl ht
  obtain ⟨s, bb, z, hte⟩ := tK_sl he
  have hut := ti_run hti hte w
  have h := ev_sound hR x
  rw [hx] at h
  simp only [RA] at h
  obtain ⟨_, A, hv, _⟩ := h
  refine ⟨(), .int .i64 c, w, E, trivial, ?_, by simp [RA, RD, Value.oneCell'], hR.good, Step.refl _ _ _, .inr (Keeps.refl w)⟩
  simp [execOp, resolve, invoke, builtin, hv, Builtin.cap_, hut, goInt]
/-- .. of an empty slice that is full. -/
theorem HO_cap0 (hti : TiOK P ti) {d : Option Tmp} {x : Operand} {t ty : TypeId} {ps : String} {af : Array Edge} {g : Option (Nat × Bool)} {rest : List Oper} {sz n : Nat} {xs : List D} (hg : gd ops σ ⟨d, .call ⟨.builtin .cap, #[x], #[t]⟩, ty, ps, af, g⟩ = some true)
    (hx : slOf sz (σ.ev G x) = some (some .full, n, xs)) (ht : slK (tK ti t) = true) (hd : ((⟨d, .call ⟨.builtin .cap, #[x], #[t]⟩, ty, ps, af, g⟩ : Oper) :: rest).all (dstOK N) = true)
    (hk : EV P ti G N ops rest M (σ.putR d (.d (.c (.int .i64 n))) σ.r)) : HO P ti G N ops (⟨d, .call ⟨.builtin .cap, #[x], #[t]⟩, ty, ps, af, g⟩ :: rest) M σ := by
  refine HO_sem hti (fun _ : Unit => .d (.c (.int .i64 n))) (fun _ => σ.r) (fun _ => True) hg hd rfl (fun E w a hR => ?_) rfl fun _ _ => hk
  obtain ⟨e, he⟩ : ∃ e, tK ti t = .sl e := slK_sl ht
  obtain ⟨s, bb, z, hte⟩ := tK_sl he
  have hut := ti_run hti hte w
  obtain ⟨hlx, A, c, hxv, hnc, hrx, hmo⟩ := slOf_sound (ev_sound hR x) hx
  have hc : c = n := hmo
  subst hc
  refine ⟨(), .int .i64 c, w, E, trivial, ?_, by simp [RA, RD, Value.oneCell'], hR.good, Step.refl _ _ _, .inr (Keeps.refl w)⟩
  simp [execOp, resolve, invoke, builtin, hxv, Builtin.cap_, hut, goInt]
/-- A copy of data into a row. -/
theorem HO_copyCD (hti : TiOK P ti) {d : Option Tmp} {x y : Operand} {t u e ty : TypeId} {ps : String} {af : Array Edge} {g : Option (Nat × Bool)} {rest : List Oper} {o off sz n c m k : Nat} {l l' : List AV} {ys : List D} (hg : gd ops σ ⟨d, .call ⟨.builtin .copy, #[x, y], #[t, u]⟩, ty, ps, af, g⟩ = some true)
    (hx : σ.ev G x = .csl o off sz n c) (hy : srcOf σ.r sz (σ.ev G y) = some (m, ys)) (hl : objOf σ.r o = some l) (ht : tK ti t = .sl e) (hte : tI ti e = true ∧ tS ti e = sz) (hn : 0 < c) (hk2 : Nat.min m n = k) (hkm : k = m) (hr : l.take off ++ ys.map .d ++ l.drop (off + k * sz) = l')
    (hd : ((⟨d, .call ⟨.builtin .copy, #[x, y], #[t, u]⟩, ty, ps, af, g⟩ : Oper) :: rest).all (dstOK N) = true) (hkp : kpFree M (rest.length + 1) = true)
    (hk : EV P ti G N ops rest M (σ.putR d (.d (.c (.int .i64 k))) (σ.r.set o (some (.obj l'))))) : HO P ti G N ops (⟨d, .call ⟨.builtin .copy, #[x, y], #[t, u]⟩, ty, ps, af, g⟩ :: rest) M σ := by
  subst hr
  refine HO_sem hti (fun _ : Unit => .d (.c (.int .i64 k))) (fun _ => σ.r.set o (some (.obj (l.take off ++ ys.map .d ++ l.drop (off + k * sz))))) (fun _ => True) hg hd rfl (fun E w a hR => ?_) rfl fun _ _ => hk
  obtain ⟨s, bb, z, htt⟩ := tK_sl ht
  have hut := ti_run hti htt w
  obtain ⟨ie, hie, hisz, _, hsz⟩ := tI_info hti hte.1
  have hsz := hsz w
  rw [← hisz, hte.2] at hsz
  have h1 := ev_sound hR x
  rw [hx] at h1
  simp only [RA] at h1
  obtain ⟨_, A, hv, hnc, h1⟩ := h1
  obtain ⟨hf1, h1⟩ := h1 l (objOf_some hl)
  obtain ⟨b, hb, rfl⟩ := h1 hn
  obtain ⟨hly, hlen, us, hus, hload, _⟩ := srcOf_sound (P := P) hR.good (ev_sound hR y) hy
  subst hkm
  have hkn : k ≤ n := by rw [← hk2]; exact Nat.min_le_right _ _
  have hmul : k * sz ≤ c * sz := Nat.mul_le_mul_right _ (by omega)
  have hkl : (ys.map AV.d).length = k * sz := by rw [List.length_map, hly]
  obtain ⟨w', E', hrun, hgood, hst⟩ := obj_put (P := P) hR.good (off := off) hl hb (RAL_map_d _ _ hus) (values_wide hus) (by rw [hkl]; omega)
  rw [hkl] at hgood hst
  refine ⟨(), .int .i64 k, w', E', trivial, ?_, by simp [RA, RD, Value.oneCell'], hgood, hst, .inl hkp⟩
  simp [execOp, resolve, invoke, builtin, hv, Builtin.copy_, hut, hlen, hsz, hk2, hload, hrun, goInt]
/-- A copy from a row into a row (they may be one). -/
theorem HO_copyCC (hti : TiOK P ti) {d : Option Tmp} {x y : Operand} {t u e ty : TypeId} {ps : String} {af : Array Edge} {g : Option (Nat × Bool)} {rest : List Oper} {o off sz n c o2 off2 n2 c2 k : Nat} {l l2 l' : List AV} (hg : gd ops σ ⟨d, .call ⟨.builtin .copy, #[x, y], #[t, u]⟩, ty, ps, af, g⟩ = some true)
    (hx : σ.ev G x = .csl o off sz n c) (hy : σ.ev G y = .csl o2 off2 sz n2 c2) (hl : objOf σ.r o = some l) (hl2 : objOf σ.r o2 = some l2) (ht : tK ti t = .sl e) (hte : tI ti e = true ∧ tS ti e = sz) (hn : 0 < c) (hn2 : 0 < c2) (hk2 : Nat.min n2 n = k) (hr : l.take off ++ (l2.drop off2).take (k * sz) ++ l.drop (off + k * sz) = l')
    (hd : ((⟨d, .call ⟨.builtin .copy, #[x, y], #[t, u]⟩, ty, ps, af, g⟩ : Oper) :: rest).all (dstOK N) = true) (hkp : kpFree M (rest.length + 1) = true)
    (hk : EV P ti G N ops rest M (σ.putR d (.d (.c (.int .i64 k))) (σ.r.set o (some (.obj l'))))) : HO P ti G N ops (⟨d, .call ⟨.builtin .copy, #[x, y], #[t, u]⟩, ty, ps, af, g⟩ :: rest) M σ := by
  subst hr
  refine HO_sem hti (fun _ : Unit => .d (.c (.int .i64 k))) (fun _ => σ.r.set o (some (.obj (l.take off ++ (l2.drop off2).take (k * sz) ++ l.drop (off + k * sz))))) (fun _ => True) hg hd rfl (fun E w a hR => ?_) rfl fun _ _ => hk
  obtain ⟨s, bb, z, htt⟩ := tK_sl ht
  have hut := ti_run hti htt w
  obtain ⟨ie, hie, hisz, _, hsz⟩ := tI_info hti hte.1
  have hsz := hsz w
  rw [← hisz, hte.2] at hsz
  have h1 := ev_sound hR x
  have h2 := ev_sound hR y
  rw [hx] at h1
  rw [hy] at h2
  simp only [RA] at h1 h2
  obtain ⟨_, A, hv, hnc, h1⟩ := h1
  obtain ⟨_, A2, hv2, hnc2, h2⟩ := h2
  obtain ⟨hf1, h1⟩ := h1 l (objOf_some hl)
  obtain ⟨hf2, h2⟩ := h2 l2 (objOf_some hl2)
  obtain ⟨b, hb, rfl⟩ := h1 hn
  obtain ⟨b2, hb2, rfl⟩ := h2 hn2
  obtain ⟨b2', vs, el, hb2', hh, hral, hone, hcell⟩ := obj_cell hR.good hl2
  rw [hb2] at hb2'; injection hb2' with hb2'; subst hb2'
  have hvl := RAL_length l2 _ hral
  have hkn : k ≤ n ∧ k ≤ n2 := by rw [← hk2]; exact ⟨Nat.min_le_right _ _, Nat.min_le_left _ _⟩
  have hmul : k * sz ≤ c * sz := Nat.mul_le_mul_right _ (by omega)
  have hmul2 : k * sz ≤ c2 * sz := Nat.mul_le_mul_right _ (by omega)
  have hys : ((vs.toList.drop off2).take (k * sz)).length = k * sz := by rw [List.length_take, List.length_drop]; omega
  have hcs : ((l2.drop off2).take (k * sz)).length = k * sz := by rw [List.length_take, List.length_drop]; omega
  obtain ⟨w', E', hrun, hgood, hst⟩ := obj_put (P := P) hR.good (off := off) hl hb (RAL_take _ _ (RAL_drop _ _ hral off2) (k * sz)) (fun u hu => hone u (List.mem_of_mem_drop (List.mem_of_mem_take hu))) (by rw [hcs]; omega)
  rw [hcs] at hgood hst
  have hload : (Builtin.firstCells sz k (.slice (some ⟨b2, off2, none⟩) n2 c2)).run P w = .ok ((vs.toList.drop off2).take (k * sz)).toArray w :=
    run_firstCells_some (P := P) w sz k ⟨b2, off2, none⟩ n2 c2 _ hys (fun j v hj => by
      rw [List.getElem?_take] at hj
      split at hj
      · rw [List.getElem?_drop] at hj
        rw [addr_plain, hcell]; simpa using hj
      · cases hj)
  refine ⟨(), .int .i64 k, w', E', trivial, ?_, by simp [RA, RD, Value.oneCell'], hgood, hst, .inl hkp⟩
  simp [execOp, resolve, invoke, builtin, hv, hv2, Builtin.copy_, hut, Builtin.lenOf, hsz, hk2, hload, hrun, goInt]
end
section
variable {P : Program} {G : GR}
/-- What a call hands back is laid for good. -/
theorem AC.lay {f : FuncId} {args : List AV} {r : Rs} {O O' : AV → Rs → Prop} (h : AC P G f args r O)
    (hO : ∀ v r', O v r' → ∃ i l ds, objOf r' i = some l ∧ allD l = some ds ∧ O' (fzA i ds v) (r'.set i none)) : AC P G f args r O' := by
  refine ⟨h.1, fun E w vals hG hA => (h.2 E w vals hG hA).mono fun e w' ⟨v, x, r', E', he, ho, h1, h2, h3⟩ => ?_⟩
  obtain ⟨i, l, ds, hl, hd, hv⟩ := hO v r' ho
  obtain ⟨b, T', hb, hlen, hrm, hgood, hst⟩ := lay_row h2 hl hd
  exact ⟨_, x, _, _, he, hv, fz_sound h2 hl hb hlen hrm hst h1, hgood, h3.trans hst⟩
end
end Go.Proofs.Ythdjblfiiogmgaa
/- The frame of these proofs, part ZL: appends to rows whose capacity is known, and the library's question whether two slices overlap. -/
set_option linter.unusedVariables false
set_option linter.unusedSimpArgs false
namespace Go.Proofs.Ythdjblfiiogmgaa
open Go
section
variable {P : Program} {ti : Ti} {G : GR} {N : Nat} {ops : Array Oper} {M : KM} {σ : St}
theorem zeroA_len {z : Value} {zl : List AV} (h : zeroA z = some zl) : zl.length = z.cells.size := by
  have h1 := RAL_length _ _ (zeroA_sound (E := ⟨fun _ => 0, fun _ => none⟩) (r := []) (w := default) h).1
  simpa using h1.symm
theorem tZ_zero {e : TypeId} {zl : List AV} {ie : TI} (hz : tZ ti e = some zl) (hie : ti e = some ie) : zeroA ie.zero = some zl := by
  unfold tZ at hz; rw [hie] at hz; exact hz
theorem tK_src {u : TypeId} (hu : isSrc (tK ti u) = true) : ∃ iu, ti u = some iu ∧ Src iu.u := by
  unfold tK at hu
  cases h : ti u with
  | none => rw [h] at hu; simp [isSrc] at hu
  | some iu =>
    refine ⟨iu, rfl, ?_⟩
    rw [h] at hu
    obtain ⟨uu, _, _, _⟩ := iu
    cases uu <;> simp [tkOf, isSrc] at hu
    · exact .inr rfl
    · exact .inl ⟨_, rfl⟩
theorem zeros_rows {E : Env} {r : Rs} {w : World} {ie : TI} {zl : List AV} (h : zeroA ie.zero = some zl) (hs : ie.zero.cells.size = ie.size) (hpos : 0 < ie.size) (n : Nat) :
    RAL E r w (repA zl n) (Builtin.zeroCells ie.zero.cells n).toList ∧ ∀ u ∈ (Builtin.zeroCells ie.zero.cells n).toList, u.oneCell' = true := by
  have := zeros_sound (E := E) (r := r) (w := w) h (n := n) hs hpos
  unfold Builtin.zeroCells
  rw [hs]
  rw [hs] at this
  exact this
/-- A new row of the call's own, with the slice on it. -/
theorem new_row {E : Env} {r : Rs} {w : World} (hG : Good G E r w) {vs : Array Value} {e : TypeId} {l : List AV} (hl : RAL E r w l vs.toList) (h1 : ∀ u ∈ vs.toList, u.oneCell' = true) {sz n c : Nat} (hc : n ≤ c) (hfit : c * sz ≤ l.length) :
    ∃ E', RA E' (r ++ [some (.obj l)]) (w.drew.alloc (.cells vs e)) (.csl r.length 0 sz n c) (.slice (some ⟨w.heap.size, 0, none⟩) n c) ∧ Good G E' (r ++ [some (.obj l)]) (w.drew.alloc (.cells vs e)) ∧ Step E r w E' (r ++ [some (.obj l)]) (w.drew.alloc (.cells vs e)) := by
  have hGd := good_drew hG
  have hsd := step_drew E r w
  have hst := step_push hGd (.cells vs e) 0 (some (.obj l))
  refine ⟨_, ?_, good_push hGd _ 0 _ ⟨fun k hk => (by cases hk), fun l' hl' => ?_, fun l hl => (by cases hl)⟩, hsd.trans hst⟩
  · simp only [RA]
    refine ⟨by simp, _, rfl, hc, fun l' hl' => ?_⟩
    simp at hl'
    subst hl'
    exact ⟨by omega, fun _ => ⟨_, updN_same _ _ _, rfl⟩⟩
  · injection hl' with hl'; subst hl'
    exact ⟨updN_same _ _ _, vs, e, heap_alloc_new w.drew _, hl.step (hsd.trans hst), h1⟩
/-- An append to nothing. -/
theorem HO_appE (hti : TiOK P ti) {d : Option Tmp} {x y : Operand} {t u ty e : TypeId} {ps : String} {af : Array Edge} {g : Option (Nat × Bool)} {rest : List Oper} {sz m : Nat} {ys : List D} {zl : List AV} (hg : gd ops σ ⟨d, .call ⟨.builtin .append, #[x, y], #[t, u]⟩, ty, ps, af, g⟩ = some true)
    (ht : tK ti t = .sl e) (hu : isSrc (tK ti u) = true) (hi : tI ti e = true ∧ tS ti e = sz) (hx : slOf sz (σ.ev G x) = some (some .full, 0, [])) (hy : srcOf σ.r sz (σ.ev G y) = some (m, ys)) (hz : tZ ti e = some zl) (hpos : 0 < sz) (hm : 0 < m)
    (h63 : m ≤ 9223372036854775807) (hb : m * tB ti e ≤ 140737488355328) (hd : ((⟨d, .call ⟨.builtin .append, #[x, y], #[t, u]⟩, ty, ps, af, g⟩ : Oper) :: rest).all (dstOK N) = true)
    (hk : ∀ k : Nat, EV P ti G N ops rest M (σ.putR d (.csl σ.r.length 0 sz m (m + k)) (σ.r ++ [some (.obj (ys.map .d ++ repA zl k))]))) : HO P ti G N ops (⟨d, .call ⟨.builtin .append, #[x, y], #[t, u]⟩, ty, ps, af, g⟩ :: rest) M σ := by
  obtain ⟨s, bb, z, hte⟩ := tK_sl ht
  obtain ⟨ie, hee, hsz, hby, _⟩ := tI_info hti hi.1
  have hzz := tZ_zero hz hee
  obtain ⟨iu, hue, hsrc⟩ := tK_src hu
  rw [hi.2] at hsz
  subst hsz
  rw [hby] at hb
  refine HO_sem hti (fun k : Nat => .csl σ.r.length 0 ie.size m (m + k)) (fun k => σ.r ++ [some (.obj (ys.map .d ++ repA zl k))]) (fun _ => True) hg hd rfl (fun E w a hR => ?_) rfl fun k _ => hk k
  have hG := hR.good
  obtain ⟨hut, _⟩ := hti _ _ hte
  obtain ⟨_, fe, hfe, hfs, hfb, hfz, hzs, _⟩ := hti _ _ hee
  obtain ⟨huu, _⟩ := hti _ _ hue
  obtain ⟨hlx, A, c, hxv, hnc, hrx, hmo⟩ := slOf_sound (ev_sound hR x) hx
  obtain ⟨hly, hlen, news, hnews, hf1, hf2⟩ := srcOf_sound (P := P) hG (ev_sound hR y) hy
  rw [← hfs] at hf1 hf2
  have hc0 : c = 0 := hmo
  subst hc0
  have hof : (Builtin.firstCells fe.size 0 (.slice A 0 0)).run P w.drew = .ok (#[] : Array Value) w.drew := by
    cases A with
    | none => simp [Builtin.firstCells]
    | some ad => exact run_firstCells_some (P := P) w.drew fe.size 0 ad 0 0 [] (by simp) (fun j u hj => by simp at hj)
  have hrun := app_grow (P := P) (ty := ty) hut huu hsrc hfe hfz (olds := []) hof hlen hf2 (by omega) (by omega) (growslice_fits (by omega) (by rw [hfb, Nat.zero_add]; exact hb))
  have hge := grownCap_ge w (0 + m) 0 e
  obtain ⟨z1, z2⟩ := zeros_rows (E := E) (r := σ.r) (w := w) hzz hzs hpos (grownCap w (0 + m) 0 e - (0 + m))
  have hzl := zeroA_len hzz
  obtain ⟨E', n1, n2, n3⟩ := new_row (sz := ie.size) (n := m) (c := m + (grownCap w (0 + m) 0 e - (0 + m))) (l := ys.map .d ++ repA zl (grownCap w (0 + m) 0 e - (0 + m))) (vs := #[] ++ news.toArray ++ Builtin.zeroCells ie.zero.cells (grownCap w (0 + m) 0 e - (0 + m))) (e := e) hG (by
      simp only [Array.toList_append, List.nil_append]
      exact RAL_append _ _ _ _ (RAL_map_d _ _ hnews) z1) (by
      intro q hq
      simp only [Array.toList_append, List.nil_append, List.mem_append] at hq
      rcases hq with hq | hq
      · exact RL_one _ _ hnews q hq
      · exact z2 q hq) (by omega) (by rw [List.length_append, List.length_map, hly, repA_length, hzl, hzs, Nat.add_mul]; exact Nat.le_refl _)
  refine ⟨_, _, _, _, trivial, ?_, n1, n2, n3, .inr (Keeps.trans (Keeps.drew w) (Keeps.alloc w.drew _))⟩
  have hcc : m + (grownCap w (0 + m) 0 e - (0 + m)) = grownCap w (0 + m) 0 e := by omega
  rw [hcc]
  have h0 : (0 : Nat) + m = m := Nat.zero_add m
  rw [h0] at hrun ⊢
  rw [← hxv] at hrun
  simp [execOp, resolve, invoke, builtin, hrun]
theorem csl_cells {E : Env} {w : World} {r : Rs} (hG : Good G E r w) {o sz n c : Nat} {l : List AV} (hl : objOf r o = some l) (hfit : n * sz ≤ l.length) {b : Nat} (hb : E.bl o = some b) :
    ∃ vs : List Value, RAL E r w (l.take (n * sz)) vs ∧ (∀ u ∈ vs, u.oneCell' = true) ∧ (Builtin.firstCells sz n (.slice (some ⟨b, 0, none⟩) n c)).run P w.drew = .ok vs.toArray w.drew := by
  obtain ⟨b', vs, el, hb', hh, hral, hone, hcell⟩ := obj_cell hG hl
  rw [hb] at hb'; injection hb' with hb'; subst hb'
  have hvl := RAL_length l _ hral
  refine ⟨vs.toList.take (n * sz), RAL_take _ _ hral _, fun u hu => hone u (List.mem_of_mem_take hu), ?_⟩
  refine run_firstCells_some (P := P) w.drew sz n ⟨b, 0, none⟩ n c _ (by rw [List.length_take]; omega) (fun j u hj => ?_)
  rw [List.getElem?_take] at hj
  split at hj
  · have : w.drew.cell? (Addr.add ⟨b, 0, none⟩ j) = w.cell? (Addr.add ⟨b, 0, none⟩ j) := by simp
    rw [this, addr_plain, hcell]; simpa using hj
  · cases hj
/-- The cells of a slice of the call's own are made zero. -/
theorem HO_clearC (hti : TiOK P ti) {d : Option Tmp} {x : Operand} {t ty e : TypeId} {ps : String} {af : Array Edge} {g : Option (Nat × Bool)} {rest : List Oper} {o off sz n c : Nat} {l l' zl : List AV} (hg : gd ops σ ⟨d, .call ⟨.builtin .clear, #[x], #[t]⟩, ty, ps, af, g⟩ = some true)
    (hx : σ.ev G x = .csl o off sz n c) (hl : objOf σ.r o = some l) (ht : tK ti t = .sl e) (hi : tI ti e = true ∧ tS ti e = sz) (hz : tZ ti e = some zl) (hpos : 0 < sz) (hn : 0 < n) (hr : l.take off ++ repA zl n ++ l.drop (off + n * sz) = l')
    (hd : ((⟨d, .call ⟨.builtin .clear, #[x], #[t]⟩, ty, ps, af, g⟩ : Oper) :: rest).all (dstOK N) = true) (hkp : kpFree M (rest.length + 1) = true)
    (hk : EV P ti G N ops rest M (σ.putR d (.tup []) (σ.r.set o (some (.obj l'))))) : HO P ti G N ops (⟨d, .call ⟨.builtin .clear, #[x], #[t]⟩, ty, ps, af, g⟩ :: rest) M σ := by
  subst hr
  obtain ⟨s, bb, z, htt⟩ := tK_sl ht
  obtain ⟨ie, hee, hsz, hby, _⟩ := tI_info hti hi.1
  have hzz := tZ_zero hz hee
  rw [hi.2] at hsz
  subst hsz
  refine HO_sem hti (fun _ : Unit => .tup []) (fun _ => σ.r.set o (some (.obj (l.take off ++ repA zl n ++ l.drop (off + n * ie.size))))) (fun _ => True) hg hd rfl (fun E w a hR => ?_) rfl fun _ _ => hk
  have hG := hR.good
  have hut := ti_run hti htt w
  have hzr := ti_zero hti hee w
  obtain ⟨_, fe, hfe, hfs, hfb, hfz, hzs, _⟩ := hti _ _ hee
  have h1 := ev_sound hR x
  rw [hx] at h1
  simp only [RA] at h1
  obtain ⟨hol, A, hxv, hnc, h1⟩ := h1
  obtain ⟨hf1, h1⟩ := h1 l (objOf_some hl)
  obtain ⟨b, hb, rfl⟩ := h1 (by omega)
  obtain ⟨z1, z2⟩ := zeros_rows (E := E) (r := σ.r) (w := w) hzz hzs hpos n
  have hzl := zeroA_len hzz
  have hmul : n * ie.size ≤ c * ie.size := Nat.mul_le_mul_right _ hnc
  have hrl : (repA zl n).length = n * ie.size := by rw [repA_length, hzl, hzs]
  obtain ⟨w', E', hrun, hgood, hst⟩ := obj_put (P := P) hG (off := off) hl hb z1 z2 (by rw [hrl]; omega)
  rw [hrl] at hgood hst
  refine ⟨(), .tuple #[], w', E', trivial, ?_, by simp [RA, RAL], hgood, hst, .inl hkp⟩
  obtain ⟨k, rfl⟩ : ∃ k, n = k + 1 := ⟨n - 1, by omega⟩
  simp [execOp, resolve, invoke, builtin, hxv, Builtin.clear_, hut, hzr, hrun]
/-- An append: in place where there is room, else in a new row. -/
theorem HO_appC (hti : TiOK P ti) {d : Option Tmp} {x y : Operand} {t u ty e : TypeId} {ps : String} {af : Array Edge} {g : Option (Nat × Bool)} {rest : List Oper} {o sz n c m : Nat} {l l1 : List AV} {l2 : Nat → List AV} {ys : List D} {zl : List AV} (hg : gd ops σ ⟨d, .call ⟨.builtin .append, #[x, y], #[t, u]⟩, ty, ps, af, g⟩ = some true)
    (hx : σ.ev G x = .csl o 0 sz n c) (hy : srcOf σ.r sz (σ.ev G y) = some (m, ys)) (hl : objOf σ.r o = some l) (hc : 0 < c) (ht : tK ti t = .sl e) (hu : isSrc (tK ti u) = true) (hi : tI ti e = true ∧ tS ti e = sz) (hz : tZ ti e = some zl) (hpos : 0 < sz) (hm : 0 < m)
    (h63 : n + m ≤ 9223372036854775807) (hb : (n + m) * tB ti e ≤ 140737488355328) (hd : ((⟨d, .call ⟨.builtin .append, #[x, y], #[t, u]⟩, ty, ps, af, g⟩ : Oper) :: rest).all (dstOK N) = true) (hkp : kpFree M (rest.length + 1) = true)
    (hr1 : n + m ≤ c → l.take (n * sz) ++ ys.map .d ++ l.drop (n * sz + m * sz) = l1) (hr2 : ∀ k, l.take (n * sz) ++ ys.map .d ++ repA zl k = l2 k)
    (hk1 : n + m ≤ c → EV P ti G N ops rest M (σ.putR d (.csl o 0 sz (n + m) c) (σ.r.set o (some (.obj l1)))))
    (hk2 : c < n + m → ∀ k : Nat, EV P ti G N ops rest M (σ.putR d (.csl σ.r.length 0 sz (n + m) (n + m + k)) (σ.r ++ [some (.obj (l2 k))]))) : HO P ti G N ops (⟨d, .call ⟨.builtin .append, #[x, y], #[t, u]⟩, ty, ps, af, g⟩ :: rest) M σ := by
  obtain ⟨s, bb, z, hte⟩ := tK_sl ht
  obtain ⟨ie, hee, hsz, hby, _⟩ := tI_info hti hi.1
  have hzz := tZ_zero hz hee
  obtain ⟨iu, hue, hsrc⟩ := tK_src hu
  rw [hi.2] at hsz
  subst hsz
  rw [hby] at hb
  refine HO_sem hti (fun q : Option Nat => match q with | none => .csl o 0 ie.size (n + m) c | some k => .csl σ.r.length 0 ie.size (n + m) (n + m + k))
    (fun q => match q with | none => σ.r.set o (some (.obj (l.take (n * ie.size) ++ ys.map .d ++ l.drop (n * ie.size + m * ie.size)))) | some k => σ.r ++ [some (.obj (l.take (n * ie.size) ++ ys.map .d ++ repA zl k))])
    (fun q => match q with | none => n + m ≤ c | some k => c < n + m) hg hd rfl (fun E w a hR => ?_) rfl (fun q hq => match q, hq with | none, hq => by have := hk1 hq; rw [← hr1 hq] at this; exact this | some k, hq => by have := hk2 hq k; rw [← hr2 k] at this; exact this)
  have hG := hR.good
  obtain ⟨hut, _⟩ := hti _ _ hte
  obtain ⟨_, fe, hfe, hfs, hfb, hfz, hzs, _⟩ := hti _ _ hee
  obtain ⟨huu, _⟩ := hti _ _ hue
  have h1 := ev_sound hR x
  rw [hx] at h1
  simp only [RA] at h1
  obtain ⟨hol, A, hxv, hnc, h1⟩ := h1
  obtain ⟨hf1, h1⟩ := h1 l (objOf_some hl)
  obtain ⟨b, hbo, rfl⟩ := h1 hc
  obtain ⟨hly, hlen, news, hnews, hf1', hf2⟩ := srcOf_sound (P := P) hG (ev_sound hR y) hy
  have hnl := RL_length _ _ hnews
  have hmuln : n * ie.size ≤ c * ie.size := Nat.mul_le_mul_right _ hnc
  by_cases hroom : n + m ≤ c
  · have hmul : n * ie.size + m * ie.size ≤ c * ie.size := by rw [← Nat.add_mul]; exact Nat.mul_le_mul_right _ hroom
    have hkl : (ys.map AV.d).length = m * ie.size := by rw [List.length_map, hly]
    obtain ⟨w', E', hrun, hgood, hst⟩ := obj_put (P := P) hG (off := n * ie.size) hl hbo (RAL_map_d _ _ hnews) (values_wide hnews) (by rw [hkl]; omega)
    rw [hkl] at hgood hst
    rw [← hfs] at hf1'
    have ha : (⟨b, 0, none⟩ : Addr).add (n * fe.size) = ⟨b, n * ie.size, none⟩ := by rw [addr_plain, Nat.zero_add, hfs]
    refine ⟨none, .slice (some ⟨b, 0, none⟩) (n + m) c, w', E', hroom, ?_, ?_, hgood, hst, .inl hkp⟩
    · rcases hsrc with ⟨e', he'⟩ | he' <;> simp [execOp, resolve, invoke, builtin, hxv, Builtin.append_, run_underlying hut, run_underlying huu, he', sizeOf, typeInfo, hfe, hlen, hf1', hroom, ha, hrun]
    · have hbl : E'.bl o = some b := by
        have h2 := hst.names.obj o (l.take (n * ie.size) ++ ys.map .d ++ l.drop (n * ie.size + m * ie.size)) hol (by
          rw [List.getElem?_set_self hol])
        obtain ⟨l2, _, _, h3⟩ := h2
        rw [h3, hbo]
      simp only [RA]
      refine ⟨by simpa using hol, _, rfl, hroom, fun l' hl' => ?_⟩
      rw [List.getElem?_set_self hol] at hl'
      injection hl' with hl'; injection hl' with hl'; injection hl' with hl'; subst hl'
      refine ⟨?_, fun _ => ⟨b, hbl, rfl⟩⟩
      simp only [List.length_append, List.length_take, List.length_drop, hkl]
      omega
  · obtain ⟨olds, ho1, ho2, ho3⟩ := csl_cells (P := P) (c := c) hG (sz := ie.size) (n := n) hl (by omega) hbo
    rw [← hfs] at hf2 ho3
    have hrun := app_grow (P := P) (ty := ty) hut huu hsrc hfe hfz ho3 hlen hf2 (by omega) (by omega) (growslice_fits (by omega) (by rw [hfb]; exact hb))
    have hge := grownCap_ge w (n + m) c e
    obtain ⟨z1, z2⟩ := zeros_rows (E := E) (r := σ.r) (w := w) hzz hzs hpos (grownCap w (n + m) c e - (n + m))
    have hzl := zeroA_len hzz
    obtain ⟨E', n1, n2, n3⟩ := new_row (sz := ie.size) (n := n + m) (c := n + m + (grownCap w (n + m) c e - (n + m))) (l := l.take (n * ie.size) ++ ys.map .d ++ repA zl (grownCap w (n + m) c e - (n + m))) (vs := olds.toArray ++ news.toArray ++ Builtin.zeroCells ie.zero.cells (grownCap w (n + m) c e - (n + m))) (e := e) hG (by
        simp only [Array.toList_append]
        exact RAL_append _ _ _ _ (RAL_append _ _ _ _ ho1 (RAL_map_d _ _ hnews)) z1) (by
        intro q hq
        simp only [Array.toList_append, List.mem_append] at hq
        rcases hq with (hq | hq) | hq
        · exact ho2 q hq
        · exact RL_one _ _ hnews q hq
        · exact z2 q hq) (by omega) (by
        simp only [List.length_append, List.length_take, List.length_map, hly, repA_length, hzl, hzs, Nat.add_mul]
        rw [Nat.min_eq_left (by omega)]; exact Nat.le_refl _)
    refine ⟨some (grownCap w (n + m) c e - (n + m)), _, _, _, by omega, ?_, n1, n2, n3, .inl hkp⟩
    have hcc : n + m + (grownCap w (n + m) c e - (n + m)) = grownCap w (n + m) c e := by omega
    rw [hcc]
    simp [execOp, resolve, invoke, builtin, hxv, hrun]
/-- An append of zeros where there is no room. -/
theorem HO_appZ (hti : TiOK P ti) {d : Option Tmp} {x y : Operand} {t u ty e : TypeId} {ps : String} {af : Array Edge} {g : Option (Nat × Bool)} {rest : List Oper} {o sz n c q : Nat} {l : List AV} {l2 : Nat → List AV} {zl : List AV} (hg : gd ops σ ⟨d, .call ⟨.builtin .append, #[x, y], #[t, u]⟩, ty, ps, af, g⟩ = some true)
    (hx : σ.ev G x = .csl o 0 sz n c) (hy : σ.ev G y = .d (.c (.int .i64 q))) (hl : objOf σ.r o = some l) (hc : 0 < c) (ht : tK ti t = .sl e) (hu : tK ti u = .int .i64) (hi : tI ti e = true ∧ tS ti e = sz) (hz : tZ ti e = some zl) (hpos : 0 < sz) (hq : 0 < q) (hgr : c < n + q)
    (h63 : n + q ≤ 9223372036854775807) (hb : (n + q) * tB ti e ≤ 140737488355328) (hd : ((⟨d, .call ⟨.builtin .append, #[x, y], #[t, u]⟩, ty, ps, af, g⟩ : Oper) :: rest).all (dstOK N) = true) (hkp : kpFree M (rest.length + 1) = true)
    (hr2 : ∀ k, l.take (n * sz) ++ repA zl q ++ repA zl k = l2 k) (hk : ∀ k : Nat, EV P ti G N ops rest M (σ.putR d (.csl σ.r.length 0 sz (n + q) (n + q + k)) (σ.r ++ [some (.obj (l2 k))]))) : HO P ti G N ops (⟨d, .call ⟨.builtin .append, #[x, y], #[t, u]⟩, ty, ps, af, g⟩ :: rest) M σ := by
  obtain ⟨s, bb, z, hte⟩ := tK_sl ht
  obtain ⟨ie, hee, hsz, hby, _⟩ := tI_info hti hi.1
  have hzz := tZ_zero hz hee
  obtain ⟨s2, bb2, z2_, hue⟩ : ∃ s b z, ti u = some ⟨.int .i64, s, b, z⟩ := tK_int hu
  rw [hi.2] at hsz
  subst hsz
  rw [hby] at hb
  refine HO_sem hti (fun k : Nat => .csl σ.r.length 0 ie.size (n + q) (n + q + k)) (fun k => σ.r ++ [some (.obj (l.take (n * ie.size) ++ repA zl q ++ repA zl k))]) (fun _ => True) hg hd rfl (fun E w a hR => ?_) rfl fun k _ => by rw [hr2 k]; exact hk k
  have hG := hR.good
  obtain ⟨hut, _⟩ := hti _ _ hte
  obtain ⟨_, fe, hfe, hfs, hfb, hfz, hzs, _⟩ := hti _ _ hee
  obtain ⟨huu, _⟩ := hti _ _ hue
  have h1 := ev_sound hR x
  have h2 := ev_sound hR y
  rw [hx] at h1
  rw [hy] at h2
  simp only [RA, RD] at h1 h2
  obtain ⟨hol, A, hxv, hnc, h1⟩ := h1
  obtain ⟨hyv, _⟩ := h2
  obtain ⟨hf1, h1⟩ := h1 l (objOf_some hl)
  obtain ⟨b, hbo, rfl⟩ := h1 hc
  have hmuln : n * ie.size ≤ c * ie.size := Nat.mul_le_mul_right _ hnc
  obtain ⟨olds, ho1, ho2, ho3⟩ := csl_cells (P := P) (c := c) hG (sz := ie.size) (n := n) hl (by omega) hbo
  rw [← hfs] at ho3
  have hrun := Lib.run_append_grow_zeros w t u ty e fe ie.zero .i64 .i64 hut huu hfe hfz (some ⟨b, 0, none⟩) n c olds ho3 q hq (by omega) hgr (by omega) (by
    have : q * fe.bytes ≤ (n + q) * ie.bytes := by rw [hfb]; exact Nat.mul_le_mul_right _ (by omega)
    omega) (growslice_fits (by omega) (by rw [hfb]; exact hb))
  have hge := grownCap_ge w (n + q) c e
  obtain ⟨z1, z2⟩ := zeros_rows (E := E) (r := σ.r) (w := w) hzz hzs hpos (grownCap w (n + q) c e - (n + q))
  obtain ⟨z3, z4⟩ := zeros_rows (E := E) (r := σ.r) (w := w) hzz hzs hpos q
  have hzl := zeroA_len hzz
  obtain ⟨E', n1, n2, n3⟩ := new_row (sz := ie.size) (n := n + q) (c := n + q + (grownCap w (n + q) c e - (n + q))) (l := l.take (n * ie.size) ++ repA zl q ++ repA zl (grownCap w (n + q) c e - (n + q))) (vs := olds.toArray ++ Builtin.zeroCells ie.zero.cells q ++ Builtin.zeroCells ie.zero.cells (grownCap w (n + q) c e - (n + q))) (e := e) hG (by
      simp only [Array.toList_append]
      exact RAL_append _ _ _ _ (RAL_append _ _ _ _ ho1 z3) z1) (by
      intro p hp
      simp only [Array.toList_append, List.mem_append] at hp
      rcases hp with (hp | hp) | hp
      · exact ho2 p hp
      · exact z4 p hp
      · exact z2 p hp) (by omega) (by
      simp only [List.length_append, List.length_take, repA_length, hzl, hzs, Nat.add_mul]
      rw [Nat.min_eq_left (by omega)]; exact Nat.le_refl _)
  refine ⟨grownCap w (n + q) c e - (n + q), _, _, _, trivial, ?_, n1, n2, n3, .inl hkp⟩
  have hcc : n + q + (grownCap w (n + q) c e - (n + q)) = grownCap w (n + q) c e := by omega
  rw [hcc]
  simp [execOp, resolve, invoke, builtin, hxv, hyv, hrun]
/-- An append of nothing. -/
theorem HO_app0 (hti : TiOK P ti) {d : Option Tmp} {x y : Operand} {t u ty e : TypeId} {ps : String} {af : Array Edge} {g : Option (Nat × Bool)} {rest : List Oper} {sz n : Nat} {mo : Option Mo} {xs : List D} (hg : gd ops σ ⟨d, .call ⟨.builtin .append, #[x, y], #[t, u]⟩, ty, ps, af, g⟩ = some true)
    (ht : tK ti t = .sl e) (hu : isSrc (tK ti u) = true) (hi : tI ti e = true ∧ tS ti e = sz) (hx : slOf sz (σ.ev G x) = some (mo, n, xs)) (hy : srcOf σ.r sz (σ.ev G y) = some (0, []))
    (hd : ((⟨d, .call ⟨.builtin .append, #[x, y], #[t, u]⟩, ty, ps, af, g⟩ : Oper) :: rest).all (dstOK N) = true)
    (hk : EV P ti G N ops rest M (σ.putR d (σ.ev G x) σ.r)) : HO P ti G N ops (⟨d, .call ⟨.builtin .append, #[x, y], #[t, u]⟩, ty, ps, af, g⟩ :: rest) M σ := by
  obtain ⟨s, bb, z, hte⟩ := tK_sl ht
  obtain ⟨ie, hee, hsz, hby, _⟩ := tI_info hti hi.1
  obtain ⟨iu, hue, hsrc⟩ := tK_src hu
  rw [hi.2] at hsz
  subst hsz
  refine HO_sem hti (fun _ : Unit => σ.ev G x) (fun _ => σ.r) (fun _ => True) hg hd rfl (fun E w a hR => ?_) rfl fun _ _ => hk
  have hG := hR.good
  obtain ⟨hut, _⟩ := hti _ _ hte
  obtain ⟨_, fe, hfe, hfs, hfb, hfz, hzs, _⟩ := hti _ _ hee
  obtain ⟨huu, _⟩ := hti _ _ hue
  have h1 := ev_sound hR x
  obtain ⟨hlx, A, c, hxv, hnc, hrx, hmo⟩ := slOf_sound h1 hx
  obtain ⟨hly, hlen, news, hnews, hf1, hf2⟩ := srcOf_sound (P := P) hG (ev_sound hR y) hy
  have hn0 : news = [] := List.eq_nil_of_length_eq_zero (by rw [RL_length _ _ hnews]; rfl)
  subst hn0
  rw [← hfs] at hf1
  have hrun := app_zero (P := P) (w := w) (ty := ty) hut huu hsrc hfe hnc hlen hf1 (A := A)
  rw [← hxv] at hrun
  refine ⟨(), _, w, E, trivial, ?_, h1, hG, Step.refl _ _ _, .inr (Keeps.refl w)⟩
  simp [execOp, resolve, invoke, builtin, hrun]
/-- The library's question whether two slices overlap: of two rows of the call's own they don't. -/
theorem HO_overlaps (hti : TiOK P ti) {op_ : Oper} {rest : List Oper} {f : FuncId} {fn : Func} {x y : Operand} {ts : Array TypeId} {tS tR e : TypeId} {o off sz n o2 off2 sz2 n2 c2 : Nat} {l l2 : List AV}
    (ho : op_.op = .call ⟨.value (.func f), #[x, y], ts⟩) (hg : gd ops σ op_ = some true) (hf : P.funcs[f]? = some fn) (hname : (fn.name == "runtime.NumGoroutine") = false) (hb : fn.body.isNone = true) (hn : Extern.findNext fn = none) (he : Extern.find fn = some (Extern.SlicesOverlaps.overlaps #[tS, tS] #[tR]))
    (ht : tK ti tS = .sl e) (hi : tI ti e = true) (hx : σ.ev G x = .osl o off sz n) (hy : σ.ev G y = .csl o2 off2 sz2 n2 c2) (hl : objOf σ.r o = some l) (hl2 : objOf σ.r o2 = some l2) (hne : o ≠ o2) (hn0 : 0 < n) (hc0 : 0 < c2) (hl0 : 0 < l2.length)
    (hd : (op_ :: rest).all (dstOK N) = true) (hk : EV P ti G N ops rest M (σ.putR op_.dst (.d (.c (.bool false))) σ.r)) : HO P ti G N ops (op_ :: rest) M σ := by
  obtain ⟨s, bb, z, hte⟩ := tK_sl ht
  obtain ⟨ie, hee, _, _, hsz⟩ := tI_info hti hi
  refine HO_sem hti (fun _ : Unit => .d (.c (.bool false))) (fun _ => σ.r) (fun _ => True) hg hd (by unfold isEff; rw [ho]; rfl) (fun E w a hR => ?_) (by rw [ho]; rfl) fun _ _ => hk
  have hG := hR.good
  obtain ⟨hut, _⟩ := hti _ _ hte
  have h1 := ev_sound hR x
  have h2 := ev_sound hR y
  rw [hx] at h1
  rw [hy] at h2
  simp only [RA] at h1 h2
  obtain ⟨_, A, c, hxv, hnc, h1⟩ := h1
  obtain ⟨_, A2, hyv, hnc2, h2⟩ := h2
  obtain ⟨_, h1⟩ := h1 l (objOf_some hl)
  obtain ⟨_, h2⟩ := h2 l2 (objOf_some hl2)
  obtain ⟨b, hbo, rfl⟩ := h1 hn0
  obtain ⟨b2, hbo2, rfl⟩ := h2 hc0
  obtain ⟨b', vs, el, hb', hh, hral, _, _⟩ := obj_cell hG hl
  rw [hbo] at hb'; injection hb' with hb'; subst hb'
  obtain ⟨b2', vs2, el2, hb2', hh2, hral2, _, _⟩ := obj_cell hG hl2
  rw [hbo2] at hb2'; injection hb2' with hb2'; subst hb2'
  have hv2 := RAL_length _ _ hral2
  simp only [Array.length_toList] at hv2
  have hbb : b ≠ b2 := fun h => hne (hG.one o o2 _ _ b (objOf_some hl) (objOf_some hl2) hbo (h ▸ hbo2))
  have hext := run_callFunc_extern hf hname hb hn he #[.slice (some ⟨b, off, none⟩) n c, .slice (some ⟨b2, off2, none⟩) n2 c2] w
  rw [Lib.run_overlaps_apart w tS tR e hut ie.size hsz ⟨b, off, none⟩ ⟨b2, off2, none⟩ n c n2 c2 hbb el el2 vs.size vs2.size (by unfold World.shape?; rw [hh]) (by unfold World.shape?; rw [hh2]) (by omega) (by simp [World.frozen?, hh]) (by simp [World.frozen?, hh])] at hext
  refine ⟨(), .bool false, w, E, trivial, ?_, by simp [RA, RD, Value.oneCell'], hG, Step.refl _ _ _, .inr (Keeps.refl w)⟩
  have hfv : a.eval (.func f) = .func (.func f) #[] #[] := rfl
  have hargs : (#[] : Array Value) ++ #[x, y].map a.eval ++ #[] = #[.slice (some ⟨b, off, none⟩) n c, .slice (some ⟨b2, off2, none⟩) n2 c2] := by simp [hxv, hyv]
  simp only [execOp, ho, resolve, hfv, Sem.run_bind, Sem.run_pure, Result.andThen_ok, Deferred.ofValue, invoke]
  rw [hargs, hext]
  rfl
end
end Go.Proofs.Ythdjblfiiogmgaa
/- The frame of these proofs, part ZM: ranges over functions. -/
set_option linter.unusedVariables false
set_option linter.unusedSimpArgs false
namespace Go.Proofs.Ythdjblfiiogmgaa
open Go
section
variable {G : GR} {E E' : Env} {r r' : Rs} {w w' : World}
theorem setOb_size (w : World) (l : Nat) (o : Obj) : (World.setOb w l o).heap.size = w.heap.size := by simp [World.setOb]
theorem setOb_same {w : World} {l : Nat} {o : Obj} (h : l < w.heap.size) : (World.setOb w l o).heap[l]? = some o := by simp [World.setOb, h]
/-- A step, behind which a new block is turned. -/
theorem step_ob_new (hG : Good G E r w) (hS : Step E r w E' r' w') {l : Nat} (o : Obj) (hl : w.heap.size ≤ l) : Step E r w E' r' (World.setOb w' l o) := by
  refine ⟨hS.os, hS.tape, hS.output, by rw [setOb_size]; exact hS.size, fun b hb hn => ?_, hS.own, ⟨hS.lasts.mark, fun a ha => ?_⟩, fun b s hs => ?_, hS.names⟩
  · have := hS.block b hb hn
    exact ⟨(setMap_other w' l o (by omega)).trans this.1, this.2⟩
  · have hlt := hG.pub_lt ha
    exact (World.cell?_of_block (setMap_other w' l o (by omega))).trans (hS.lasts.cell a ha)
  · have h1 := hS.shape b s hs
    have hlt : b < w.heap.size := by
      unfold World.shape? at hs
      rcases Nat.lt_or_ge b w.heap.size with h | h
      · exact h
      · simp [Array.getElem?_eq_none h] at hs
    unfold World.shape? at h1 ⊢
    rw [setMap_other w' l o (by omega)]
    exact h1
theorem cell_noc {w : World} {l : Nat} {o : Obj} (h : w.heap[l]? = some o) (hn : noCells o = true) {a : Addr} (ha : a.block = l) : w.cell? a = none := by
  unfold World.cell?
  rw [ha, h]
  cases o <;> first | (cases hn; done) | rfl
/-- An object that is no row is turned, by one that is none. -/
theorem lasts_ob {w : World} {l : Nat} {o o' : Obj} (T : Nat → Nat) (hh : w.heap[l]? = some o) (hno : noCells o = true) (hno' : noCells o' = true) : Lasts T w T (World.setOb w l o') ∧ ShapeLasts w (World.setOb w l o') := by
  have hlt := (Array.getElem?_eq_some_iff.1 hh).1
  refine ⟨⟨fun _ => Nat.le_refl _, fun a ha => ?_⟩, fun b s hs => ?_⟩
  · by_cases hb : a.block = l
    · rw [cell_noc hh hno hb, cell_noc (setOb_same hlt) hno' hb]
    · exact World.cell?_of_block (setMap_other w l o' hb)
  · by_cases hb : b = l
    · subst hb
      unfold World.shape? at hs
      rw [hh] at hs
      cases o <;> first | (cases hno; done) | (simp at hs; done)
    · unfold World.shape? at hs ⊢
      rw [setMap_other w l o' hb]; exact hs
/-- What the call has is there still when a block that is nobody's is turned. -/
theorem good_ob_other (hG : Good G E r w) {l : Nat} {o o' : Obj} (hh : w.heap[l]? = some o) (hno : noCells o = true) (hno' : noCells o' = true) (hn : ¬ Own E r l) : Good G E r (World.setOb w l o') := by
  obtain ⟨hla, hsh⟩ := lasts_ob E.T hh hno hno'
  have hne : ∀ i x b, r[i]? = some (some x) → E.bl i = some b → b ≠ l := fun i x b hi hb e => hn ⟨i, x, hi, e ▸ hb⟩
  refine ⟨fun i k b hi hb => ?_, fun i m hi => ?_, fun i m hi => ?_, hG.one, fun b hb => hG.fresh b (by rwa [setOb_size] at hb), fun g => RM.lasts hla _ _ (hG.glob g)⟩
  · obtain ⟨h1, cur, e, h2, h3⟩ := hG.tok i k b hi hb
    exact ⟨h1, cur, e, (setMap_other w l o' (hne i _ b hi hb)).trans h2, h3⟩
  · obtain ⟨b, hb, h1, vs, e, h2, h3, h4⟩ := hG.obj i m hi
    exact ⟨b, hb, h1, vs, e, (setMap_other w l o' (hne i _ b hi hb)).trans h2, RAL.lasts hla (Names.refl _ _) hsh _ _ h3, h4⟩
  · obtain ⟨b, hb, h1, h2⟩ := hG.map i m hi
    exact ⟨b, hb, h1, h2.lasts (T' := E.T) (setMap_other w l o' (hne i _ b hi hb)) hla⟩
theorem Good.gr {G' : GR} (h : G'.g = G.g) (hG : Good G E r w) : Good G' E r w := ⟨hG.tok, hG.obj, hG.map, hG.one, hG.fresh, fun g => by have := hG.glob g; show RM E.T w (G'.g g) _; rw [h]; exact this⟩
end
/-- A contract says the same in a round, and where a range over a function stands. -/
theorem AC.gr {P : Program} {G G' : GR} (hg : G'.g = G.g) {f : FuncId} {args : List AV} {r : Rs} {O : AV → Rs → Prop} (h : AC P G f args r O) : AC P G' f args r O :=
  ⟨h.1, fun E w vals hG hA => (h.2 E w vals (hG.gr hg.symm) hA).mono fun e w' ⟨v, x, r', E', he, ho, hr, hgd, hs⟩ => ⟨v, x, r', E', he, ho, hr, hgd.gr hg, hs⟩⟩
theorem AC.at {P : Program} {G : GR} {n : Nat} {f : FuncId} {args : List AV} {r : Rs} {O : AV → Rs → Prop} (h : AC P G f args r O) : AC P (G.at n) f args r O := AC.gr (G := G) (G' := G.at n) rfl h
theorem AC.inR {P : Program} {G : GR} {l : Nat} {f : FuncId} {args : List AV} {r : Rs} {O : AV → Rs → Prop} (h : AC P G f args r O) : AC P (G.inR l) f args r O := AC.gr (G := G) (G' := G.inR l) rfl h
section
variable {P : Program} {ti : Ti} {G : GR} {N : Nat}
theorem allocs_new (w : World) (o o' : Obj) : ((w.alloc o).alloc o').heap[w.heap.size]? = some o ∧ ((w.alloc o).alloc o').heap[w.heap.size + 1]? = some o' ∧ ((w.alloc o).alloc o').heap.size = w.heap.size + 2 := by
  refine ⟨?_, ?_, by simp⟩
  · rw [heap_alloc_old (w.alloc o) o' w.heap.size (by simp)]
    exact World.alloc_heap_new w o
  · have := World.alloc_heap_new (w.alloc o) o'
    rwa [World.size_alloc] at this
/-- A range over a function that yields nothing. -/
theorem HC_range0 {g : Operand} {ps : Array Tmp} {assign body : Code} {K : KD} {σ : St} {f : FuncId} {first cap : List AV} {args : Nat → List AV} {r : Rs} {O : AV → Rs → Prop} {n : Nat} (ts : List Nat)
    (h : ∀ l, AC P G f (args l) r O) (hro : G.ro = none) (hn0 : G.n0 = some n) (hg : σ.ev G g = .fn (.func f) first cap) (hnd : ts.Nodup) (hlt : ∀ t ∈ ts, t < σ.r.length)
    (hw : ∀ l, WkAs (first ++ [.fn (.yield l) [] []] ++ cap) (renL (nm ts σ.r.length) (args l))) (hwf : ∀ l, wfL r.length (args l) = true) (hh : HandOK (nm ts σ.r.length) σ.r r ts) (hwr : wfRs r.length r = true)
    (hk : ∀ v r', O v r' → r.length ≤ r'.length → A P ti G N K .normal ⟨σ.b, σ.l, putAll (nm ts σ.r.length) σ.r ts r'⟩) : HC P ti G N (.rangeFunc g ps assign body) K σ := by
  intro E0 r0 w0 E a w hR hS
  have hF : fcR G = Fence.wide := by rw [fcR, hro]; rfl
  rw [hF]
  refine wpIn_rangeFunc ?_
  intro fn _
  have hev := ev_sound hR g
  rw [hg] at hev
  simp only [RA] at hev
  obtain ⟨vs, us, hp, hr1, hr2⟩ := hev
  obtain ⟨L0, hL0⟩ : ∃ L0 : Loop, L0 = { state := .ready, pending := none, fn, tmps := a.tmps, params := ps, assign, body, defers := w.heap.size } := ⟨_, rfl⟩
  obtain ⟨w1, hw1⟩ : ∃ w1, w1 = (w.alloc (.deferred (some []))).alloc (.loop L0) := ⟨_, rfl⟩
  obtain ⟨hD, hLp, hsz⟩ := allocs_new w (.deferred (some [])) (.loop L0)
  rw [← hw1] at hD hLp hsz
  have hs1 := step_alloc hR.good (.deferred (some [])) 0
  have hg1 := good_alloc hR.good (.deferred (some [])) 0
  have hs2 := step_alloc hg1 (.loop L0) 0
  have hg2 := good_alloc hg1 (.loop L0) 0
  rw [← hw1] at hs2 hg2
  have hst := hs1.trans hs2
  have hbl : (⟨updN (⟨updN E.T w.heap.size 0, E.bl⟩ : Env).T (w.alloc (.deferred (some []))).heap.size 0, (⟨updN E.T w.heap.size 0, E.bl⟩ : Env).bl⟩ : Env).bl = E.bl := rfl
  have hT1 : ∀ b, w.heap.size ≤ b → (⟨updN (⟨updN E.T w.heap.size 0, E.bl⟩ : Env).T (w.alloc (.deferred (some []))).heap.size 0, (⟨updN E.T w.heap.size 0, E.bl⟩ : Env).bl⟩ : Env).T b = 0 := by
    intro b hb
    simp only [updN]
    split
    · rfl
    · split
      · rfl
      · exact hR.good.fresh b hb
  generalize (⟨updN (⟨updN E.T w.heap.size 0, E.bl⟩ : Env).T (w.alloc (.deferred (some []))).heap.size 0, (⟨updN E.T w.heap.size 0, E.bl⟩ : Env).bl⟩ : Env) = E1 at *
  obtain ⟨hc1, hc2⟩ := h (w.heap.size + 1)
  refine ⟨w.heap.size + 1, [{ target := .collected w.heap.size, args := #[] }], w1, { target := .fn (.func f) us, args := vs ++ #[Value.func (.yield (w.heap.size + 1)) #[] #[]] }, w1, f,
    vs ++ #[Value.func (.yield (w.heap.size + 1)) #[] #[]] ++ us, w1, ?_, ?_, fun f' _ => trivial, ?_, fun hd => (by cases hd), ?_⟩
  · rw [hw1, hL0]; exact run_enterLoop_outer _ _ _ _ _
  · simp only [resolve, rangeCall, hp, Deferred.ofValue]
    simp [Act.eval, Frame.eval]
  · simp [invoke, go_sem, hc1]
  · have hargs : RAL E1 σ.r w1 (first ++ [.fn (.yield (w.heap.size + 1)) [] []] ++ cap) (vs ++ #[Value.func (.yield (w.heap.size + 1)) #[] #[]] ++ us).toList := by
      simp only [Array.toList_append]
      exact RAL_append _ _ _ _ (RAL_append _ _ _ _ (hr1.step hst) ⟨_, _, rfl, ⟨#[], #[], rfl, rfl, rfl⟩, rfl⟩) (hr2.step hst)
    obtain ⟨hl2, hh2⟩ := HandOK_at hh
    refine callsIn_wide.2 ((call_core (h (w.heap.size + 1)) hnd hlt hg2 (WkAs_sound (hw _) hargs) (hwf _) hl2 (fun j x hj => hh2 j x _ hj (nm_lt (by have := (List.getElem?_eq_some_iff.1 hj).1; omega))) hwr).mono fun e w' hq => ?_)
    obtain ⟨v, x, r', E', rfl, hO, hle, hra, hgood, hst3, _⟩ := hq
    have hOw : ∀ b, w.heap.size ≤ b → ¬ Own E1 σ.r b := fun b hb ⟨i, y, hi, hbi⟩ => by
      rw [hbl] at hbi
      have := hR.good.own_lt ⟨i, y, hi, hbi⟩; omega
    have hOw2 : ∀ b, w.heap.size ≤ b → b < w1.heap.size → ¬ Own E' (putAll (nm ts σ.r.length) σ.r ts r') b := fun b hb hb2 ho => by
      rcases hst3.own b ho with h1 | h1
      · exact hOw b hb h1
      · omega
    have hl3 := hst3.block (w.heap.size + 1) (by omega) (hOw _ (by omega))
    have hd3 := hst3.block w.heap.size (by omega) (hOw _ (by omega))
    have hl4 : w'.heap[w.heap.size + 1]? = some (.loop L0) := hl3.1.trans hLp
    have hs4 := step_ob_new hR.good (hst.trans hst3) (.loop { L0 with state := .exhausted }) (l := w.heap.size + 1) (by omega)
    have hg4 := good_ob_other (o' := .loop { L0 with state := .exhausted }) hgood hl4 rfl rfl (hOw2 _ (by omega) (by omega))
    refine ⟨none, World.setOb w' (w.heap.size + 1) (.loop { L0 with state := .exhausted }), ?_, ?_⟩
    · refine (run_endLoop (P := P) hl4 (by rw [hL0]; simp)).trans ?_
      have hpn : L0.pending = none := by rw [hL0]
      simp only [hpn]; rfl
    · refine ⟨⟨σ.b, σ.l, putAll (nm ts σ.r.length) σ.r ts r'⟩, E', hk v r' hO hle, ⟨hR.size, fun i => (hR.slot i).step hs4, hg4, ?_⟩, hS.trans hs4⟩
      have hd := hR.defers.step hs4
      rw [hn0] at hd ⊢
      refine ⟨⟨hd.1.1, ?_⟩, fun d hm => ?_⟩
      · refine List.nodup_cons.2 ⟨fun hm => ?_, hd.1.2⟩
        have := hR.defers
        rw [hn0] at this
        obtain ⟨D, h1, _, h3, _⟩ := this.2 _ hm
        have := (Array.getElem?_eq_some_iff.1 h3).1
        injection h1 with h1
        injection h1 with h1
        omega
      simp only [List.cons_append, List.nil_append, List.mem_cons] at hm
      rcases hm with rfl | hm
      · refine ⟨w.heap.size, rfl, ?_, ?_, hOw2 _ (by omega) (by omega)⟩
        · have := hR.defers
          rw [hn0] at this
          exact this.1.1
        · exact (setMap_other w' _ _ (by omega)).trans (hd3.1.trans hD)
      · exact hd.2 d hm
theorem R_range {g : Operand} {ps : Array Tmp} {assign body : Code} {K : KD} {σ : St} (h : HC P ti G N (.rangeFunc g ps assign body) K σ) : R P ti G N (.rangeFunc g ps assign body) K σ := h
/-- A function's end, where ranges over functions have left their marks. -/
theorem leave_marks (hti : TiOK P ti) {fn : Func} {O : AV → Rs → Prop} {σ : St} {E0 E : Env} {r0 : Rs} {w0 : World} (hG0 : Good G E0 r0 w0) {tmps : Array Value} {v : AV} (hv : resA ti σ fn.results.toList = some v) (hO : O v σ.r) : ∀ (ds : List Deferred) (w : World),
    tmps.size = N → (∀ i, RA E σ.r w (σ.get i) (tmps.getD i undef)) → Good G E σ.r w → DefOK (some w0.heap.size) E σ.r w ds → Step E0 r0 w0 E σ.r w →
    LeavesInM Fence.wide 0 P fn tmps (fun e w' => ∃ v x r' E', e = .returned x ∧ O v r' ∧ RA E' r' w' v x ∧ Good G E' r' w' ∧ Step E0 r0 w0 E' r' w') ds .returning w
  | [], w, hs, hsl, hg, _, hst => by
    have hR : Rel { G with n0 := none } N E σ { tmps := tmps, defers := [] } w := ⟨hs, hsl, Good.gr (G' := { G with n0 := none }) (G := G) rfl hg, rfl⟩
    obtain ⟨z, hz, hr⟩ := results_sound hti hR hv
    exact ⟨z, hz, v, z, σ.r, E, rfl, hO, hr, hg, hst⟩
  | d :: ds, w, hs, hsl, hg, hd, hst => by
    obtain ⟨D, hdd, hD1, hD2, hD3⟩ := hd.2 d (by simp)
    obtain ⟨hla, hsh⟩ := lasts_ob E.T (o' := .deferred none) hD2 rfl rfl
    refine ⟨by simp, .inl ⟨D, World.setOb w D (.deferred none), by rw [hdd], run_takeDeferred hD2, ?_⟩⟩
    refine leave_marks hti hG0 hv hO ds _ hs (fun i => RA.lasts hla (Names.refl _ _) hsh _ _ (hsl i)) (good_ob_other hg hD2 rfl rfl hD3) ?_ (step_ob_new hG0 hst _ hD1)
    have hn := List.nodup_cons.1 hd.1.2
    refine ⟨⟨by rw [setOb_size]; exact hd.1.1, hn.2⟩, fun d' hd' => ?_⟩
    obtain ⟨D', h1, h2, h3, h4⟩ := hd.2 d' (by simp [hd'])
    refine ⟨D', h1, h2, (setMap_other w D _ fun e => ?_).trans h3, h4⟩
    subst e
    exact hn.1 (by rw [hdd, ← h1]; exact hd')
theorem AC_introM (hti : TiOK P ti) {f : FuncId} {fn : Func} {c : Code} {args : List AV} {r : Rs} {O : AV → Rs → Prop} (hcall : ∀ (as : Array Value) (w : World), (callFunc f as).run P w = .ok (.enter f as) w) (hf : P.funcs[f]? = some fn) (hb : fn.body = some c)
    (hn : args.length ≤ fn.ntmps) (hro : G.ro = none) (h : ∀ n, Holds P (G.at n) fn.ntmps c (retK ti fn.results.toList O) (initSt args r)) : AC P G f args r O := by
  refine ⟨hcall, fun E w vals hG hA => callsIn_wide.1 (callsIn_of_wp_marks (n := 0) hf hb trivial ?_)⟩
  have hF : fcR (G.at w.heap.size) = Fence.wide := by rw [fcR]; show ({ Fence.wide with round := G.ro } : Fence) = _; rw [hro]; rfl
  have hl := RAL_length _ _ hA
  simp only [Array.length_toList] at hl
  have hR : Rel (G.at w.heap.size) fn.ntmps E (initSt args r) { tmps := vals ++ Array.replicate (fn.ntmps - vals.size) undef, defers := [] } w := by
    refine ⟨by simp; omega, fun i => ?_, Good.gr (G' := G.at w.heap.size) (G := G) rfl hG, ⟨⟨Nat.le_refl _, by simp⟩, by simp⟩⟩
    exact init_slots hn hA i
  have hh := h w.heap.size E r w E _ w hR (Step.refl _ _ _)
  rw [hF] at hh
  refine wpIn_mono hh fun e a' w' hq => ?_
  obtain ⟨σ, E', hk, hR', hS⟩ := hq
  have fin : bindP (resA ti σ fn.results.toList) (fun v => O v σ.r) → LeavesInM Fence.wide 0 P fn a'.tmps (fun e w' => ∃ v x r' E', e = .returned x ∧ O v r' ∧ RA E' r' w' v x ∧ Good G E' r' w' ∧ Step E r w E' r' w') a'.defers .returning w' := by
    intro hb
    obtain ⟨v, hv, hO⟩ := bindP_elim hb
    exact leave_marks hti hG hv hO a'.defers w' hR'.size hR'.slot (Good.gr (G' := G) (G := G.at w.heap.size) rfl hR'.good) hR'.defers hS
  cases e with
  | normal => exact fin hk
  | ret => exact fin hk
  | exit id => exact hk.elim
  | goto l => exact hk.elim
  | panic ch => exact hk.elim
  | outgrown => exact hk.elim
theorem ACM_of_R (hti : TiOK P ti) {f : FuncId} {fn : Func} {c : Code} {args : List AV} {r : Rs} {O : AV → Rs → Prop} (hcall : ∀ (as : Array Value) (w : World), (callFunc f as).run P w = .ok (.enter f as) w) (hf : P.funcs[f]? = some fn) (hb : fn.body = some c)
    {N : Nat} {res : List ResultVar} (hN : fn.ntmps = N) (hres : fn.results.toList = res) (hn : args.length ≤ N) (h : ∀ n, R P ti (G.at n) N c (.ret res O) (initSt args r)) (hro : G.ro = none := by rfl) : AC P G f args r O := by
  subst hN; subst hres; exact AC_introM hti hcall hf hb hn hro fun n => run_sound hti c _ _ (h n)
end
end Go.Proofs.Ythdjblfiiogmgaa
/- The frame of these proofs, part ZN: ranges over functions whose rounds do something. -/
set_option linter.unusedVariables false
set_option linter.unusedSimpArgs false
namespace Go.Proofs.Ythdjblfiiogmgaa
open Go
/-- How a call of yield comes out. -/
def ClY (P : Program) (l : Nat) (vals : Array Value) (w : World) (R : Ending → World → Prop) : Prop :=
  ∃ y x, vals = #[y, x] ∧ ∃ fn tmps assign body, (Instr.yield l #[x]).run P w = .ok (.round l fn tmps assign body) w ∧ RoundIn Fence.wide 0 P l fn tmps assign body w R
theorem ClY.mono {P : Program} {l : Nat} {vals : Array Value} {w : World} {R R' : Ending → World → Prop} (h : ClY P l vals w R) (k : ∀ e w', R e w' → R' e w') : ClY P l vals w R' := by
  obtain ⟨y, x, hv, fn, tm, as, bd, h1, h2⟩ := h
  exact ⟨y, x, hv, fn, tm, as, bd, h1, h2.mono k⟩
/-- A contract of a loop's yield. -/
def AY (P : Program) (G : GR) (l : Nat) (L : Loop) (sl : List AV) (x : AV) (r : Rs) (O : AV → Rs → Prop) : Prop := ACx (ClY P l) G [.yv l L sl, x] r O
section
variable {P : Program} {ti : Ti} {G : GR} {N : Nat}
theorem HO_yield (hti : TiOK P ti) {ops : Array Oper} {o : Oper} {rest : List Oper} {K : KD} {σ : St} {l : Nat} {L : Loop} {sl : List AV} {x : AV} {r : Rs} {O : AV → Rs → Prop} {c : Call} {y z : Operand} (ts : List Nat) (h : AY P G l L sl x r O) (ho : o.op = .call c)
    (hg : gd ops σ o = some true) (hc : c.callee = .value y) (hca : c.args = #[z]) (hd : (o :: rest).all (dstOK N) = true) (hnd : ts.Nodup)
    (hs : (∀ t ∈ ts, t < σ.r.length) ∧ WkAs [σ.ev G y, σ.ev G z] (renL (nm ts σ.r.length) [.yv l L sl, x]) ∧ wfL r.length [.yv l L sl, x] = true ∧ HandOK (nm ts σ.r.length) σ.r r ts ∧ wfRs r.length r = true)
    (hk : ∀ v r', O v r' → r.length ≤ r'.length → EV P ti G N ops rest (.plain K) (σ.putR o.dst (ren (nm ts σ.r.length) v) (putAll (nm ts σ.r.length) σ.r ts r'))) : HO P ti G N ops (o :: rest) (.plain K) σ := by
  simp only [List.all_cons, Bool.and_eq_true] at hd
  intro E0 r0 w0 E a w hR hS
  unfold wpListIn
  rw [if_pos (gd_sound hR hg)]
  refine ⟨fun f _ => fcR_fn G f, ?_⟩
  rw [Oper.semAt_eq _ _ _ (fun c hc => by rw [ho] at hc; cases hc)]
  obtain ⟨hlt, hw, hwf, hh, hwr⟩ := hs
  have hargs : RAL E σ.r w [σ.ev G y, σ.ev G z] (#[a.eval y, a.eval z] : Array Value).toList := ⟨_, _, rfl, ev_sound hR y, _, _, rfl, ev_sound hR z, rfl⟩
  have hral := WkAs_sound hw hargs
  have hyv : a.eval y = .func (.yield l) #[] #[] := by
    simp only [renL, ren, RAL, RA] at hral
    obtain ⟨v, rest', he, ⟨hv, _⟩, _⟩ := hral
    simp only [List.cons.injEq] at he
    rw [he.1]; exact hv
  obtain ⟨hl2, hh⟩ := HandOK_at hh
  obtain ⟨y', x', hv, fn, tmps, as, bd, hrun, hround⟩ := call_coreX (Cl := ClY P l) (fun h k => h.mono k) h hnd hlt hR.good hral hwf hl2 (fun j x hj => hh j x _ hj (nm_lt (by have := (List.getElem?_eq_some_iff.1 hj).1; omega))) hwr
  have hx' : x' = a.eval z := by
    have := congrArg Array.toList hv
    simp only [List.cons.injEq] at this
    exact this.2.1.symm
  subst hx'
  have hex : (execOp a.eval o).run P w = .ok (.round l fn tmps as bd) w := by
    simp [execOp, ho, resolve, hc, hca, hyv, Deferred.ofValue, invoke, hrun]
  rw [hex, Oper.uponIn_round]
  refine ⟨fun hd => (by cases hd), trivial, fun cf cs _ => ?_⟩
  obtain ⟨e, w', hq, hcm⟩ := (hround.mono (R' := fun e w' => match e with
    | .returned v => wpListIn (fcR G) 0 P ops (lift G N E0 r0 w0 (app P ti G N K)) rest (a.put o.dst v) w'
    | .panicked chain => lift G N E0 r0 w0 (app P ti G N K) (.panic chain) a w'
    | .outgrown => LetsOut (lift G N E0 r0 w0 (app P ti G N K))) fun e w' hq => by
      obtain ⟨v, x, r', E', rfl, hO, hle, hra, hgood, hst, _⟩ := hq
      have hrel := hR.putO hst hgood hd.1 hra
      rw [putR_eq] at hrel
      exact HO_of_EV hti hd.2 (hk v r' hO hle) E0 r0 w0 E' _ w' hrel (hS.trans hst)).2 cf cs (fun d hd => by cases hd)
  exact ⟨e, w', by cases e <;> exact hq, hcm⟩
/-- The form in which a round's end is asked. -/
def roundK (P : Program) (ti : Ti) (m : Nat) (q : Rs → Prop) (ob : Option Res) : Kt
  | .normal, σ => ∃ re L F, q re ∧ FitR (m + 1) L F σ [] (re ++ [ob])
  | _, _ => False
/-- Behind the assignment to the loop's variables: the record is busy, the body is walked. -/
def assignK (P : Program) (ti : Ti) (G : GR) (N : Nat) (body : Code) (m l : Nat) (L : Loop) (q : Rs → Prop) : Kt
  | .normal, σ => σ.r[m]? = some (some (.ob l (.loop L))) ∧ HC P ti G N body (.base (roundK P ti m q (some (.ob l (.loop { L with state := .busy }))))) ⟨σ.b, σ.l, σ.r.set m (some (.ob l (.loop { L with state := .busy })))⟩
  | _, _ => False
def slotsOf (N : Nat) (st : List (Nat × AV)) : List AV := (List.range N).map (lk st fun _ => .top)
theorem slots_get {E : Env} {r : Rs} {w : World} {st : List (Nat × AV)} {tmps : Array Value} (h : RAL E r w (slotsOf N st) tmps.toList) (hk : ∀ p ∈ st, p.1 < N) (i : Nat) : RA E r w (lk st (fun _ => .top) i) (tmps.getD i undef) := by
  have hl := RAL_length _ _ h
  simp only [slotsOf, List.length_map, List.length_range, Array.length_toList] at hl
  by_cases hi : i < N
  · have hg : (slotsOf N st)[i]? = some (lk st (fun _ => .top) i) := by simp [slotsOf, hi]
    obtain ⟨v, hv, hr⟩ := RAL_get _ _ h i _ hg
    have : tmps.getD i undef = v := by
      rw [Array.getD_eq_getD_getElem?]
      have : tmps[i]? = some v := by simpa using hv
      rw [this]; rfl
    rw [this]; exact hr
  · rcases lk_cases st (fun _ => AV.top) i with ⟨v, hv, he⟩ | ⟨_, he⟩
    · exact absurd (hk _ hv) hi
    · rw [he]; simp [RA]
theorem slots_put {E : Env} {r : Rs} {w : World} {st : List (Nat × AV)} {tmps : Array Value} (hs : tmps.size = N) (h : ∀ i, RA E r w (lk st (fun _ => .top) i) (tmps.getD i undef)) : RAL E r w (slotsOf N st) tmps.toList := by
  have key : ∀ (l : List Nat) (vs : List Value), vs.length = l.length → (∀ j (hj : j < l.length), RA E r w (lk st (fun _ => .top) l[j]) (vs.getD j undef)) → RAL E r w (l.map (lk st fun _ => .top)) vs := by
    intro l
    induction l with
    | nil => intro vs hv _; simp at hv; subst hv; simp [RAL]
    | cons a l ih =>
      intro vs hv hr
      cases vs with
      | nil => simp at hv
      | cons v vs =>
        simp only [List.map_cons, RAL]
        exact ⟨v, vs, rfl, hr 0 (by simp), ih vs (by simpa using hv) fun j hj => hr (j + 1) (by simpa using hj)⟩
  refine key (List.range N) tmps.toList (by simp [hs]) fun j hj => ?_
  have := h j
  simpa [Array.getD_eq_getD_getElem?, List.getD_eq_getElem?_getD] using this
/-- One round, out of the walk of its body. -/
theorem AY_of_body {assign body : Code} {p l m : Nat} {L : Loop} {st : List (Nat × AV)} {x : AV} {re : Rs} {q : Rs → Prop} (hm : re.length = m) (hro : G.ro = none) (hn0 : G.n0 = none)
    (hL1 : L.state = .ready) (hL2 : L.pending = none) (hL3 : L.params = #[p]) (hL4 : L.assign = assign) (hL5 : L.body = body) (hkeys : ∀ y ∈ st, y.1 < N) (hp : p < N) (hq : ∀ s, q s → s.length = m)
    (hb : HC P ti (G.inR l) N assign (.base (assignK P ti (G.inR l) N body m l L q)) ⟨fun _ => .top, (p, x) :: st, re ++ [some (.ob l (.loop L))]⟩) :
    AY P G l L (slotsOf N st) x (re ++ [some (.ob l (.loop L))]) (fun v r' => ∃ s, q s ∧ v = .d (.c (.bool true)) ∧ r' = s ++ [some (.ob l (.loop L))]) := by
  intro E w vals hG hA
  simp only [RAL, RA] at hA
  obtain ⟨y, rest, he, ⟨hy, hsl⟩, x', rest', he2, hx, he3⟩ := hA
  have hv : vals = #[y, x'] := by
    apply Array.ext'
    rw [he, he2, he3]
  have hrow : (re ++ [some (Res.ob l (.loop L))])[m]? = some (some (.ob l (.loop L))) := by rw [List.getElem?_append_right (by omega), hm, Nat.sub_self]; rfl
  obtain ⟨b, hbl, hT, hb1, hh, hno⟩ := hG.map m (.o l (.loop L)) hrow
  subst hb1
  have hsz : L.tmps.size = N := by
    have := RAL_length _ _ hsl
    simpa [slotsOf] using this
  have hy1 := run_yield (P := P) (args := #[x']) hh (by rw [hL3]; rfl)
  refine ⟨y, x', hv, L.fn, _, L.assign, L.body, hy1, ?_⟩
  refine roundIn_of_wpIn (F := Fence.wide) trivial ?_
  rw [hL4, hL5, hL3]
  have htm : (#[p].zip #[x']).foldl (fun tmps (t, a) => tmps.setIfInBounds t a) L.tmps = L.tmps.setIfInBounds p x' := by simp
  rw [htm]
  have hR : Rel (G.inR l) N E ⟨fun _ => .top, (p, x) :: st, re ++ [some (.ob l (.loop L))]⟩ { tmps := L.tmps.setIfInBounds p x', defers := [] } w := by
    refine ⟨by simp [hsz], fun i => ?_, Good.gr (G' := G.inR l) (G := G) rfl hG, rfl⟩
    show RA E _ w (lk ((p, x) :: st) (fun _ => .top) i) ((L.tmps.setIfInBounds p x').getD i undef)
    rw [getD_setIfInBounds]
    by_cases hi : i = p
    · subst hi
      simp only [lk, if_true, hsz, hp, and_true]
      exact hx
    · simp only [lk, hi, if_false, false_and]
      exact slots_get hsl hkeys i
  have h1 := hb E _ w E _ w hR (Step.refl _ _ _)
  refine wpIn_mono h1 fun e a1 w1 hq1 => ?_
  obtain ⟨σ1, E1, hk1, hR1, hS1⟩ := hq1
  cases e with
  | normal =>
    obtain ⟨hr1, hbody⟩ := hk1
    obtain ⟨b1, hbl1, hT1, hb1, hh1, hno1⟩ := hR1.good.map m (.o l (.loop L)) hr1
    subst hb1
    refine ⟨World.setOb w1 l (.loop { L with state := .busy }), run_beginRound hh1 hL1, ?_⟩
    have hlt1 := (Array.getElem?_eq_some_iff.1 hh1).1
    have hg2 := good_setMap (l' := .o l (.loop { L with state := .busy })) hR1.good hr1 hbl1 (.loop { L with state := .busy }) ⟨rfl, setOb_same hlt1, rfl⟩
    have hs2 := step_setMap (l' := .o l (.loop { L with state := .busy })) hR1.good hr1 hbl1 (.loop { L with state := .busy })
    have hR2 : Rel (G.inR l) N E1 ⟨σ1.b, σ1.l, σ1.r.set m (some (.ob l (.loop { L with state := .busy })))⟩ a1 (World.setOb w1 l (.loop { L with state := .busy })) :=
      ⟨hR1.size, fun i => (hR1.slot i).step hs2, hg2, hR1.defers⟩
    refine wpIn_mono (hbody E _ w E1 a1 _ hR2 (hS1.trans hs2)) fun e a2 w2 hq2 => ?_
    obtain ⟨σ2, E2, hk2, hR3, hS3⟩ := hq2
    cases e with
    | normal =>
      obtain ⟨s, L', F', hqs, hfit⟩ := hk2
      obtain ⟨hR4, hS4⟩ := hR3.fitR hS3 (m := m + 1) (by simp [hm]) hfit
      have hsl2 := hq s hqs
      have hrow2 : (s ++ [some (Res.ob l (.loop { L with state := .busy }))])[m]? = some (some (.ob l (.loop { L with state := .busy }))) := by rw [List.getElem?_append_right (by omega), hsl2, Nat.sub_self]; rfl
      obtain ⟨b2, hbl2, hT2, hb2, hh2, hno2⟩ := hR4.good.map m (.o l (.loop { L with state := .busy })) hrow2
      subst hb2
      have hlt2 := (Array.getElem?_eq_some_iff.1 hh2).1
      have hend := run_endRound (P := P) none hh2
      have hLe : ({ ({ L with state := .busy } : Loop) with state := if (none : Option Code).isNone then .ready else .done, pending := none } : Loop) = L := by
        obtain ⟨a, b, c, d, e, f, g, h⟩ := L
        simp only at hL1 hL2
        subst hL1 hL2
        rfl
      have hg3 := good_setMap (l' := .o l (.loop L)) hR4.good hrow2 hbl2 (.loop L) ⟨rfl, setOb_same hlt2, rfl⟩
      have hs3 := step_setMap (l' := .o l (.loop L)) hR4.good hrow2 hbl2 (.loop L)
      have hset : (s ++ [some (Res.ob l (.loop { L with state := .busy }))]).set m (some (.ob l (.loop L))) = s ++ [some (.ob l (.loop L))] := by
        rw [List.set_append_right _ _ (by omega), hsl2, Nat.sub_self]; rfl
      rw [hset] at hg3 hs3
      refine ⟨.bool true, World.setOb w2 l (.loop L), ?_, ?_⟩
      · rw [hend]
        have : ({ ({ L with state := .busy } : Loop) with state := if (none : Option Code).isNone then .ready else .done, pending := none } : Loop) = L := hLe
        rw [this]; rfl
      · exact ⟨.d (.c (.bool true)), .bool true, _, _, rfl, ⟨s, hqs, rfl, rfl⟩, by simp only [RA, RD]; first | exact ⟨rfl, rfl⟩ | rfl | trivial, Good.gr (G' := G) (G := G.inR l) rfl hg3, hS4.trans hs3⟩
    | exit id => exact hk2.elim
    | ret => exact hk2.elim
    | goto l => exact hk2.elim
    | panic ch => exact hk2.elim
    | outgrown => exact hk2.elim
  | exit id => exact hk1.elim
  | ret => exact hk1.elim
  | goto l => exact hk1.elim
  | panic ch => exact hk1.elim
  | outgrown => exact hk1.elim
/-- A range over a function. -/
theorem HC_range {g : Operand} {ps : Array Tmp} {assign body : Code} {K : KD} {st : List (Nat × AV)} {re : Rs} {f : FuncId} {first cap : List AV} {p n m : Nat} (Q : Rs → Prop) (args : Nat → Loop → List AV)
    (hro : G.ro = none) (hn0 : G.n0 = some n) (hps : ps = #[p]) (hm : re.length = m) (hg : (⟨fun _ => .top, st, re⟩ : St).ev G g = .fn (.func f) first cap)
    (hw : ∀ l L, WkAs (first ++ [.yv l L (slotsOf N st)] ++ cap) (args l L))
    (h : ∀ l L, L.state = .ready → L.pending = none → L.params = #[p] → L.assign = assign → L.body = body → AC P G f (args l L) (re ++ [some (.ob l (.loop L))]) (fun v r' => ∃ s, Q s ∧ r' = s ++ [some (.ob l (.loop L))]))
    (hQ : ∀ s, Q s → s.length = m ∧ wfRs m s = true) (hwst : wfSt m st = true)
    (hk : ∀ s, Q s → A P ti G N K .normal ⟨fun _ => .top, st, s⟩) : HC P ti G N (.rangeFunc g ps assign body) K ⟨fun _ => .top, st, re⟩ := by
  intro E0 r0 w0 E a w hR hS
  have hF : fcR G = Fence.wide := by rw [fcR, hro]; rfl
  rw [hF]
  refine wpIn_rangeFunc ?_
  intro fn _
  have hev := ev_sound hR g
  rw [hg] at hev
  simp only [RA] at hev
  obtain ⟨vs, us, hp, hr1, hr2⟩ := hev
  obtain ⟨L0, hL0⟩ : ∃ L0 : Loop, L0 = { state := .ready, pending := none, fn, tmps := a.tmps, params := ps, assign, body, defers := w.heap.size } := ⟨_, rfl⟩
  obtain ⟨w1, hw1⟩ : ∃ w1, w1 = (w.alloc (.deferred (some []))).alloc (.loop L0) := ⟨_, rfl⟩
  obtain ⟨hD, hLp, hsz⟩ := allocs_new w (.deferred (some [])) (.loop L0)
  rw [← hw1] at hD hLp hsz
  have hs1 := step_alloc hR.good (.deferred (some [])) 0
  have hg1 := good_alloc hR.good (.deferred (some [])) 0
  have hs2 := step_push hg1 (.loop L0) 0 (some (.ob (w.heap.size + 1) (.loop L0)))
  have hsa : (w.alloc (.deferred (some []))).heap.size = w.heap.size + 1 := by simp
  have hnew : ∀ (E2 : Env) (r2 : Rs), E2.T (w.heap.size + 1) = 0 → NewOK E2 r2 w1 (w.heap.size + 1) (.ob (w.heap.size + 1) (.loop L0)) := fun E2 r2 hT2 => by
    refine ⟨fun k hk => ?_, fun k hk => ?_, fun k hk => ?_⟩
    · cases hk
    · cases hk
    · injection hk with hk
      subst hk
      exact ⟨hT2, rfl, hLp, rfl⟩
  have hg2 := good_push hg1 (.loop L0) 0 (.ob (w.heap.size + 1) (.loop L0)) (by rw [← hw1, hsa]; exact hnew _ _ (updN_same _ _ _))
  rw [← hw1] at hs2 hg2
  have hst := hs1.trans hs2
  have hbl : ∀ i, i < re.length → (⟨updN (⟨updN E.T w.heap.size 0, E.bl⟩ : Env).T (w.alloc (.deferred (some []))).heap.size 0, updN (⟨updN E.T w.heap.size 0, E.bl⟩ : Env).bl re.length (some (w.alloc (.deferred (some []))).heap.size)⟩ : Env).bl i = E.bl i := fun i hi => updN_ne _ _ _ (by omega)
  have hbm : (⟨updN (⟨updN E.T w.heap.size 0, E.bl⟩ : Env).T (w.alloc (.deferred (some []))).heap.size 0, updN (⟨updN E.T w.heap.size 0, E.bl⟩ : Env).bl re.length (some (w.alloc (.deferred (some []))).heap.size)⟩ : Env).bl re.length = some (w.heap.size + 1) := by rw [← hsa]; exact updN_same _ _ _
  change Step E re w _ (re ++ [some (Res.ob (w.heap.size + 1) (.loop L0))]) w1 at hst
  change Good G _ (re ++ [some (Res.ob (w.heap.size + 1) (.loop L0))]) w1 at hg2
  generalize (⟨updN (⟨updN E.T w.heap.size 0, E.bl⟩ : Env).T (w.alloc (.deferred (some []))).heap.size 0, updN (⟨updN E.T w.heap.size 0, E.bl⟩ : Env).bl re.length (some (w.alloc (.deferred (some []))).heap.size)⟩ : Env) = E1 at *
  have hC := h (w.heap.size + 1) L0 (by rw [hL0]) (by rw [hL0]) (by rw [hL0, ← hps]) (by rw [hL0]) (by rw [hL0])
  refine ⟨w.heap.size + 1, [{ target := .collected w.heap.size, args := #[] }], w1, { target := .fn (.func f) us, args := vs ++ #[Value.func (.yield (w.heap.size + 1)) #[] #[]] }, w1, f,
    vs ++ #[Value.func (.yield (w.heap.size + 1)) #[] #[]] ++ us, w1, ?_, ?_, fun f' _ => trivial, ?_, fun hd => (by cases hd), ?_⟩
  · rw [hw1, hL0]; exact run_enterLoop_outer _ _ _ _ _
  · simp only [resolve, rangeCall, hp, Deferred.ofValue]
    simp [Act.eval, Frame.eval]
  · simp [invoke, go_sem, hC.1]
  · have hslots : RAL E1 (re ++ [some (Res.ob (w.heap.size + 1) (.loop L0))]) w1 (slotsOf N st) L0.tmps.toList := by
      rw [show L0.tmps = a.tmps by rw [hL0]]
      exact slots_put hR.size fun i => (hR.slot i).step hst
    have hargs : RAL E1 (re ++ [some (Res.ob (w.heap.size + 1) (.loop L0))]) w1 (first ++ [.yv (w.heap.size + 1) L0 (slotsOf N st)] ++ cap) (vs ++ #[Value.func (.yield (w.heap.size + 1)) #[] #[]] ++ us).toList := by
      simp only [Array.toList_append]
      exact RAL_append _ _ _ _ (RAL_append _ _ _ _ (hr1.step hst) ⟨_, _, rfl, ⟨rfl, hslots⟩, rfl⟩) (hr2.step hst)
    refine callsIn_wide.2 ((hC.2 E1 w1 _ hg2 (WkAs_sound (hw _ _) hargs)).mono fun e w' hq => ?_)
    obtain ⟨v, x, r', E', rfl, ⟨s, hQs, rfl⟩, hra, hgood, hst3⟩ := hq
    obtain ⟨hsl, hwfs⟩ := hQ s hQs
    have hrow : (s ++ [some (Res.ob (w.heap.size + 1) (.loop L0))])[m]? = some (some (.ob (w.heap.size + 1) (.loop L0))) := by rw [List.getElem?_append_right (by omega), hsl, Nat.sub_self]; rfl
    obtain ⟨b, hb0, hT, hb1, hh, hno⟩ := hgood.map m (.o (w.heap.size + 1) (.loop L0)) hrow
    subst hb1
    have hlt := (Array.getElem?_eq_some_iff.1 hh).1
    have hg3 := good_setMap (l' := .o (w.heap.size + 1) (.loop { L0 with state := .exhausted })) hgood hrow hb0 (.loop { L0 with state := .exhausted }) ⟨rfl, setOb_same hlt, rfl⟩
    have hs3 := step_setMap (l' := .o (w.heap.size + 1) (.loop { L0 with state := .exhausted })) hgood hrow hb0 (.loop { L0 with state := .exhausted })
    have hset : ∀ y, (s ++ [some (Res.ob (w.heap.size + 1) (.loop L0))]).set m y = s ++ [y] := fun y => by
      rw [List.set_append_right _ _ (by omega), hsl, Nat.sub_self]; rfl
    rw [hset] at hg3 hs3
    have hW : WeakR (s ++ [some (Res.ob (w.heap.size + 1) (.loop { L0 with state := .exhausted }))]) s := ⟨by simp, fun i x hi => by
      rw [List.getElem?_append_left (List.getElem?_eq_some_iff.1 hi).1]; exact hi⟩
    have hstA := (hst.trans hst3).trans hs3
    have hstB := hstA.weak hW (by omega)
    have hg4 := hg3.weak hW (by rw [hsl]; exact hwfs)
    have hOwD : ¬ Own E1 (re ++ [some (Res.ob (w.heap.size + 1) (.loop L0))]) w.heap.size := fun ⟨i, y, hi, hbi⟩ => by
      rcases Nat.lt_or_ge i re.length with h1 | h1
      · rw [List.getElem?_append_left h1] at hi
        rw [hbl i h1] at hbi
        have := hR.good.own_lt ⟨i, y, hi, hbi⟩
        omega
      · have h2 := (List.getElem?_eq_some_iff.1 hi).1
        simp only [List.length_append, List.length_singleton] at h2
        have : i = re.length := by omega
        subst this
        rw [hbm] at hbi
        injection hbi with hbi
        omega
    have hd3 := hst3.block w.heap.size (by omega) hOwD
    have hOwD2 : ¬ Own E' s w.heap.size := fun ⟨i, y, hi, hbi⟩ => by
      have hi2 : (s ++ [some (Res.ob (w.heap.size + 1) (.loop L0))])[i]? = some (some y) := by rw [List.getElem?_append_left (List.getElem?_eq_some_iff.1 hi).1]; exact hi
      rcases hst3.own _ ⟨i, y, hi2, hbi⟩ with h1 | h1
      · exact hOwD h1
      · omega
    refine ⟨none, World.setOb w' (w.heap.size + 1) (.loop { L0 with state := .exhausted }), ?_, ?_⟩
    · refine (run_endLoop (P := P) hh (by rw [hL0]; simp)).trans ?_
      have hpn : L0.pending = none := by rw [hL0]
      simp only [hpn]; rfl
    · refine ⟨⟨fun _ => .top, st, s⟩, E', hk s hQs, ⟨hR.size, fun i => ?_, hg4, ?_⟩, hS.trans hstB⟩
      · have hra := (hR.slot i).step hstA
        show RA E' s _ (lk st (fun _ => .top) i) _
        change RA E' _ _ (lk st (fun _ => .top) i) _ at hra
        refine RA_weak hW _ _ ?_ hra
        rcases lk_cases st (fun _ => AV.top) i with ⟨v, hv, he⟩ | ⟨_, he⟩
        · rw [he, hsl]; exact wfSt_mem hwst hv
        · rw [he]; rfl
      have hd := hR.defers.step hstB
      rw [hn0] at hd ⊢
      refine ⟨⟨hd.1.1, ?_⟩, fun d hm => ?_⟩
      · refine List.nodup_cons.2 ⟨fun hm => ?_, hd.1.2⟩
        have := hR.defers
        rw [hn0] at this
        obtain ⟨D, h1, _, h3, _⟩ := this.2 _ hm
        have := (Array.getElem?_eq_some_iff.1 h3).1
        injection h1 with h1
        injection h1 with h1
        omega
      · simp only [List.cons_append, List.nil_append, List.mem_cons] at hm
        rcases hm with rfl | hm
        · refine ⟨w.heap.size, rfl, ?_, ?_, hOwD2⟩
          · have := hR.defers
            rw [hn0] at this
            exact this.1.1
          · exact (setMap_other w' _ _ (by omega)).trans (hd3.1.trans hD)
        · exact hd.2 d hm
end
end Go.Proofs.Ythdjblfiiogmgaa
/- The frame of these proofs, part ZC: from a contract to the statement: what comes in is opened, what is left is read again. -/
set_option linter.unusedVariables false
set_option linter.unusedSimpArgs false
namespace Go.Proofs.Ythdjblfiiogmgaa
open Go Go.ChangeShapes Go.WideShapes

/-! ### Memory that lay there before the call -/
def oldT (W : World) : Nat → Nat := fun b => match W.heap[b]? with
  | some (.cells c _ _) => c.size
  | _ => 0
theorem old_cell {W : World} {a : Addr} {v : Value} (h : W.cell? a = some v) : a.off < oldT W a.block := by
  unfold World.cell? at h
  unfold oldT
  split at h
  · rename_i c _ _ hc
    rw [hc]
    simp only
    split at h
    · cases h
    · exact (Array.getElem?_eq_some_iff.1 h).1
  · cases h
def env0 (W : World) : Env := ⟨oldT W, fun _ => none⟩
theorem good0 {W : World} {G : GR} (hg : ∀ g, RM (oldT W) W (G g) ⟨g, 0, none⟩) : Good G (env0 W) [] W := by
  refine ⟨fun i k b hi => by simp at hi, fun i l hi => by simp at hi, fun i l hi => by simp at hi, fun i j x y b hi => by simp at hi, fun b hb => ?_, hg⟩
  show oldT W b = 0
  unfold oldT
  rw [Array.getElem?_eq_none (by simpa using hb)]

/-- All that was there is as it was. -/
structure Kept (W W' : World) : Prop where
  os : W'.os = W.os
  output : W'.output = W.output
  size : W.heap.size ≤ W'.heap.size
  block : ∀ b, b < W.heap.size → W'.heap[b]? = W.heap[b]?
theorem AC.calls {P : Program} {G : GR} {f : FuncId} {args : List AV} {v0 : Value} (h : AC P G f args [] (fun v r' => v = .d (.c v0) ∧ r' = [])) {W : World} {vals : Array Value} (hg : ∀ g, RM (oldT W) W (G g) ⟨g, 0, none⟩)
    (ha : RAL (env0 W) [] W args vals.toList) : Calls P f vals W fun e W' => e = .returned v0 ∧ Kept W W' := by
  refine (h.2 (env0 W) W vals (good0 hg) ha).mono fun e W' ⟨v, x, r', E', he, ⟨hv, hr⟩, hx, _, hS⟩ => ?_
  subst hv; subst hr
  simp only [RA, RD] at hx
  refine ⟨by rw [he, hx.1], hS.os, hS.output, hS.size, fun b hb => (hS.block b hb ?_).1⟩
  rintro ⟨i, y, hi, _⟩
  simp at hi

section
variable {H : Type} {enc : TypeId × Value → H} {P : Program} {W W' : World}
theorem Kept.cell (h : Kept W W') {a : Addr} (ha : a.block < W.heap.size) : W'.cell? a = W.cell? a := by
  unfold World.cell?; rw [h.block _ ha]
theorem Kept.frozen (h : Kept W W') {a : Addr} (ha : a.block < W.heap.size) : W'.frozen? a = W.frozen? a := by
  unfold World.frozen?; rw [h.block _ ha]
theorem Kept.same (h : Kept W W') {p : MemPlace} (hp : p.block < W.heap.size) : W.sameAt W' p := by
  cases p with
  | cell b off => exact h.cell (a := ⟨b, off, none⟩) hp
  | map b => exact h.block b hp
theorem Kept.keptBut (h : Kept W W') (may : MemPlace → Prop) : W.keptBut W' may := by
  refine ⟨h.os, h.output, fun i hi => ?_⟩
  rw [h.block i hi]
  split <;> simp_all
theorem TrodAll_carry {base : Nat} {sp : Nat → Bool} {held : Bool} : ∀ {ts : List TypeId} {vs : List Value} {ds : List (DataW H)} {ps : List MemPlace}, DataW.TrodAll enc P W base sp held ts vs ds ps → (∀ p ∈ ps, W.sameAt W' p) → DataW.TrodAll enc P W' base sp held ts vs ds ps
  | [], [], [], _, h, _ => h
  | _ :: _, _ :: _, _ :: _, _, ⟨p, q, ⟨n, h1⟩, h2, e⟩, hs =>
    ⟨p, q, ⟨n, DataW.trod_carry n _ _ _ h1 (fun x hx => hs x (by rw [e]; exact List.mem_append_left _ hx))⟩, TrodAll_carry h2 (fun x hx => hs x (by rw [e]; exact List.mem_append_right _ hx)), e⟩
theorem var_kept (h : Kept W W') {n : String} {cs : Array Value} (hv : W.var? P n = some cs) : W'.var? P n = some cs := by
  unfold World.var? at hv ⊢
  simp only [Option.bind_eq_some_iff] at hv ⊢
  obtain ⟨g, hg, hv⟩ := hv
  refine ⟨g, hg, ?_⟩
  have hb : g < W.heap.size := by
    rcases Nat.lt_or_ge g W.heap.size with h1 | h1
    · exact h1
    · simp [Array.getElem?_eq_none h1] at hv
  rw [h.block g hb]
  exact hv
theorem TrodVars_kept {T : TypeId → Prop} (K : Kids P T) (hz : ∀ t e, T t → P.underlying t = some (.slice e) → 0 < P.cellsOf e) (hk : Kept W W') {sp : Nat → Bool} : ∀ {ns : List String} {ds : List (DataW H)} {ps : List MemPlace},
    (∀ n ∈ ns, ∀ g t, P.globalNamed n = some g → (P.globals[g]?).map (·.type) = some t → T t) → DataW.TrodVars enc P W (fun _ => true) ns ds ps → (∀ p ∈ ps, p.block < W.heap.size) → (∀ p ∈ ps, sp p.block = true) → DataW.TrodVars enc P W' sp ns ds ps
  | [], [], ps, _, h, _, _ => h
  | n :: ns, d :: ds, ps, hT, ⟨g, t, cs, fuel, p, q, h1, h2, h3, h4, h5, e⟩, hlt, hs => by
    have m1 : ∀ x ∈ p, x ∈ ps := fun x hx => by rw [e]; simp [hx]
    have m2 : ∀ x ∈ q, x ∈ ps := fun x hx => by rw [e]; simp [hx]
    refine ⟨g, t, cs, fuel, p, q, h1, h2, var_kept hk h3, ?_, TrodVars_kept K hz hk (fun n hn => hT n (by simp [hn])) h5 (fun x hx => hlt x (m2 x hx)) (fun x hx => hs x (m2 x hx)), e⟩
    exact DataW.trod_respare K hz fuel t cs.toList _ (hT n (by simp) g t h1 h2) (DataW.trod_carry fuel t _ _ h4 (fun x hx => hk.same (hlt x (m1 x hx)))) (fun x hx => hs x (m1 x hx))
/-- What the statement asks behind the call. -/
theorem post_of_kept {T : TypeId → Prop} (K : Kids P T) (hz : ∀ t e, T t → P.underlying t = some (.slice e) → 0 < P.cellsOf e) {fn : Func} {s : ChangeSpec} {args : Array Value} {ds gs : List (DataW H)} {before : List MemPlace}
    (hT : ∀ t ∈ fn.params.toList, T t) (hV : ∀ n ∈ s.vars, ∀ g t, P.globalNamed n = some g → (P.globals[g]?).map (·.type) = some t → T t) {tb : TypeId} (hb : P.underlying tb = some .bool) (hres : fn.resultTypes = #[tb])
    (hW : DataW.Whole enc P fn.params.toList s.vars false W args.toList ds gs before) (hr : (s.fn H (ds ++ gs)).results = [.lit (.bool true)]) (ha : (s.fn H (ds ++ gs)).args = ds) (hv : (s.fn H (ds ++ gs)).vars = gs) (hk : Kept W W') :
    s.post enc P fn false true false false W args (.bool true) W' := by
  have hlt := hW.lt
  have hW0 := hW
  obtain ⟨p, q, h1, h2, rfl, _, _⟩ := hW
  refine ⟨ds, gs, p ++ q, [], p, q, hW0, ?_, ?_, ?_, hk.keptBut _, fun h => by cases h⟩
  · rw [hr, hres]
    exact trodAll_cons_mk (RowKit.shut_bool hb _) trodAll_mk0
  · rw [ha]
    exact DataW.TrodAll.respare K hz hT (TrodAll_carry h1 fun x hx => hk.same (hlt x (by simp [hx]))) fun x hx => by simpa using hlt x (by simp [hx])
  · rw [hv]
    exact TrodVars_kept K hz hk hV h2 (fun x hx => hlt x (by simp [hx])) fun x hx => by simpa using hlt x (by simp [hx])

/-! ### What comes in -/
mutual
def bk : DataW H → Nat
  | .lit (.string bytes) => bytes.length + 1
  | .lit _ => 1
  | .nil => 1
  | .ptr d => bk d + 1
  | .slice elems spare => bkAll elems + bkAll spare + 1
  | .agg parts => bkAll parts + 1
  | .iface _ d => bk d + 1
  | .map entries => bkEntries entries + 1
  | .held _ => 1
def bkAll : List (DataW H) → Nat
  | [] => 0
  | d :: r => bk d + bkAll r
def bkEntries : List (Lit × DataW H) → Nat
  | [] => 0
  | x :: r => bkEntry x + bkEntries r
def bkEntry : Lit × DataW H → Nat
  | (.string bytes, d) => bytes.length + bk d + 1
  | (_, d) => bk d + 1
end
theorem bkAll_append : ∀ (l m : List (DataW H)), bkAll (l ++ m) = bkAll l + bkAll m
  | [], m => by simp [bkAll]
  | d :: l, m => by simp only [List.cons_append, bkAll, bkAll_append l m]; omega
end
/-- What reads as a datum of a type is one of these, each value told by its cells. 'ms': how great it is at least. -/
def Opens (P : Program) (t : TypeId) {α : Type} (en : α → List D) (ms : α → Nat) (ok : α → Prop) : Prop :=
  ∀ (H : Type) (enc : TypeId × Value → H) (W : World) (fuel : Nat) (cs : List Value) (x : DataW H × List MemPlace), DataW.trod enc P W 0 (fun _ => true) true fuel t cs = some x → (∀ n ∈ x.1.weights P t, n ≤ reachBytes) →
    ∃ a, ok a ∧ RL (oldT W) W (en a) cs ∧ ms a ≤ bk x.1
theorem Opens.mono {P : Program} {t : TypeId} {α β : Type} {en : α → List D} {ms : α → Nat} {ok : α → Prop} {en' : β → List D} {ms' : β → Nat} {ok' : β → Prop} (h : Opens P t en ms ok) (f : α → β) (he : ∀ a, ok a → en' (f a) = en a) (hm : ∀ a, ok a → ms' (f a) ≤ ms a) (ho : ∀ a, ok a → ok' (f a)) : Opens P t en' ms' ok' := by
  intro H enc W fuel cs x hx hw
  obtain ⟨a, h1, h2, h3⟩ := h H enc W fuel cs x hx hw
  exact ⟨f a, ho a h1, by rw [he a h1]; exact h2, Nat.le_trans (hm a h1) h3⟩
theorem opens_int {P : Program} {t : TypeId} {k : IntKind} (ht : P.underlying t = some (.int k)) : Opens P t (fun n : Int => [.c (.int k n)]) (fun _ => 1) (fun n => k.min ≤ n ∧ n ≤ k.max) := by
  intro H enc W fuel cs x hx _
  obtain ⟨n, rfl, rfl, hn⟩ := DataW.trod_int ht hx
  refine ⟨n, by simpa [Lit.wf] using hn, ?_, by simp [bk]⟩
  simp only [RL, RD]
  exact ⟨_, _, rfl, rfl, ⟨rfl, rfl⟩, rfl⟩
theorem opens_bool {P : Program} {t : TypeId} (ht : P.underlying t = some .bool) : Opens P t (fun n : Bool => [.c (.bool n)]) (fun _ => 1) (fun _ => True) := by
  intro H enc W fuel cs x hx _
  obtain ⟨n, rfl, rfl⟩ := DataW.trod_bool ht hx
  refine ⟨n, trivial, ?_, by simp [bk]⟩
  simp only [RL, RD]
  exact ⟨_, _, rfl, rfl, ⟨rfl, rfl⟩, rfl⟩
theorem opens_string {P : Program} {t : TypeId} (ht : P.underlying t = some .string) : Opens P t (fun s : ByteArray => [.c (.string s)]) (fun s => s.size + 1) (fun s => s.size ≤ reachBytes) := by
  intro H enc W fuel cs x hx hw
  obtain ⟨s, rfl, rfl, hs⟩ := DataW.trod_string ht hx
  have hl : s.data.toList.length = s.size := by rw [Array.length_toList]; rfl
  refine ⟨s, ?_, ?_, by simp only [bk]; omega⟩
  · have := hw s.data.toList.length (by simp [DataW.weights])
    omega
  · simp only [RL, RD]
    exact ⟨_, _, rfl, rfl, ⟨rfl, rfl⟩, rfl⟩
theorem bkAll_ge {H : Type} {α : Type} (ms : α → Nat) : ∀ (l : List α) (ds : List (DataW H)), l.length = ds.length → (∀ (i : Nat) a d, l[i]? = some a → ds[i]? = some d → ms a ≤ bk d) → (l.map ms).sum ≤ bkAll ds
  | [], _, _, _ => by simp
  | a :: l, [], h, _ => by simp at h
  | a :: l, d :: ds, h, hk => by
    have h0 := hk 0 a d rfl rfl
    have := bkAll_ge ms l ds (by simpa using h) (fun i a d h1 h2 => hk (i + 1) a d (by simpa using h1) (by simpa using h2))
    simp only [List.map_cons, List.sum_cons, bkAll]; omega
theorem RM_flat {W : World} {α : Type} {en : α → List D} {sz : Nat} : ∀ (l : List α) (ad : Addr), (∀ a ∈ l, (en a).length = sz) → (∀ (i : Nat) a, l[i]? = some a → RM (oldT W) W (en a) (ad.add (i * sz))) → RM (oldT W) W (l.flatMap en) ad
  | [], ad, _, _ => by simp [RM]
  | a :: l, ad, hl, h => by
    simp only [List.flatMap_cons]
    have h0 := h 0 a rfl
    rw [Nat.zero_mul, addr_add_zero] at h0
    refine RM_append _ _ _ h0 ?_
    rw [hl a (by simp)]
    refine RM_flat l _ (fun b hb => hl b (by simp [hb])) fun i b hb => ?_
    have := h (i + 1) b (by simpa using hb)
    rw [addr_add_add]
    rwa [Nat.succ_mul, Nat.add_comm] at this
theorem RM_of_RL {W : World} {ds : List D} {vs : List Value} {ad : Addr} {n : Nat} (h : RL (oldT W) W ds vs) (hc : W.cells? 0 ad n = some vs) : RM (oldT W) W ds ad := by
  obtain ⟨_, hlen, hget⟩ := World.cells?_some hc
  have hl := RL_length _ _ h
  refine RM_of_get _ _ fun j d hd => ?_
  have hj : j < n := by have := (List.getElem?_eq_some_iff.1 hd).1; omega
  obtain ⟨v, hv, h1, h2⟩ := RL_get _ _ h j d hd
  have hcell := (hget j hj).trans hv
  have hold := old_cell hcell
  rw [addr_add_off, addr_add_block] at hold
  exact ⟨hold, v, hcell, h1, h2⟩
theorem weightsAll_mem {H : Type} {P : Program} {e : TypeId} : ∀ {l : List (DataW H)} {d : DataW H}, d ∈ l → ∀ n ∈ d.weights P e, n ∈ DataW.weightsAll P e l
  | y :: l, d, hd, n, hn => by
    simp only [DataW.weightsAll, List.mem_append]
    simp only [List.mem_cons] at hd
    rcases hd with rfl | hd
    · exact .inl hn
    · exact .inr (weightsAll_mem hd n hn)
theorem sum_const {α : Type} {f : α → Nat} {sz : Nat} : ∀ (l : List α), (∀ a ∈ l, f a = sz) → (l.map f).sum = l.length * sz
  | [], _ => by simp
  | a :: l, h => by
    simp only [List.map_cons, List.sum_cons, h a (by simp), sum_const l (fun b hb => h b (by simp [hb])), List.length_cons, Nat.succ_mul]
    omega
theorem opens_slice {P : Program} {t e : TypeId} {α : Type} {en : α → List D} {ms : α → Nat} {ok : α → Prop} {sz by_ : Nat} (ht : P.underlying t = some (.slice e)) (hsz : P.cellsOf e = sz) (hby : P.bytesOf e = by_) (hen : ∀ a, ok a → (en a).length = sz) (h : Opens P e en ms ok) :
    Opens P t (fun l : List α => [.sl sz l.length (l.flatMap en)]) (fun l => (l.map ms).sum + 1) (fun l => l.length * by_ ≤ reachBytes ∧ ∀ a ∈ l, ok a) := by
  intro H enc W fuel cs x hx hw
  rcases Deep.open_slice ht hx with ⟨rfl, rfl⟩ | ⟨a, len, cap, m, n, Dx, Pl, rfl, _, hlc, hcap, hm, rfl, hel⟩
  · refine ⟨[], ⟨by simp, by simp⟩, ?_, by simp [bk]⟩
    simp only [RL, RD]
    exact ⟨_, _, rfl, rfl, ⟨by simp, none, 0, rfl, by simp, .inl (by simp)⟩, rfl⟩
  · simp only [if_true] at hm
    have hm2 : m = cap := hm
    subst hm2
    have hwa : ∀ i, i < len → ∀ k ∈ (Dx i).weights P e, k ≤ reachBytes := fun i hi k hk => by
      refine hw k ?_
      simp only [DataW.weights, ht, List.mem_cons, List.mem_append]
      exact .inr (.inl (weightsAll_mem (List.mem_map.2 ⟨i, List.mem_range.2 hi, rfl⟩) k hk))
    have each : ∀ i, i < len → ∃ b, ok b ∧ ms b ≤ bk (Dx i) ∧ RM (oldT W) W (en b) (a.add (i * sz)) := fun i hi => by
      obtain ⟨cs', hc, hd⟩ := hel i (by omega)
      obtain ⟨b, h1, h2, h3⟩ := h H enc W n cs' _ hd (hwa i hi)
      rw [hsz] at hc
      exact ⟨b, h1, h3, RM_of_RL h2 hc⟩
    have hlist : ∀ k, k ≤ len → ∃ l : List α, l.length = k ∧ ∀ i b, l[i]? = some b → ok b ∧ ms b ≤ bk (Dx i) ∧ RM (oldT W) W (en b) (a.add (i * sz)) := by
      intro k
      induction k with
      | zero => exact fun _ => ⟨[], rfl, fun i b hb => by simp at hb⟩
      | succ k ih =>
        intro hk
        obtain ⟨l, hl, hall⟩ := ih (by omega)
        obtain ⟨b, hb⟩ := each k (by omega)
        refine ⟨l ++ [b], by simp [hl], fun i c hc => ?_⟩
        by_cases hi : i < l.length
        · rw [List.getElem?_append_left hi] at hc; exact hall i c hc
        · have hi2 : i < (l ++ [b]).length := (List.getElem?_eq_some_iff.1 hc).1
          have : i = k := by simp at hi2; omega
          subst this
          rw [← hl, List.getElem?_append_right (Nat.le_refl _)] at hc
          simp at hc; subst hc; exact hb
    obtain ⟨l, hl, hall⟩ := hlist len (Nat.le_refl _)
    have hok : ∀ b ∈ l, ok b := fun b hb => by obtain ⟨i, hi⟩ := List.mem_iff_getElem?.1 hb; exact (hall i b hi).1
    have hfl : (l.flatMap en).length = l.length * sz := by rw [List.length_flatMap]; exact sum_const l (fun b hb => hen b (hok b hb))
    refine ⟨l, ⟨?_, hok⟩, ?_, ?_⟩
    · have := hw ((len + (m - len)) * P.bytesOf e) (by simp [DataW.weights, ht])
      rw [hby] at this
      exact Nat.le_trans (Nat.mul_le_mul_right _ (by omega)) this
    · simp only [RL, RD]
      refine ⟨_, _, rfl, rfl, ⟨hfl, some a, m, by rw [hl], by omega, .inr ⟨a, rfl, RM_flat l a (fun b hb => hen b (hok b hb)) fun i b hb => (hall i b hb).2.2⟩⟩, rfl⟩
    · have := bkAll_ge (H := H) ms l ((List.range len).map Dx) (by simp [hl]) (fun i b d hb hd => by
        have hi : i < len := by have := (List.getElem?_eq_some_iff.1 hb).1; omega
        simp [hi] at hd
        subst hd
        exact (hall i b hb).2.1)
      simp only [bk]
      omega
/-- A slice of elements of one cell. -/
theorem opens_slice1 {P : Program} {t e : TypeId} {α : Type} {f : α → D} {ms : α → Nat} {ok : α → Prop} {by_ : Nat} (ht : P.underlying t = some (.slice e)) (hsz : P.cellsOf e = 1) (hby : P.bytesOf e = by_) (h : Opens P e (fun a => [f a]) ms ok) :
    Opens P t (fun l : List α => [.sl 1 l.length (l.map f)]) (fun l => (l.map ms).sum + 1) (fun l => l.length * by_ ≤ reachBytes ∧ ∀ a ∈ l, ok a) := by
  refine (opens_slice ht hsz hby (fun _ _ => rfl) h).mono id (fun l _ => ?_) (fun l _ => Nat.le_refl _) (fun l hl => hl)
  have : ∀ l : List α, l.flatMap (fun a => [f a]) = l.map f := by
    intro l; induction l with
    | nil => rfl
    | cons a l ih => simp [ih]
  simp only [id, this]
theorem flat_bD (l : List UInt8) : (l.flatMap fun b => [D.c (.int .u8 (b.toNat : Int))]) = bD l := by
  unfold bD
  induction l with
  | nil => rfl
  | cons a l ih => simp [ih]
/-- Bytes. -/
theorem opens_bytes {P : Program} {t e : TypeId} (ht : P.underlying t = some (.slice e)) (he : P.underlying e = some (.int .u8)) (hsz : P.cellsOf e = 1) (hby : P.bytesOf e = 1) :
    Opens P t (fun l : List UInt8 => [.sl 1 l.length (bD l)]) (fun l => l.length + 1) (fun l => l.length ≤ reachBytes) := by
  have hb : Opens P e (fun b : UInt8 => [.c (.int .u8 (b.toNat : Int))]) (fun _ => 1) (fun _ => True) := by
    refine (opens_int he).mono (fun n => UInt8.ofNat n.toNat) (fun n hn => ?_) (fun _ _ => Nat.le_refl _) (fun _ _ => trivial)
    have h0 : (0 : Int) ≤ n := hn.1
    have h1 : n ≤ 255 := hn.2
    rw [u8_toNat, Nat.mod_eq_of_lt (by omega), Int.toNat_of_nonneg h0]
  refine (opens_slice ht hsz hby (fun _ _ => rfl) hb).mono id (fun l _ => ?_) (fun l _ => ?_) (fun l hl => ?_)
  · simp only [id, flat_bD]
  · have := sum_const (f := fun _ => 1) (sz := 1) l (fun _ _ => rfl)
    simp only [id]; omega
  · have := hl.1; simp only [id]; omega

/-! ### The arguments -/
def isOne : TypeDesc → Bool
  | .int _ => true
  | .bool => true
  | .string => true
  | .slice _ => true
  | .pointer _ => true
  | _ => false
theorem okWide_one {P : Program} {w : World} {r : Reach} {b0 : Nat} {t : TypeId} {d : TypeDesc} {v : Value} (ht : P.underlying t = some d) (hd : isOne d = true) (h : Value.okWide P w r b0 t v) : v.cells.toList = [v] := by
  cases d <;> simp only [isOne, Bool.false_eq_true] at hd
  all_goals
    simp only [Value.okWide, ht, Cell.okWide] at h
    cases v <;> simp_all [Cell.ok, Value.cells]
/-- One argument of one cell. -/
theorem arg_one {H : Type} {enc : TypeId × Value → H} {P : Program} {W : World} {r : Reach} {b0 : Nat} {t : TypeId} {dd : TypeDesc} {v : Value} {α : Type} {f : α → D} {ms : α → Nat} {ok : α → Prop} {d : DataW H} {p : List MemPlace} (ht : P.underlying t = some dd) (hd : isOne dd = true)
    (h : Opens P t (fun a => [f a]) ms ok) (hv : Value.okWide P W r b0 t v) (hw : ∀ n ∈ d.weights P t, n ≤ reachBytes) (hx : DataW.Trod enc P W 0 (fun _ => true) true t v d p) : ∃ a, ok a ∧ RA (env0 W) [] W (.d (f a)) v ∧ ms a ≤ bk d := by
  obtain ⟨n, hn⟩ := hx
  obtain ⟨a, h1, h2, h3⟩ := h H enc W n _ _ hn hw
  rw [okWide_one ht hd hv] at h2
  simp only [RL, List.cons.injEq] at h2
  obtain ⟨u, rest, ⟨rfl, rfl⟩, _, h4, _⟩ := h2
  exact ⟨a, h1, by simp only [RA]; exact h4, h3⟩
/-- One argument that is a struct or an array. -/
theorem arg_agg {H : Type} {enc : TypeId × Value → H} {P : Program} {W : World} {r : Reach} {b0 : Nat} {t : TypeId} {dd : TypeDesc} {v : Value} {α : Type} {en : α → List D} {ms : α → Nat} {ok : α → Prop} {d : DataW H} {p : List MemPlace} (ht : P.underlying t = some dd) (hd : isAggD dd = true)
    (h : Opens P t en ms ok) (hv : Value.okWide P W r b0 t v) (hw : ∀ n ∈ d.weights P t, n ≤ reachBytes) (hx : DataW.Trod enc P W 0 (fun _ => true) true t v d p) : ∃ a, ok a ∧ RA (env0 W) [] W (.d (.agg (en a))) v ∧ ms a ≤ bk d := by
  obtain ⟨n, hn⟩ := hx
  obtain ⟨a, h1, h2, h3⟩ := h H enc W n _ _ hn hw
  have : ∃ cs, v = .agg cs := by
    cases dd <;> simp only [isAggD, Bool.false_eq_true] at hd
    all_goals
      simp only [Value.okWide, ht] at hv
      obtain ⟨cs, rfl, _⟩ := hv
      exact ⟨cs, rfl⟩
  obtain ⟨cs, rfl⟩ := this
  exact ⟨a, h1, by simp only [RA, RD]; exact ⟨cs, rfl, h2⟩, h3⟩
theorem weights_of {H : Type} {P : Program} {ts : List TypeId} {ds : List (DataW H)} (h : (DataW.weightsEach P ts ds).all (· ≤ reachBytes) = true) (j : Nat) {t : TypeId} {d : DataW H} (ht : ts[j]? = some t) (hd : ds[j]? = some d) : ∀ n ∈ d.weights P t, n ≤ reachBytes := by
  intro n hn
  have := List.all_eq_true.1 h n (DataW.weights_mem_each ht hd n hn)
  simpa using this
end Go.Proofs.Ythdjblfiiogmgaa
