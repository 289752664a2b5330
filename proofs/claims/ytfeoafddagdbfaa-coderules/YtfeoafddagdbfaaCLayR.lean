import Derived.Test.YtfeoafddagdbfaaCBase
set_option linter.unusedVariables false
set_option linter.unusedSimpArgs false
set_option maxRecDepth 100000
namespace Go.Proofs.Ytfeoafddagdbfaa
open Go Go.ChangeShapes Go.WideShapes
section
variable {P : Program} {ti : Ti} {G : Nat → List D} {N : Nat} {K : KD}
def fzRes (i : Nat) (ds : List D) : Option Res → Option Res
  | some (.obj l) => some (.obj (l.map (fzA i ds)))
  | x => x
def fzR (i : Nat) (ds : List D) (r : Rs) : Rs := (r.set i none).map (fzRes i ds)
theorem fzRes_tok {i : Nat} {ds : List D} {x : Option Res} {k : Nat} (h : fzRes i ds x = some (.tok k)) : x = some (.tok k) := by
  cases x with
  | none => cases h
  | some y => cases y <;> simp_all [fzRes]
theorem fzRes_map {i : Nat} {ds : List D} {x : Option Res} {k : List (D × D)} (h : fzRes i ds x = some (.map k)) : x = some (.map k) := by
  cases x with
  | none => cases h
  | some y => cases y <;> simp_all [fzRes]
theorem fzRes_obj {i : Nat} {ds : List D} {x : Option Res} {l : List AV} (h : fzRes i ds x = some (.obj l)) : ∃ m, x = some (.obj m) ∧ l = m.map (fzA i ds) := by
  cases x with
  | none => cases h
  | some y => cases y <;> simp_all [fzRes]
theorem fzRes_some {i : Nat} {ds : List D} {x : Option Res} {y : Res} (h : fzRes i ds x = some y) : ∃ z, x = some z := by
  cases x with
  | none => cases h
  | some z => exact ⟨z, rfl⟩
theorem fzR_get {i : Nat} {ds : List D} {r : Rs} {j : Nat} {y : Option Res} (h : (fzR i ds r)[j]? = some y) : ∃ x, (r.set i none)[j]? = some x ∧ fzRes i ds x = y := by
  simp only [fzR, List.getElem?_map, Option.map_eq_some_iff] at h
  exact h
/-- .. and what stands in the call's other rows and structs tells it, too. -/
theorem HC_layR (i : Nat) {c : Code} {b : Nat → AV} {sl : List (Nat × AV)} {r : Rs} {l : List AV} {ds : List D} (ho : objOf r i = some l) (hl : allD l = some ds) (h : HC P ti G N c K ⟨b, fzL i ds sl, fzR i ds r⟩) : HC P ti G N c K ⟨b, sl, r⟩ := by
  intro E0 r0 w0 E a w hR hS
  obtain ⟨bb, T', hb, hlen, hrm, hgood, hst⟩ := lay_row hR.good ho hl
  have h12 : Step ⟨T', E.bl⟩ (r.set i none) w ⟨T', E.bl⟩ (fzR i ds r) w := by
    refine ⟨rfl, rfl, rfl, Nat.le_refl _, fun _ _ _ => ⟨rfl, rfl⟩, fun q ⟨j, x, hj, hbj⟩ => ?_, Lasts.refl _ _, ShapeLasts.refl _, ⟨by simp [fzR], fun j k _ hj => ?_, fun j k _ hj => ?_, fun j k _ hj => ?_⟩⟩
    · obtain ⟨x', hj, he⟩ := fzR_get hj
      obtain ⟨z, rfl⟩ := fzRes_some he
      exact .inl ⟨j, z, hj, hbj⟩
    · obtain ⟨x', hj, he⟩ := fzR_get hj
      rw [fzRes_tok he] at hj
      exact ⟨k, hj, Nat.le_refl _, fun _ => rfl⟩
    · obtain ⟨x', hj2, he⟩ := fzR_get hj
      obtain ⟨m, rfl, rfl⟩ := fzRes_obj he
      exact ⟨m, hj2, by simp, rfl⟩
    · obtain ⟨x', hj, he⟩ := fzR_get hj
      rw [fzRes_map he] at hj
      exact ⟨k, hj, rfl⟩
  have hfz : ∀ (l1 : List AV) (vs : List Value), RAL E r w l1 vs → RAL ⟨T', E.bl⟩ (fzR i ds r) w (l1.map (fzA i ds)) vs := by
    intro l1
    induction l1 with
    | nil => intro vs hv; simpa [RAL] using hv
    | cons x l1 ih =>
      intro vs hv
      simp only [RAL, List.map_cons] at hv ⊢
      obtain ⟨v, rest, h1, h2, h3⟩ := hv
      exact ⟨v, rest, h1, (fz_sound hR.good ho hb hlen hrm hst h2).step h12, ih rest h3⟩
  refine h E0 r0 w0 ⟨T', E.bl⟩ a w ⟨hR.size, fun k => ?_, ?_, hR.defers⟩ ((hS.trans hst).trans h12)
  rotate_left
  ·   refine ⟨fun j k q hj hq => ?_, fun j k hj => ?_, fun j k hj => ?_, fun j k x y q hj hk hbj hbk => ?_, hgood.fresh, hgood.glob⟩
      · obtain ⟨x', hj, he⟩ := fzR_get hj
        rw [fzRes_tok he] at hj
        exact hgood.tok j k q hj hq
      · obtain ⟨x', hj2, he⟩ := fzR_get hj
        obtain ⟨m, rfl, rfl⟩ := fzRes_obj he
        obtain ⟨q, hq, h1, vs, e, h2, h3, h4⟩ := hgood.obj j m hj2
        obtain ⟨q', hq', _, vs', e', h2', h3', _⟩ := hR.good.obj j m (getElem?_setnone hj2).2
        have hq' : E.bl j = some q' := hq'
        have hqq : q' = q := by
          have hq : E.bl j = some q := hq
          rw [hq] at hq'; injection hq' with hq'; exact hq'.symm
        subst hqq
        rw [h2] at h2'
        injection h2' with h2'
        injection h2' with h5 _
        subst h5
        exact ⟨q', hq, h1, vs, e, h2, hfz m _ h3', h4⟩
      · obtain ⟨x', hj, he⟩ := fzR_get hj
        rw [fzRes_map he] at hj
        exact hgood.map j k hj
      · obtain ⟨x', hj, he⟩ := fzR_get hj
        obtain ⟨y', hk, he2⟩ := fzR_get hk
        obtain ⟨z, rfl⟩ := fzRes_some he
        obtain ⟨z2, rfl⟩ := fzRes_some he2
        exact hgood.one j k z z2 q hj hk hbj hbk
  have hk := hR.slot k
  show RA _ (fzR i ds r) w (lk (fzL i ds sl) b k) _
  change RA E r w (lk sl b k) _ at hk
  rcases lk_fz (i := i) (ds := ds) (b := b) (l := sl) (k := k) with ⟨v, h1, h2⟩ | ⟨h1, h2⟩
  · rw [h2]; rw [h1] at hk; exact (fz_sound hR.good ho hb hlen hrm hst hk).step h12
  · rw [h2]; rw [h1] at hk; exact (hk.step hst).step h12
end
section
variable {P : Program} {ti : Ti} {G : Nat → List D} {N : Nat} {ops : Array Oper} {M : KM} {σ : St}
/-- An append whose result is taken as data. -/
theorem HO_appD (hti : TiOK P ti) {d : Option Tmp} {x y : Operand} {t u ty : TypeId} {ps : String} {af : Array Edge} {g : Option (Nat × Bool)} {rest : List Oper} {v : AV} {z : D} {r' : Rs} (hg : gd ops σ ⟨d, .call ⟨.builtin .append, #[x, y], #[t, u]⟩, ty, ps, af, g⟩ = some true)
    (he : evApp ti σ.r t u (σ.ev G x) (σ.ev G y) = some (v, r')) (hz : toD v = some z) (hd : ((⟨d, .call ⟨.builtin .append, #[x, y], #[t, u]⟩, ty, ps, af, g⟩ : Oper) :: rest).all (dstOK N) = true) (hkp : kpFree M (rest.length + 1) = true)
    (hk : EV P ti G N ops rest M (σ.putR d (.d z) r')) : HO P ti G N ops (⟨d, .call ⟨.builtin .append, #[x, y], #[t, u]⟩, ty, ps, af, g⟩ :: rest) M σ := by
  refine HO_sem hti (fun _ : Unit => .d z) (fun _ => r') (fun _ => True) hg hd rfl (fun E w a hR => ?_) rfl fun _ _ => hk
  obtain ⟨q, w', E', hrun, hra, hgood, hst⟩ := evA_sound (P := P) hti hR.good (fun q => ev_sound hR q) (o := ⟨d, .call ⟨.builtin .append, #[x, y], #[t, u]⟩, ty, ps, af, g⟩) (v := v) (r' := r') he
  rcases hrun with hrun | ⟨hrun, _⟩
  · exact ⟨(), q, w', E', trivial, hrun, by simpa only [RA] using toD_sound v q z hra hz, hgood, hst, .inl hkp⟩
  · exfalso
    have : ∀ s : Sem Value, (s.bind fun q => (pure (.value q) : Sem Next)).run P w ≠ .ok .skip w' := by
      intro s h
      have h2 : ((s >>= fun q => pure (.value q)) : Sem Next).run P w = .ok .skip w' := h
      rw [Sem.run_bind] at h2
      cases hs : s.run P w <;> rw [hs] at h2 <;> simp at h2
    revert hrun
    simp [execOp, resolve, invoke, builtin]
    intro h
    generalize (Builtin.append_ #[t, u] ty #[a.eval x, a.eval y]).run P w = q at h
    cases q <;> simp at h
end
end Go.Proofs.Ytfeoafddagdbfaa
