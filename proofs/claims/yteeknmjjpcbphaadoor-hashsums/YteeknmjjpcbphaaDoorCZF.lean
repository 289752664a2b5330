/- The frame of these proofs, part ZF: a call that only reads what it is handed, and tells numbers, texts and truth values alone: structs of the call's own are lent to it as data. -/
import Derived.Test.YteeknmjjpcbphaaDoorCZE
set_option linter.unusedVariables false
set_option linter.unusedSimpArgs false
namespace Go.Proofs.YteeknmjjpcbphaaDoor
open Go

/-- A datum that hangs on no memory. -/
def scalD : D → Bool
  | .c _ => true
  | .agg l => l.all fun d => match d with | .c _ => true | _ => false
  | _ => false
def scalA : AV → Bool
  | .d d => scalD d
  | .tup l => l.all fun a => match a with | .d d => scalD d | _ => false
  | _ => false
theorem scal_bD (l : List UInt8) : scalA (.d (.agg (bD l))) = true := by
  simp [scalA, scalD, bD]
theorem RL_scal {T T' : Nat → Nat} {w w' : World} : ∀ {l : List D} {vs : List Value}, (l.all fun d => match d with | .c _ => true | _ => false) = true → RL T w l vs → RL T' w' l vs
  | [], vs, _, h => by simpa [RL] using h
  | d :: l, vs, hs, h => by
    simp only [List.all_cons, Bool.and_eq_true] at hs
    simp only [RL] at h ⊢
    obtain ⟨v, rest, rfl, h1, h2, h3⟩ := h
    refine ⟨v, rest, rfl, h1, ?_, RL_scal hs.2 h3⟩
    cases d <;> simp only [RD, Bool.false_eq_true, false_and] at hs h2 ⊢
    exact h2
theorem RD_scal {T T' : Nat → Nat} {w w' : World} {d : D} {v : Value} (hs : scalD d = true) (h : RD T w d v) : RD T' w' d v := by
  cases d with
  | c y => simpa [RD] using h
  | sl sz n xs => simp [scalD] at hs
  | agg l =>
    simp only [RD] at h ⊢
    obtain ⟨vs, rfl, h⟩ := h
    exact ⟨vs, rfl, RL_scal hs h⟩
theorem RA_scal {E E' : Env} {r r' : Rs} {w w' : World} {a : AV} {v : Value} (hs : scalA a = true) (h : RA E r w a v) : RA E' r' w' a v := by
  cases a <;> simp only [scalA, Bool.false_eq_true] at hs
  case d d => simp only [RA] at h ⊢; exact RD_scal hs h
  case tup l =>
    simp only [RA] at h ⊢
    obtain ⟨vs, rfl, h⟩ := h
    refine ⟨vs, rfl, ?_⟩
    have : ∀ (l : List AV) (vs : List Value), (l.all fun a => match a with | .d d => scalD d | _ => false) = true → RAL E r w l vs → RAL E' r' w' l vs := by
      intro l
      induction l with
      | nil => intro vs _ h; simpa [RAL] using h
      | cons a l ih =>
        intro vs hs h
        simp only [List.all_cons, Bool.and_eq_true] at hs
        simp only [RAL] at h ⊢
        obtain ⟨v, rest, rfl, h1, h2⟩ := h
        refine ⟨v, rest, rfl, ?_, ih rest hs.2 h2⟩
        cases a <;> simp only [RA, Bool.false_eq_true, false_and] at hs h1 ⊢
        exact RD_scal hs.1 h1
    exact this l vs.toList hs h

/-! ### What is lent -/
def csize (w : World) (b : Nat) : Nat := match w.heap[b]? with
  | some (.cells vs _ _) => vs.size
  | _ => 0
def LentB (E : Env) (r : Rs) (b : Nat) : Prop := ∃ i l, r[i]? = some (some (.obj l)) ∧ E.bl i = some b ∧ (allD l).isSome = true
open Classical in
noncomputable def lentT (E : Env) (r : Rs) (w : World) : Nat → Nat := fun b => if LentB E r b then csize w b else E.T b
noncomputable def lentE (E : Env) (r : Rs) (w : World) : Env := ⟨lentT E r w, E.bl⟩
section
variable {G : Nat → List D} {E : Env} {r : Rs} {w : World}
theorem lentT_obj (hG : Good G E r w) {i b : Nat} {l : List AV} (hi : r[i]? = some (some (.obj l))) (hb : E.bl i = some b) (hl : (allD l).isSome = true) : lentT E r w b = csize w b := by
  unfold lentT; rw [if_pos ⟨i, l, hi, hb, hl⟩]
theorem lent_lasts (hG : Good G E r w) : Lasts E.T w (lentT E r w) w := by
  refine ⟨fun b => ?_, fun _ _ => rfl⟩
  unfold lentT
  split
  · rename_i h
    obtain ⟨i, l, hi, hb, _⟩ := h
    obtain ⟨b', hb', hT, _⟩ := hG.obj i l hi
    rw [hb] at hb'; injection hb' with hb'; subst hb'
    omega
  · exact Nat.le_refl _
theorem lent_good (hG : Good G E r w) : Good G (lentE E r w) [] w := by
  refine ⟨fun i k b h => (by simp at h), fun i l h => (by simp at h), fun i l h => (by simp at h), fun i j x y b h => (by simp at h), fun b hb => ?_, fun g => RM.lasts (lent_lasts hG) _ _ (hG.glob g)⟩
  show lentT E r w b = 0
  unfold lentT
  split
  · rename_i h
    obtain ⟨i, l, hi, hb2, _⟩ := h
    have := hG.lt hi hb2; omega
  · exact hG.fresh b hb
/-- A value as it is, or a pointer or slice into what is lent. -/
def BwA (r : Rs) (a b : AV) : Prop := (WeakA a b ∧ wfA 0 b = true) ∨ (∃ i off l ds, a = .ptr i off ∧ objOf r i = some l ∧ allD l = some ds ∧ b = .el (ds.drop off)) ∨
  (∃ i off sz n l ds, a = .osl i off sz n ∧ objOf r i = some l ∧ allD l = some ds ∧ 0 < n ∧ b = .d (.sl sz n ((ds.drop off).take (n * sz))))
theorem BwA.val {a b : AV} (h : WeakA a b) (hw : wfA 0 b = true) : BwA r a b := .inl ⟨h, hw⟩
theorem BwA.ptr {i off : Nat} {l : List AV} {ds : List D} (ho : objOf r i = some l) (hl : allD l = some ds) : BwA r (.ptr i off) (.el (ds.drop off)) := .inr (.inl ⟨i, off, l, ds, rfl, ho, hl, rfl⟩)
theorem BwA.ptr0 {i : Nat} {l : List AV} {ds : List D} (ho : objOf r i = some l) (hl : allD l = some ds) : BwA r (.ptr i 0) (.el ds) := .inr (.inl ⟨i, 0, l, ds, rfl, ho, hl, rfl⟩)
theorem BwA.osl {i off sz n : Nat} {l : List AV} {ds : List D} (ho : objOf r i = some l) (hl : allD l = some ds) (hn : 0 < n) : BwA r (.osl i off sz n) (.d (.sl sz n ((ds.drop off).take (n * sz)))) := .inr (.inr ⟨i, off, sz, n, l, ds, rfl, ho, hl, hn, rfl⟩)
theorem lent_row (hG : Good G E r w) {i : Nat} {l : List AV} {ds : List D} (ho : objOf r i = some l) (hl : allD l = some ds) : ∃ b, E.bl i = some b ∧ l.length = ds.length ∧ RM (lentT E r w) w ds ⟨b, 0, none⟩ := by
  obtain ⟨b, hb, hT, vs, e, hh, hral, hone⟩ := hG.obj i l (objOf_some ho)
  have hrl := allD_sound l _ ds hral hl hone
  have h1 := RAL_length _ _ hral
  have h2 := RL_length _ _ hrl
  refine ⟨b, hb, by omega, RM_of_values _ _ vs.toList (RL.lasts (lent_lasts hG) _ _ hrl) (fun j u hj => ?_) ?_⟩
  · rw [addr_plain, cell_of_row w b _ vs e (0, 0) hh]; simpa using hj
  · show 0 + ds.length ≤ lentT E r w b
    rw [lentT_obj hG (objOf_some ho) hb (by rw [hl]; rfl)]
    unfold csize
    rw [hh]
    simp only [Array.length_toList] at h2
    simp only; omega
theorem BwA.sound (hG : Good G E r w) {a b : AV} {x : Value} (h : BwA r a b) (hr : RA E r w a x) : RA (lentE E r w) [] w b x := by
  rcases h with ⟨h, hw⟩ | ⟨i, off, l, ds, rfl, ho, hl, rfl⟩ | ⟨i, off, sz, n, l, ds, rfl, ho, hl, hn, rfl⟩
  · have h1 := h.sound hr
    have hN : Names E r (lentE E r w) r := ⟨Nat.le_refl _, fun i k' _ h => ⟨k', h, Nat.le_refl _, fun _ => rfl⟩, fun i l' _ h => ⟨l', h, rfl, rfl⟩, fun i l' _ h => ⟨l', h, rfl⟩⟩
    exact RA_weak (r' := []) ⟨by simp, fun i x h => by simp at h⟩ b x hw (RA.lasts (lent_lasts hG) hN (ShapeLasts.refl w) b x h1)
  · obtain ⟨b, hb, hlen, hrm⟩ := lent_row hG ho hl
    simp only [RA] at hr ⊢
    obtain ⟨b2, hb2, rfl⟩ := hr.2 l (objOf_some ho)
    rw [hb] at hb2; injection hb2 with hb2; subst hb2
    refine ⟨_, rfl, ?_⟩
    have := RM_drop _ _ hrm off
    rwa [addr_plain, Nat.zero_add] at this
  · obtain ⟨b, hb, hlen, hrm⟩ := lent_row hG ho hl
    simp only [RA, RD] at hr ⊢
    obtain ⟨_, A, c, rfl, hc, hx⟩ := hr
    obtain ⟨hfit, hx⟩ := hx l (objOf_some ho)
    obtain ⟨b2, hb2, rfl⟩ := hx hn
    rw [hb] at hb2; injection hb2 with hb2; subst hb2
    refine ⟨by rw [List.length_take, List.length_drop]; omega, _, _, rfl, hc, .inr ⟨_, rfl, ?_⟩⟩
    have := RM_take _ _ (RM_drop _ _ hrm off) (n * sz)
    rwa [addr_plain, Nat.zero_add] at this
def BwAs (r : Rs) : List AV → List AV → Prop
  | [], [] => True
  | a :: l, b :: m => BwA r a b ∧ BwAs r l m
  | _, _ => False
theorem BwAs.sound (hG : Good G E r w) : ∀ {l m : List AV} {vs : List Value}, BwAs r l m → RAL E r w l vs → RAL (lentE E r w) [] w m vs
  | [], [], vs, _, h => by simpa [RAL] using h
  | a :: l, b :: m, vs, hk, h => by
    simp only [RAL] at h ⊢
    obtain ⟨v, rest, rfl, h1, h2⟩ := h
    exact ⟨v, rest, rfl, hk.1.sound hG h1, BwAs.sound hG hk.2 h2⟩
  | [], _ :: _, _, h, _ => h.elim
  | _ :: _, [], _, h, _ => h.elim
/-- Behind the call all is as it was. -/
theorem lent_back {P : Program} {f : FuncId} {args : List AV} {v0 : AV} (h : AC P G f args [] fun v r' => v = v0 ∧ r' = []) (hv : scalA v0 = true) (hG : Good G E r w) {vals : Array Value} (hA : RAL (lentE E r w) [] w args vals.toList) :
    Calls P f vals w fun e w' => ∃ x, e = .returned x ∧ RA E r w' v0 x ∧ Good G E r w' ∧ Step E r w E r w' ∧ Keeps w w' := by
  refine (h.2 _ w vals (lent_good hG) hA).mono fun e w' ⟨v, x, r', E1, he, ⟨hv1, hr1⟩, hra, hG1, hS⟩ => ?_
  subst hv1; subst hr1
  have hkeep : Keeps w w' := ⟨hS.size, fun b hb => (hS.block b hb (by rintro ⟨i, y, hi, _⟩; simp at hi)).1⟩
  have hst : Step E r w E r w' := by
    refine ⟨hS.os, hS.tape, hS.output, hS.size, fun b hb _ => ⟨hkeep.2 b hb, rfl⟩, fun b hb => .inl hb, ⟨fun _ => Nat.le_refl _, fun a ha => ?_⟩, hS.shape, Names.refl _ _⟩
    have hlt := hG.pub_lt ha
    unfold World.cell?
    rw [hkeep.2 _ hlt]
  refine ⟨x, he, RA_scal hv hra, ?_, hst, hkeep⟩
  refine ⟨fun i k b hi hb => ?_, fun i l hi => ?_, fun i l hi => ?_, hG.one, fun b hb => hG.fresh b (Nat.le_trans hS.size hb), fun g => RM.lasts hst.lasts _ _ (hG.glob g)⟩
  · obtain ⟨h1, cur, e, h2, h3⟩ := hG.tok i k b hi hb
    exact ⟨h1, cur, e, (hkeep.2 _ (hG.lt hi hb)).trans h2, h3⟩
  · obtain ⟨b, hb, h1, vs, e, h2, h3, h4⟩ := hG.obj i l hi
    exact ⟨b, hb, h1, vs, e, (hkeep.2 _ (hG.lt hi hb)).trans h2, h3.step hst, h4⟩
  · obtain ⟨b, hb, h1, h2⟩ := hG.map i l hi
    exact ⟨b, hb, h1, h2.lasts (T' := E.T) (hkeep.2 _ (hG.lt hi hb)) hst.lasts⟩
end
section
variable {P : Program} {ti : Ti} {G : Nat → List D} {N : Nat} {ops : Array Oper} {σ : St}
theorem HO_lend (hti : TiOK P ti) {o : Oper} {rest : List Oper} {M : KM} {f : FuncId} {as args : List AV} {v0 : AV} {c : Call} (h : AC P G f args [] fun v r' => v = v0 ∧ r' = []) (hv : scalA v0 = true) (ho : o.op = .call c)
    (hg : gd ops σ o = some true) (hc : calleeOf (σ.ev G) c = some (f, as)) (hd : (o :: rest).all (dstOK N) = true) (hw : BwAs σ.r as args)
    (hk : EV P ti G N ops rest M (σ.putR o.dst v0 σ.r)) : HO P ti G N ops (o :: rest) M σ := by
  simp only [List.all_cons, Bool.and_eq_true] at hd
  cases M with
  | plain K =>
    intro E0 r0 w0 E a w hR hS
    unfold wpList
    rw [if_pos (gd_sound hR hg)]
    left
    obtain ⟨vals, hrun, hral⟩ := callee_run (P := P) (fun x => ev_sound hR x) ho hc h.1
    unfold Oper.wp
    rw [hrun, Oper.upon_enter]
    refine (lent_back h hv hR.good (hw.sound hR.good hral)).mono fun e w' hq => ?_
    obtain ⟨x, rfl, hra, hgood, hst, _⟩ := hq
    have hrel := hR.putO hst hgood hd.1 hra
    rw [putR_eq] at hrel
    exact HO_of_EV hti hd.2 hk E0 r0 w0 E _ w' hrel (hS.trans hst)
  | draw π kp K =>
    intro hok hl
    obtain ⟨L, pl⟩ := plan_of hok
    obtain ⟨i0, hd0, ho0, hrest, hk1⟩ := opl_cons pl hl
    have he : isEff ti o = true := by
      unfold isEff
      have : stops o.op = true := by
        rw [ho]
        unfold calleeOf at hc
        split at hc
        · rename_i x hx; simp [stops, hx]
        · cases hc
      simp [this]
    refine DWp_step pl hd0 ho0 hk1 he fun E0 r0 w0 E b w hR hS a C heq hwq hC => ?_
    have hgd := gd_sound hR hg
    rw [hwq] at hgd
    rw [if_pos hgd]
    obtain ⟨vals, hrun, hral⟩ := callee_run (P := P) (fun x => ev_sound hR x) ho hc h.1
    unfold Oper.wp
    rw [← heq, hrun, Oper.upon_enter]
    refine (lent_back h hv hR.good (hw.sound hR.good hral)).mono fun e w' hq => ?_
    obtain ⟨x, rfl, hra, hgood, hst, hkeep⟩ := hq
    have hrel := hR.putO hst hgood hd.1 hra
    rw [putR_eq] at hrel
    exact hC x w' E _ hrel (hS.trans hst) (fun _ => hkeep) (ED_sound hti pl hok rest _ _ hk1 hrest hk)
end
end Go.Proofs.YteeknmjjpcbphaaDoor
