/- The frame of these proofs, part Z: regions that draw their order. -/
import Derived.Test.YteeknmjjpcbphaaDoorCY
import Derived.Orders
set_option linter.unusedVariables false
set_option linter.unusedSimpArgs false
namespace Go.Proofs.YteeknmjjpcbphaaDoor
open Go

theorem tK_int {ti : Ti} {t : TypeId} {k : IntKind} (h : tK ti t = .int k) : ∃ s b z, ti t = some ⟨.int k, s, b, z⟩ := by
  unfold tK at h
  split at h
  · rename_i i hi
    obtain ⟨u, s, b, z⟩ := i
    cases u <;> simp [tkOf] at h
    subst h
    exact ⟨s, b, z, hi⟩
  · cases h
theorem tK_bool {ti : Ti} {t : TypeId} (h : tK ti t = .bool) : ∃ s b z, ti t = some ⟨.bool, s, b, z⟩ := by
  unfold tK at h
  split at h
  · rename_i i hi
    obtain ⟨u, s, b, z⟩ := i
    cases u <;> simp [tkOf] at h
    exact ⟨s, b, z, hi⟩
  · cases h
theorem tK_str {ti : Ti} {t : TypeId} (h : tK ti t = .str) : ∃ s b z, ti t = some ⟨.string, s, b, z⟩ := by
  unfold tK at h
  split at h
  · rename_i i hi
    obtain ⟨u, s, b, z⟩ := i
    cases u <;> simp [tkOf] at h
    exact ⟨s, b, z, hi⟩
  · cases h
theorem tK_arr {ti : Ti} {t e : TypeId} {n : Nat} (h : tK ti t = .arr n e) : ∃ u s b z, ti t = some ⟨u, s, b, z⟩ ∧ kdOf u = none := by
  unfold tK at h
  split at h
  · rename_i i hi
    obtain ⟨u, s, b, z⟩ := i
    cases u <;> simp [tkOf] at h
    exact ⟨_, s, b, z, hi, rfl⟩
  · cases h
theorem tK_st {ti : Ti} {t : TypeId} (h : tK ti t = .st) : ∃ u s b z, ti t = some ⟨u, s, b, z⟩ ∧ kdOf u = none := by
  unfold tK at h
  split at h
  · rename_i i hi
    obtain ⟨u, s, b, z⟩ := i
    cases u <;> simp [tkOf] at h
    exact ⟨_, s, b, z, hi, rfl⟩
  · cases h
theorem tK_sl {ti : Ti} {t e : TypeId} (h : tK ti t = .sl e) : ∃ s b z, ti t = some ⟨.slice e, s, b, z⟩ := by
  unfold tK at h
  split at h
  · rename_i i hi
    obtain ⟨u, s, b, z⟩ := i
    cases u <;> simp [tkOf] at h
    subst h
    exact ⟨s, b, z, hi⟩
  · cases h
theorem RA_const {E E' : Env} {r r' : Rs} {w w' : World} {y x : Value} (h : RA E r w (.d (.c y)) x) : RA E' r' w' (.d (.c y)) x := by
  simpa only [RA, RD] using h
theorem evNil_no {ti : Ti} {r : Rs} {t : TypeId} {neg : Bool} {x y : AV} {i : TI} (hi : ti t = some i) (hk : kdOf i.u = none) : evNil ti r t neg x y = none := by
  unfold evNil
  split
  · rename_i i' k c k' h1 _ _
    rw [hi] at h1; injection h1 with h1; subst h1; rw [hk]; simp
  · rfl
theorem pure_free {P : Program} {ti : Ti} (hti : TiOK P ti) {G : Nat → List D} {E : Env} {r : Rs} {w : World} (hG : Good G E r w) {ρ : Operand → AV} {α : Operand → Value} (hev : ∀ x, RA E r w (ρ x) (α x))
    {o : Oper} {v : AV} (hp : pureOp ti o.op = true) (e : evP ti ρ r o.op = some v) : ∃ z, (∀ w', (execOp α o).run P w' = .ok (.value z) w') ∧ RA E r w v z := by
  cases ho : o.op <;> rw [ho] at e hp <;> simp only [pureOp, reduceCtorEq, Bool.false_eq_true] at hp <;> simp only [evP, reduceCtorEq] at e
  case move x => injection e with e; subst e; exact ⟨_, fun w' => by simp [execOp, ho], hev x⟩
  case assign x => injection e with e; subst e; exact ⟨_, fun w' => by simp [execOp, ho], hev x⟩
  case pick c a b =>
    unfold evPick at e
    split at e
    · rename_i t ht
      injection e with e; subst e
      have hc := hev c
      rw [ht] at hc
      simp only [RA, RD] at hc
      refine ⟨if t = true then α a else α b, fun w' => by simp [execOp, ho, hc.1, asBool], ?_⟩
      cases t
      · simpa using hev b
      · simpa using hev a
    · cases e
  case extract t i =>
    unfold evExt at e
    split at e
    · rename_i l hl
      have ht := hev t
      rw [hl] at ht
      simp only [RA] at ht
      obtain ⟨vs, hp, hr⟩ := ht
      obtain ⟨z, hz, hzr⟩ := RAL_get l _ hr i v e
      have hz' : vs[i]? = some z := by simpa using hz
      exact ⟨z, fun w' => by simp [execOp, ho, hp, Instr.extract, hz'], hzr⟩
    · cases e
  case unOp op t x =>
    unfold evUn at e
    split at e
    · rename_i v' hv'
      simp only [Option.bind_eq_some_iff] at e
      obtain ⟨u, hu, e⟩ := e
      obtain ⟨h1, e⟩ := chk_some e
      injection e with e; subst e
      have hx := hev x
      rw [hv'] at hx
      simp only [RA, RD] at hx
      exact ⟨u, fun w' => by simp [execOp, ho, hx.1, vUn_run hu w'], by simp [RA, RD, h1]⟩
    · cases e
  case binOp op t x y ty =>
    have hno : ∀ neg a b, evNil ti r t neg a b = none := by
      intro neg a b
      split at hp
      · rename_i k hk; obtain ⟨s, bb, z, h⟩ := tK_int hk; exact evNil_no h rfl
      · rename_i hk; obtain ⟨s, bb, z, h⟩ := tK_bool hk; exact evNil_no h rfl
      · rename_i hk; obtain ⟨s, bb, z, h⟩ := tK_str hk; exact evNil_no h rfl
      · rename_i hk; obtain ⟨u, s, bb, z, h, hu⟩ := tK_arr hk; exact evNil_no h hu
      · rename_i hk; obtain ⟨u, s, bb, z, h, hu⟩ := tK_st hk; exact evNil_no h hu
      · cases hp
    have hno2 : ∀ a b, RA E r w a (α x) → RA E r w b (α y) → evNilOp ti r op t a b = some v → ∃ z, (∀ w', (execOp α o).run P w' = .ok (.value z) w') ∧ RA E r w v z := by
      intro a b ha hb h
      have both : ∀ q : Bool, op = (if q then .neq else .eql) → evEqA ti t q a b = some v → ∃ z, (∀ w', (execOp α o).run P w' = .ok (.value z) w') ∧ RA E r w v z := by
        intro q hop h
        obtain ⟨u, rfl, hu⟩ := evEqA_sound hti ha hb h x y
        subst hop
        exact ⟨.bool u, fun w' => by simp [execOp, ho, (hu w').1, (hu w').2], by simp [RA, RD, Value.oneCell']⟩
      cases op <;> simp only [evNilOp, hno, Option.none_or, reduceCtorEq] at h
      · exact both false rfl h
      · exact both true rfl h
    have hx := hev x
    have hy := hev y
    unfold evBin at e
    split at e
    · rename_i va vb h1 h2
      rw [h1] at hx; rw [h2] at hy
      split at e
      · rename_i u hu
        obtain ⟨h1, e⟩ := chk_some e
        injection e with e; subst e
        simp only [RA, RD] at hx hy
        exact ⟨u, fun w' => by simp [execOp, ho, hx.1, hy.1, vBin_guard hu x y w', vBin_run (fun h => isBool_sound hti h) hu w'], by simp [RA, RD, h1]⟩
      · exact hno2 _ _ (by rw [← h1]; exact hev x) (by rw [← h2]; exact hev y) e
    · exact hno2 _ _ (hev x) (hev y) e
  case convert s d x =>
    split at hp
    · rename_i k hk
      obtain ⟨sz, bb, z, h⟩ := tK_int hk
      have hx := hev x
      unfold evConv at e
      split at e
      · rename_i si t' hs ht'
        rw [h] at ht'; injection ht' with ht'; subst ht'
        simp only at e
        split at e
        · rename_i k2 kk n hxx hku
          injection hxx with hxx; subst hxx
          injection e with e; subst e
          rw [hku] at hx
          simp only [RA, RD] at hx
          obtain ⟨hx, _⟩ := hx
          exact ⟨.int k (k.wrap n), fun w' => by simp [execOp, ho, hx, convert, run_underlying (ti_u hti hs), run_underlying (ti_u hti h), Conv.intToInt], by simp [RA, RD, Value.oneCell']⟩
        all_goals first | (cases e; done) | (rename_i hq _; cases hq; done) | (rename_i hq; cases hq; done) | skip
      · cases e
    · cases hp
  case slice t x lo hi mx =>
    split at e
    · rename_i l h m hl hh hm
      obtain ⟨z, h1, h2⟩ := evSlice_sound hti hG (hev x) (optI_sound' hev hl) (optI_sound' hev hh) (optI_sound' hev hm) e
      exact ⟨z, fun w' => by simp [execOp, ho, h1], h2⟩
    · cases e
  case indexAddr t x i =>
    split at e
    · rename_i n hn
      obtain ⟨k, hk⟩ := intOfA_sound (hev i) hn
      obtain ⟨z, h1, h2⟩ := evIndexAddr_sound (P := P) hti (kd := k) (hev x) e
      exact ⟨z, fun w' => by simp [execOp, ho, hk, h1], h2⟩
    · cases e
  case fieldAddr t x f =>
    obtain ⟨z, h1, h2⟩ := evFieldAddr_sound (P := P) hti (hev x) e
    exact ⟨z, fun w' => by simp [execOp, ho, h1], h2⟩
  case field t x f =>
    obtain ⟨z, h1, h2⟩ := evField_sound (P := P) hti (hev x) e
    exact ⟨z, fun w' => by simp [execOp, ho, h1], h2⟩
  case makeFunc f a b =>
    injection e with e; subst e
    refine ⟨.func f (a.map α) (b.map α), fun w' => by simp [execOp, ho, Instr.makeFunc], ?_⟩
    simp only [RA]
    exact ⟨_, _, rfl, by simpa using RAL_ev hev a.toList, by simpa using RAL_ev hev b.toList⟩
  case nilCheck x =>
    unfold evNC at e
    have hx := hev x
    split at e
    · rename_i i off hio
      simp only [Option.map_eq_some_iff] at e
      obtain ⟨l, hl, rfl⟩ := e
      rw [hio] at hx
      have hx' := hx
      simp only [RA] at hx'
      obtain ⟨b, hb, hp⟩ := hx'.2 l (objOf_some hl)
      exact ⟨α x, fun w' => by simp [execOp, ho, hp], hx⟩
    · rename_i xs hxs
      injection e with e; subst e
      rw [hxs] at hx
      have hx' := hx
      simp only [RA] at hx'
      obtain ⟨ad, hp, _⟩ := hx'
      exact ⟨α x, fun w' => by simp [execOp, ho, hp], hx⟩
    · rename_i f a b hf
      injection e with e; subst e
      rw [hf] at hx
      have hx' := hx
      simp only [RA] at hx'
      obtain ⟨vs, us, hp, _⟩ := hx'
      exact ⟨α x, fun w' => by simp [execOp, ho, hp], hx⟩
    · cases e
  case index t x i =>
    split at hp
    · rename_i hk
      obtain ⟨sz, bb, z, h⟩ := tK_str hk
      split at e
      · rename_i n hn
        obtain ⟨k, hk⟩ := intOfA_sound (hev i) hn
        have hx := hev x
        have hc : ∃ s u, ρ x = .d (.c (.string s)) ∧ v = .d (.c u) := by
          unfold evIndex at e
          rw [h] at e
          generalize ρ x = q at e
          split at e
          all_goals first
            | (rename_i hq; cases hq; done)
            | (cases e; done)
            | skip
          rename_i s _
          obtain ⟨_, e⟩ := chk_some e
          injection e with e
          exact ⟨s, _, rfl, e.symm⟩
        obtain ⟨s, u, hs, rfl⟩ := hc
        rw [hs] at hx e
        obtain ⟨z, h1, h2⟩ := evIndex_sound (P := P) hti (kd := k) hx e
        refine ⟨z, fun w' => ?_, h2⟩
        obtain ⟨z', h1', h2'⟩ := evIndex_sound (P := P) hti (kd := k) (RA_const (E' := E) (r' := r) (w' := w') hx) e
        simp only [RA, RD] at h2 h2'
        rw [h2.1, ← h2'.1]
        simp [execOp, ho, hk, h1']
      · cases e
    · cases hp
  case call c =>
    split at hp
    · rename_i t hc hts
      unfold evCall at e
      rw [hc] at e
      simp only at e
      split at e
      · rename_i x t' hxl htl
        rw [hts] at htl
        injection htl with htl; subst htl
        simp only [Option.map_eq_some_iff] at e
        obtain ⟨n, hn, rfl⟩ := e
        refine ⟨.int .i64 n, fun w' => ?_, by simp [RA, RD, Value.oneCell']⟩
        have hx := hev x
        have key : (Builtin.len_ #[t] o.type #[α x]).run P w' = .ok (.int .i64 n) w' := by
          have hsplit : (∃ sz b z, ti t = some ⟨.string, sz, b, z⟩) ∨ (∃ e sz b z, ti t = some ⟨.slice e, sz, b, z⟩) := by
            split at hp
            · rename_i hk; exact .inl (tK_str hk)
            · rename_i e hk; obtain ⟨a, b, c, h⟩ := tK_sl hk; exact .inr ⟨e, a, b, c, h⟩
            · cases hp
          generalize α x = ax at hx
          generalize ρ x = q at hn hx
          unfold lenAV at hn
          rcases hsplit with ⟨sz, b, z, h⟩ | ⟨e, sz, b, z, h⟩
          · rw [h] at hn
            have hut := ti_run hti h w'
            split at hn
            all_goals first
              | (cases hn; done)
              | (rename_i hq; cases hq; done)
              | skip
            injection hn with hn; subst hn
            simp only [RA, RD] at hx; obtain ⟨rfl, _⟩ := hx
            simp [Builtin.len_, hut, goInt]
          · rw [h] at hn
            have hut := ti_run hti h w'
            split at hn
            all_goals first
              | (cases hn; done)
              | (rename_i hq; cases hq; done)
              | skip
            all_goals (injection hn with hn; subst hn; simp only [RA, RD] at hx)
            all_goals first
              | (obtain ⟨rfl, _⟩ := hx; simp [Builtin.len_, hut, goInt]; done)
              | (obtain ⟨_, A, c, rfl, _⟩ := hx; simp [Builtin.len_, hut, goInt]; done)
        simp [execOp, ho, resolve, hc, toList_one hxl, toList_one hts, invoke, builtin, key]
      · cases e
    · cases hp

section
variable {P : Program} {ti : Ti} {G : Nat → List D} {N : Nat}
theorem wpOp_mono' {ops : Array Oper} {Q Q' : Exit → Act → World → Prop} (hq : ∀ e a w, Q e a w → Q' e a w) {i : Nat} {K K' : Act → World → Prop} (hk : ∀ a w, K a w → K' a w) {a : Act} {w : World} (h : wpOp P ops Q i K a w) : wpOp P ops Q' i K' a w := by
  unfold wpOp at h ⊢
  split at h
  · exact hk _ _ h
  · rename_i o _
    split at h
    · rename_i hw
      rw [if_pos hw]
      have hlo : LetsOut Q → LetsOut Q' := fun ⟨a, w, h⟩ => ⟨a, w, hq _ _ _ h⟩
      rcases h with h | h
      · left
        unfold Oper.wp at h ⊢
        generalize (execOp a.eval o).run P w = res at h ⊢
        cases res with
        | ok n w' =>
          cases n <;> simp only [Oper.upon] at h ⊢ <;> first
            | exact hk _ _ h
            | exact Calls.mono h (fun e w'' he => by cases e <;> first | exact hk _ _ he | exact hq _ _ _ he | exact hlo he)
            | exact Rows.mono h (fun _ _ he => hk _ _ he)
        | halt x w' => cases x <;> simp only [Oper.upon] at h ⊢ <;> first | exact h | exact hq _ _ _ h
      · right
        exact ⟨h.1, hlo h.2⟩
    · rename_i hw
      rw [if_neg hw]
      exact hk _ _ h
theorem wpAny_mono' {ops : Array Oper} {md : Region.Mode} {Q Q' : Exit → Act → World → Prop} (hq : ∀ e a w, Q e a w → Q' e a w) : ∀ (fuel : Nat) (listed : Array Bool) (a : Act) (w : World), wpAny P md ops Q fuel listed a w → wpAny P md ops Q' fuel listed a w
  | 0, _, _, _, h => ⟨h.1, hq _ _ _ h.2⟩
  | fuel + 1, _, _, _, h => ⟨fun h0 => hq _ _ _ (h.1 h0), fun i hi => wpOp_mono' hq (fun a w h => wpAny_mono' hq fuel _ a w h) (h.2 i hi)⟩
theorem evA_pure {ti : Ti} {ρ : Operand → AV} {r r' : Rs} {op : Op} {v : AV} (hp : pureOp ti op = true) (e : evA ti ρ r op = some (v, r')) : evP ti ρ r op = some v ∧ r' = r := by
  cases op <;> simp only [pureOp, reduceCtorEq, Bool.false_eq_true] at hp
  case convert s d x =>
    split at hp
    · rename_i k hk
      obtain ⟨sz, b, z, h⟩ := tK_int hk
      simp only [evA] at e
      split at e
      · rename_i u hu
        simp only [Option.some.injEq, Prod.mk.injEq] at e
        obtain ⟨rfl, rfl⟩ := e
        exact ⟨hu, rfl⟩
      · simp only [evR] at e
        exact absurd e (evCB_no (by rw [h]; intro el s b z he; cases he))
    · cases hp
  case call c =>
    simp only [evA] at e
    split at hp
    · rename_i t hc hts
      rw [hc] at e
      simp only [Option.map_eq_some_iff, Prod.mk.injEq] at e
      obtain ⟨u, hu, rfl, rfl⟩ := e
      exact ⟨hu, rfl⟩
    · cases hp
  all_goals
    simp only [evA, Option.map_eq_some_iff, Prod.mk.injEq] at e
    obtain ⟨u, hu, rfl, rfl⟩ := e
    exact ⟨hu, rfl⟩
end
end Go.Proofs.YteeknmjjpcbphaaDoor
