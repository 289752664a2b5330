/- The frame of these proofs, part J: all operations that only compute, in one word. -/
import Derived.Test.YteeknmjjpcbphaaDoorCIE
import Derived.Laws.Strings
set_option linter.unusedVariables false
set_option linter.unusedSimpArgs false
namespace Go.Proofs.YteeknmjjpcbphaaDoor
open Go

/-! ### nil -/
inductive NK where
  | ptr
  | map
  | fn
  deriving DecidableEq
/-- A pointer, map or function: is it nil? -/
def absNil (r : Rs) : AV → Option (NK × Bool)
  | .d (.c (.pointer none)) => some (.ptr, true)
  | .d (.c (.map none)) => some (.map, true)
  | .d (.c .nilFunc) => some (.fn, true)
  | .ptr i _ => (objOf r i).map fun _ => (.ptr, false)
  | .mp i => match r[i]? with | some (some (.map _)) => some (.map, false) | _ => none
  | .el _ => some (.ptr, false)
  | .fn _ _ _ => some (.fn, false)
  | _ => none
def NKv : NK → Bool → Value → Prop
  | .ptr, c, a => ∃ p, a = .pointer p ∧ p.isNone = c
  | .map, c, a => ∃ p, a = .map p ∧ p.isNone = c
  | .fn, c, a => (a = .nilFunc ∧ c = true) ∨ ∃ f x y, a = .func f x y ∧ c = false
theorem absNil_sound {E : Env} {r : Rs} {w : World} {x : AV} {a : Value} {k : NK} {c : Bool} (h : RA E r w x a) (e : absNil r x = some (k, c)) : NKv k c a := by
  unfold absNil at e
  split at e
  · simp only [Option.some.injEq, Prod.mk.injEq] at e; obtain ⟨rfl, rfl⟩ := e
    simp only [RA, RD] at h; exact ⟨none, h.1, rfl⟩
  · simp only [Option.some.injEq, Prod.mk.injEq] at e; obtain ⟨rfl, rfl⟩ := e
    simp only [RA, RD] at h; exact ⟨none, h.1, rfl⟩
  · simp only [Option.some.injEq, Prod.mk.injEq] at e; obtain ⟨rfl, rfl⟩ := e
    simp only [RA, RD] at h; exact .inl ⟨h.1, rfl⟩
  · simp only [Option.map_eq_some_iff, Prod.mk.injEq] at e
    obtain ⟨l, hl, rfl, rfl⟩ := e
    simp only [RA] at h
    obtain ⟨b, _, rfl⟩ := h.2 l (objOf_some hl)
    exact ⟨_, rfl, rfl⟩
  · split at e
    · rename_i l hl
      simp only [Option.some.injEq, Prod.mk.injEq] at e; obtain ⟨rfl, rfl⟩ := e
      simp only [RA] at h
      obtain ⟨b, _, rfl⟩ := h.2 l hl
      exact ⟨_, rfl, rfl⟩
    · cases e
  · simp only [Option.some.injEq, Prod.mk.injEq] at e; obtain ⟨rfl, rfl⟩ := e
    simp only [RA] at h
    obtain ⟨ad, rfl, _⟩ := h
    exact ⟨_, rfl, rfl⟩
  · simp only [Option.some.injEq, Prod.mk.injEq] at e; obtain ⟨rfl, rfl⟩ := e
    simp only [RA] at h
    obtain ⟨vs, us, rfl, _⟩ := h
    exact .inr ⟨_, _, _, rfl, rfl⟩
  · cases e
def kdOf : TypeDesc → Option NK
  | .pointer _ => some .ptr
  | .map _ _ => some .map
  | .func _ _ _ => some .fn
  | _ => none
theorem nil_run {P : Program} {w : World} {t : TypeId} {d : TypeDesc} (hu : P.underlying t = some d) {k : NK} (hk : kdOf d = some k) {a b : Value} {c : Bool} (ha : NKv k c a) (hb : NKv k true b) (neg : Bool) (ox oy : Operand) :
    (eqGuard (if neg then .neq else .eql) t ox oy a b).run P w = .ok () w ∧ (binOp (if neg then .neq else .eql) t a b).run P w = .ok (.bool (if neg then !c else c)) w := by
  have fin : (∀ m : Nat, (Op.equalIn (m + 1) t a b).run P w = .ok c w) → (binOp (if neg then .neq else .eql) t a b = (if neg then (do pure (.bool (!(← Op.equal t a b)))) else (do pure (.bool (← Op.equal t a b))) : Sem Value)) →
      (binOp (if neg then .neq else .eql) t a b).run P w = .ok (.bool (if neg then !c else c)) w := by
    intro h1 h2
    have k2 : (Op.equal t a b).run P w = .ok c w := h1 9999
    rw [h2]
    cases neg <;> simp [k2]
  cases d <;> simp only [kdOf, Option.some.injEq, reduceCtorEq] at hk
  all_goals subst hk
  · obtain ⟨p, rfl, hp⟩ := ha
    obtain ⟨q, rfl, hq⟩ := hb
    have hq' : q = none := by simpa using hq
    subst hq'
    refine ⟨by cases neg <;> simp [eqGuard], fin (fun m => ?_) (by cases neg <;> rfl)⟩
    cases p <;> simp [Op.equalIn, run_underlying hu] <;> simpa using hp
  · obtain ⟨p, rfl, hp⟩ := ha
    obtain ⟨q, rfl, hq⟩ := hb
    have hq' : q = none := by simpa using hq
    subst hq'
    refine ⟨by cases neg <;> simp [eqGuard], fin (fun m => ?_) (by cases neg <;> rfl)⟩
    cases p <;> simp [Op.equalIn, run_underlying hu] <;> simpa using hp
  · have hb' : b = .nilFunc := by
      rcases hb with ⟨h, _⟩ | ⟨_, _, _, _, h⟩
      · exact h
      · cases h
    subst hb'
    rcases ha with ⟨rfl, rfl⟩ | ⟨f, x, y, rfl, rfl⟩
    · refine ⟨by cases neg <;> simp [eqGuard], fin (fun m => ?_) (by cases neg <;> rfl)⟩
      simp [Op.equalIn, run_underlying hu]
    · refine ⟨by cases neg <;> simp [eqGuard], fin (fun m => ?_) (by cases neg <;> rfl)⟩
      simp [Op.equalIn, run_underlying hu]
def evNil (ti : Ti) (r : Rs) (t : TypeId) (neg : Bool) (x y : AV) : Option AV :=
  match ti t, absNil r x, absNil r y with
  | some i, some (k, c), some (k', true) => if kdOf i.u = some k ∧ k = k' then some (.d (.c (.bool (if neg then !c else c)))) else none
  | _, _, _ => none
def isBool (ti : Ti) (t : TypeId) : Bool := match ti t with
  | some ⟨.bool, _, _, _⟩ => true
  | _ => false
theorem isBool_sound {P : Program} {ti : Ti} (hti : TiOK P ti) {t : TypeId} (h : isBool ti t = true) : P.underlying t = some .bool := by
  unfold isBool at h
  split at h
  · rename_i h1; exact ti_u hti h1
  · cases h
def evNilOp (ti : Ti) (r : Rs) (op : BinOp) (t : TypeId) (x y : AV) : Option AV :=
  match op with
  | .eql => (evNil ti r t false x y).or (evEqA ti t false x y)
  | .neq => (evNil ti r t true x y).or (evEqA ti t true x y)
  | _ => none
def oneC (v : Value) : Option AV := chk (v.oneCell' = true) (some (.d (.c v)))
def evBin (ti : Ti) (r : Rs) (op : BinOp) (t : TypeId) (x y : AV) : Option AV :=
  match x, y with
  | .d (.c a), .d (.c b) => match vBin (isBool ti t) op a b with
    | some v => oneC v
    | none => evNilOp ti r op t (.d (.c a)) (.d (.c b))
  | x, y => evNilOp ti r op t x y
theorem evNil_sound {P : Program} {ti : Ti} (hti : TiOK P ti) {E : Env} {r : Rs} {w : World} {t : TypeId} {neg : Bool} {x y v : AV} {a b : Value} (hx : RA E r w x a) (hy : RA E r w y b) (e : evNil ti r t neg x y = some v) (ox oy : Operand) :
    ∃ z, (eqGuard (if neg then .neq else .eql) t ox oy a b).run P w = .ok () w ∧ (binOp (if neg then .neq else .eql) t a b).run P w = .ok z w ∧ RA E r w v z := by
  unfold evNil at e
  split at e
  · rename_i i k c k' hi h1 h2
    split at e
    · rename_i hk
      obtain ⟨hk1, rfl⟩ := hk
      injection e with e; subst e
      obtain ⟨g1, g2⟩ := nil_run (w := w) (ti_u hti hi) hk1 (absNil_sound hx h1) (absNil_sound hy h2) neg ox oy
      exact ⟨_, g1, g2, by simp [RA, RD, Value.oneCell']⟩
    · cases e
  · cases e
theorem evBin_sound {P : Program} {ti : Ti} (hti : TiOK P ti) {E : Env} {r : Rs} {w : World} {op : BinOp} {t : TypeId} {x y v : AV} {a b : Value} (hx : RA E r w x a) (hy : RA E r w y b) (e : evBin ti r op t x y = some v) (ox oy : Operand) :
    ∃ z, (eqGuard op t ox oy a b).run P w = .ok () w ∧ (binOp op t a b).run P w = .ok z w ∧ RA E r w v z := by
  have nil : ∀ x y, RA E r w x a → RA E r w y b → evNilOp ti r op t x y = some v → ∃ z, (eqGuard op t ox oy a b).run P w = .ok () w ∧ (binOp op t a b).run P w = .ok z w ∧ RA E r w v z := by
    intro x y hx hy h
    have both : ∀ neg, (evNil ti r t neg x y).or (evEqA ti t neg x y) = some v → ∃ z, (eqGuard (if neg then .neq else .eql) t ox oy a b).run P w = .ok () w ∧ (binOp (if neg then .neq else .eql) t a b).run P w = .ok z w ∧ RA E r w v z := by
      intro neg h
      rw [Option.or_eq_some_iff] at h
      rcases h with h | ⟨_, h⟩
      · exact evNil_sound hti (neg := neg) hx hy h ox oy
      · obtain ⟨u, rfl, hu⟩ := evEqA_sound hti hx hy h ox oy
        exact ⟨_, (hu w).1, (hu w).2, by simp [RA, RD, Value.oneCell']⟩
    cases op <;> simp only [evNilOp, reduceCtorEq] at h
    · exact both false h
    · exact both true h
  unfold evBin at e
  split at e
  · rename_i va vb
    split at e
    · rename_i u hu
      obtain ⟨h1, e⟩ := chk_some e
      injection e with e; subst e
      have ha : a = va := by simp only [RA, RD] at hx; exact hx.1
      have hb : b = vb := by simp only [RA, RD] at hy; exact hy.1
      subst ha; subst hb
      exact ⟨u, vBin_guard hu ox oy w, vBin_run (fun h => isBool_sound hti h) hu w, by simp [RA, RD, h1]⟩
    · exact nil _ _ hx hy e
  · exact nil _ _ hx hy e

/-! ### Lengths, least and greatest -/
def lenAV (ti : Ti) (r : Rs) (t : TypeId) (x : AV) : Option Int :=
  match ti t, x with
  | some ⟨.string, _, _, _⟩, .d (.c (.string s)) => some s.size
  | some ⟨.slice _, _, _, _⟩, .d (.sl _ n _) => some n
  | some ⟨.slice _, _, _, _⟩, .d (.c (.slice none 0 0)) => some 0
  | some ⟨.slice _, _, _, _⟩, .sl _ _ n _ => some n
  | some ⟨.slice _, _, _, _⟩, .osl _ _ _ n => some n
  | some ⟨.map _ _, _, _, _⟩, .d (.c (.map none)) => some 0
  | some ⟨.map _ _, _, _, _⟩, .mp i => match r[i]? with | some (some (.map l)) => some l.length | _ => none
  | _, _ => none
theorem lenAV_sound {P : Program} {ti : Ti} (hti : TiOK P ti) {G : Nat → List D} {E : Env} {r : Rs} {w : World} (hG : Good G E r w) {t ty : TypeId} {x : AV} {a : Value} {n : Int} (hx : RA E r w x a) (e : lenAV ti r t x = some n) :
    (Builtin.len_ #[t] ty #[a]).run P w = .ok (.int .i64 n) w := by
  unfold lenAV at e
  split at e
  all_goals first
    | (cases e; done)
    | (rename_i hi; have hut := ti_run hti hi w)
  · injection e with e; subst e
    simp only [RA, RD] at hx; obtain ⟨rfl, _⟩ := hx
    simp [Builtin.len_, hut, goInt]
  · injection e with e; subst e
    simp only [RA, RD] at hx; obtain ⟨_, A, c, rfl, _⟩ := hx
    simp [Builtin.len_, hut, goInt]
  · injection e with e; subst e
    simp only [RA, RD] at hx; obtain ⟨rfl, _⟩ := hx
    simp [Builtin.len_, hut, goInt]
  · injection e with e; subst e
    simp only [RA] at hx; obtain ⟨_, A, c, rfl, _⟩ := hx
    simp [Builtin.len_, hut, goInt]
  · injection e with e; subst e
    simp only [RA] at hx; obtain ⟨_, A, c, rfl, _⟩ := hx
    simp [Builtin.len_, hut, goInt]
  · injection e with e; subst e
    simp only [RA, RD] at hx; obtain ⟨rfl, _⟩ := hx
    simp [Builtin.len_, hut, goInt]
  · split at e
    · rename_i l hl
      injection e with e; subst e
      simp only [RA] at hx
      obtain ⟨b, hb, rfl⟩ := hx.2 l hl
      obtain ⟨b', hb', _, es, cl, hh, hsz, _⟩ := hG.map _ l hl
      rw [hb] at hb'; injection hb' with hb'; subst hb'
      simp [Builtin.len_, hut, goInt, getObj, Sem.run, hh, hsz]
    · cases e
def minAV (mx : Bool) (x y : AV) : Option AV :=
  match x, y with
  | .d (.c (.int k a)), .d (.c (.int k' b)) => if k = k' then some (.d (.c (.int k (if mx then (if b > a then b else a) else (if b < a then b else a))))) else none
  | _, _ => none
theorem minAV_sound {P : Program} {E : Env} {r : Rs} {w : World} {mx : Bool} {ty : TypeId} {ts : Array TypeId} {x y v : AV} {a b : Value} (hx : RA E r w x a) (hy : RA E r w y b) (e : minAV mx x y = some v) :
    ∃ z, (if mx then Builtin.max_ ts ty #[a, b] else Builtin.min_ ts ty #[a, b]).run P w = .ok z w ∧ RA E r w v z := by
  unfold minAV at e
  split at e
  · split at e
    · rename_i hk; subst hk
      injection e with e; subst e
      simp only [RA, RD] at hx hy
      obtain ⟨rfl, _⟩ := hx
      obtain ⟨rfl, _⟩ := hy
      refine ⟨_, ?_, by simp only [RA, RD]; exact ⟨rfl, rfl⟩⟩
      cases mx <;> simp [Builtin.max_, Builtin.min_, Builtin.max2, Builtin.min2]
    · cases e
  · cases e

/-! ### Reading an index, a field -/
def evIndex (ti : Ti) (t : TypeId) (x : AV) (i : Int) : Option AV :=
  match ti t, x with
  | some ⟨.string, _, _, _⟩, .d (.c (.string s)) => chk (0 ≤ i ∧ i < s.size) (some (.d (.c (.int .u8 (sB s i.toNat)))))
  | some ⟨.array n e, _, _, _⟩, .d (.agg xs) => match ti e with
    | some ie => chk (0 ≤ i ∧ i < n) (if isAggD ie.u = true then chk (i.toNat * ie.size + ie.size ≤ xs.length) (some (.d (.agg ((xs.drop (i.toNat * ie.size)).take ie.size)))) else (xs[i.toNat * ie.size]?).map .d)
    | none => none
  | some ⟨.array n e, _, _, _⟩, .agg l => match ti e with
    | some ie => chk (0 ≤ i ∧ i < n) (if isAggD ie.u = true then chk (i.toNat * ie.size + ie.size ≤ l.length) (some (mkAgg ((l.drop (i.toNat * ie.size)).take ie.size))) else l[i.toNat * ie.size]?)
    | none => none
  | _, _ => none
theorem part_run {P : Program} {ti : Ti} (hti : TiOK P ti) {T : Nat → Nat} {w : World} {e : TypeId} {ie : TI} (hie : ti e = some ie) {xs : List D} {vs : Array Value} (hr : RL T w xs vs.toList) {off : Nat} {v : D}
    (h : (if isAggD ie.u = true then chk (off + ie.size ≤ xs.length) (some (D.agg ((xs.drop off).take ie.size))) else xs[off]?) = some v) : ∃ z, (∀ w', (part e vs off).run P w' = .ok z w') ∧ RD T w v z := by
  have hag := fun w' => ti_agg (P := P) hti hie w'
  have hsz := fun w' => ti_size (P := P) hti hie w'
  split at h
  · rename_i hagg
    obtain ⟨h0, h⟩ := chk_some h
    injection h with h; subst h
    simp only [hagg] at hag
    refine ⟨.agg (vs.extract off (off + ie.size)), fun w' => by simp [part, hag, hsz], ?_⟩
    simp only [RD]
    refine ⟨_, rfl, ?_⟩
    have : (vs.extract off (off + ie.size)).toList = (vs.toList.drop off).take ie.size := by simp [List.extract_eq_take_drop]
    rw [this]
    exact RL_take _ _ (RL_drop xs _ hr off) _
  · rename_i hagg
    have hag' : isAggD ie.u = false := by simpa using hagg
    simp only [hag'] at hag
    obtain ⟨z, hz, _, hzr⟩ := RL_get xs _ hr off v h
    have hz' : vs[off]? = some z := by simpa using hz
    exact ⟨z, fun w' => by simp [part, hag, hz'], hzr⟩
theorem evIndex_sound {P : Program} {ti : Ti} (hti : TiOK P ti) {E : Env} {r : Rs} {w : World} {t : TypeId} {x v : AV} {y : Value} {kd : IntKind} {i : Int} (hx : RA E r w x y) (e : evIndex ti t x i = some v) :
    ∃ z, (Instr.index t y (.int kd i)).run P w = .ok z w ∧ RA E r w v z := by
  unfold evIndex at e
  split at e
  · rename_i s hte
    obtain ⟨⟨h0, h1⟩, e⟩ := chk_some e
    injection e with e; subst e
    simp only [RA, RD] at hx; obtain ⟨rfl, _⟩ := hx
    have hut := ti_run hti hte w
    have hb : s[i.toNat]? = some (s[i.toNat]'(by omega)) := getElem?_pos s i.toNat (by omega)
    refine ⟨.int .u8 (s[i.toNat]'(by omega)).toNat, by simp [Instr.index, asIntOf, hut, h0, hb], ?_⟩
    simp only [RA, RD, sB]
    refine ⟨?_, rfl⟩
    rw [Go.ByteArray.toList_eq]
    congr 2
    have : i.toNat < s.data.toList.length := by simp only [Array.length_toList]; show i.toNat < s.size; omega
    rw [List.getD_eq_getElem?_getD, List.getElem?_eq_getElem this]
    rfl
  · rename_i n el _ _ _ xs hte
    split at e
    · rename_i ie hie
      obtain ⟨⟨h0, h1⟩, e⟩ := chk_some e
      simp only [RA, RD] at hx; obtain ⟨vs, rfl, hr⟩ := hx
      have hut := ti_run hti hte w
      have hsz := ti_size hti hie w
      have e' : ∃ d, (if isAggD ie.u = true then chk (i.toNat * ie.size + ie.size ≤ xs.length) (some (D.agg ((xs.drop (i.toNat * ie.size)).take ie.size))) else xs[i.toNat * ie.size]?) = some d ∧ v = .d d := by
        split at e
        · rename_i hagg
          obtain ⟨h2, e⟩ := chk_some e
          injection e with e
          exact ⟨_, by rw [if_pos hagg, chk_pos h2], e.symm⟩
        · rename_i hagg
          simp only [Option.map_eq_some_iff] at e
          obtain ⟨d, hd, rfl⟩ := e
          exact ⟨d, by rw [if_neg hagg]; exact hd, rfl⟩
      obtain ⟨d, hd, rfl⟩ := e'
      obtain ⟨z, hz, hzr⟩ := part_run hti hie hr hd
      exact ⟨z, by simp [Instr.index, asIntOf, hut, h0, h1, hsz, hz], by simpa [RA] using hzr⟩
    · cases e
  · rename_i n el _ _ _ l hte
    split at e
    · rename_i ie hie
      obtain ⟨⟨h0, h1⟩, e⟩ := chk_some e
      simp only [RA] at hx; obtain ⟨vs, rfl, hr, hone⟩ := hx
      have hut := ti_run hti hte w
      have hag := ti_agg (P := P) hti hie w
      have hsz := ti_size hti hie w
      split at e
      · rename_i hagg
        obtain ⟨h2, e⟩ := chk_some e
        injection e with e; subst e
        simp only [hagg] at hag
        refine ⟨.agg (vs.extract (i.toNat * ie.size) (i.toNat * ie.size + ie.size)), by simp [Instr.index, asIntOf, hut, h0, h1, hsz, part, hag], ?_⟩
        have hx : (vs.extract (i.toNat * ie.size) (i.toNat * ie.size + ie.size)).toList = (vs.toList.drop (i.toNat * ie.size)).take ie.size := by simp [List.extract_eq_take_drop]
        refine mkAgg_sound (by rw [hx]; exact RAL_take _ _ (RAL_drop l _ hr _) _) ?_
        rw [hx]
        intro u hu
        exact hone u (List.mem_of_mem_drop (List.mem_of_mem_take hu))
      · rename_i hagg
        have hag' : isAggD ie.u = false := by simpa using hagg
        simp only [hag'] at hag
        obtain ⟨z, hz, hzr⟩ := RAL_get l _ hr _ v e
        have hz' : vs[i.toNat * ie.size]? = some z := by simpa using hz
        exact ⟨z, by simp [Instr.index, asIntOf, hut, h0, h1, hsz, part, hag, hz'], hzr⟩
    · cases e
  · cases e
def evField (ti : Ti) (t : TypeId) (x : AV) (f : Nat) : Option AV :=
  match fieldOf ti t f with
  | some (off, ft) => match ti ft, x with
    | some ie, .d (.agg xs) => (if isAggD ie.u = true then chk (off + ie.size ≤ xs.length) (some (D.agg ((xs.drop off).take ie.size))) else xs[off]?).map .d
    | some ie, .agg l => if isAggD ie.u = true then chk (off + ie.size ≤ l.length) (some (mkAgg ((l.drop off).take ie.size))) else l[off]?
    | _, _ => none
  | none => none
theorem evField_sound {P : Program} {ti : Ti} (hti : TiOK P ti) {E : Env} {r : Rs} {w : World} {t : TypeId} {x v : AV} {y : Value} {f : Nat} (hx : RA E r w x y) (e : evField ti t x f = some v) :
    ∃ z, (∀ w', (Instr.field t y f).run P w' = .ok z w') ∧ RA E r w v z := by
  unfold evField at e
  split at e
  · rename_i off ft hf
    unfold fieldOf at hf
    split at hf
    · rename_i fs _ _ _ hte
      simp only [Option.map_eq_some_iff, Prod.mk.injEq] at hf
      obtain ⟨fld, hfld, rfl, rfl⟩ := hf
      have hut := fun w' => ti_run (P := P) hti hte w'
      split at e
      · rename_i ie xs hie
        simp only [Option.map_eq_some_iff] at e
        obtain ⟨d, hd, rfl⟩ := e
        simp only [RA, RD] at hx; obtain ⟨vs, rfl, hr⟩ := hx
        obtain ⟨z, hz, hzr⟩ := part_run hti hie hr hd
        exact ⟨z, fun w' => by simp [Instr.field, hut, hfld, asAgg, hz], by simpa [RA] using hzr⟩
      · rename_i ie l hie
        simp only [RA] at hx; obtain ⟨vs, rfl, hr, h1⟩ := hx
        have hag := fun w' => ti_agg (P := P) hti hie w'
        have hsz := fun w' => ti_size (P := P) hti hie w'
        split at e
        · rename_i hagg
          obtain ⟨h0, e⟩ := chk_some e
          injection e with e; subst e
          simp only [hagg] at hag
          refine ⟨.agg (vs.extract fld.offset (fld.offset + ie.size)), fun w' => by simp [Instr.field, hut, hfld, asAgg, part, hag, hsz], ?_⟩
          have hx : (vs.extract fld.offset (fld.offset + ie.size)).toList = (vs.toList.drop fld.offset).take ie.size := by simp [List.extract_eq_take_drop]
          refine mkAgg_sound (by rw [hx]; exact RAL_take _ _ (RAL_drop l _ hr _) _) ?_
          rw [hx]
          intro u hu
          exact h1 u (List.mem_of_mem_drop (List.mem_of_mem_take hu))
        · rename_i hagg
          have hag' : isAggD ie.u = false := by simpa using hagg
          simp only [hag'] at hag
          obtain ⟨z, hz, hzr⟩ := RAL_get l _ hr _ v e
          have hz' : vs[fld.offset]? = some z := by simpa using hz
          exact ⟨z, fun w' => by simp [Instr.field, hut, hfld, asAgg, part, hag, hz'], hzr⟩
      · cases e
    · cases hf
  · cases e
end Go.Proofs.YteeknmjjpcbphaaDoor
