/- The frame of these proofs, part E: operations that only compute, over what stands in the slots. -/
import Derived.Test.YteeknmjjpcbphaaDoorCD
set_option linter.unusedVariables false
set_option linter.unusedSimpArgs false
namespace Go.Proofs.YteeknmjjpcbphaaDoor
open Go

/-! ### Lists of what stands in slots -/
theorem RAL_length {E : Env} {r : Rs} {w : World} : ∀ (l : List AV) (vs : List Value), RAL E r w l vs → vs.length = l.length
  | [], vs, h => by simp only [RAL] at h; simp [h]
  | a :: l, vs, h => by
    simp only [RAL] at h
    obtain ⟨v, rest, rfl, _, hr⟩ := h
    simp [RAL_length l rest hr]
theorem RAL_get {E : Env} {r : Rs} {w : World} : ∀ (l : List AV) (vs : List Value), RAL E r w l vs → ∀ (j : Nat) (a : AV), l[j]? = some a → ∃ v, vs[j]? = some v ∧ RA E r w a v
  | [], _, _, j, a, hd => by simp at hd
  | e :: l, vs, h, j, a, hd => by
    simp only [RAL] at h
    obtain ⟨v, rest, rfl, h2, hr⟩ := h
    cases j with
    | zero => simp at hd; subst hd; exact ⟨v, by simp, h2⟩
    | succ j => simpa using RAL_get l rest hr j a (by simpa using hd)
theorem RAL_of_get {E : Env} {r : Rs} {w : World} : ∀ (l : List AV) (vs : List Value), vs.length = l.length → (∀ (j : Nat) (a : AV), l[j]? = some a → ∃ v, vs[j]? = some v ∧ RA E r w a v) → RAL E r w l vs
  | [], vs, hl, _ => by simp only [RAL]; exact List.eq_nil_of_length_eq_zero (by simpa using hl)
  | d :: ds, [], hl, _ => by simp at hl
  | d :: ds, v :: vs, hl, h => by
    simp only [RAL]
    obtain ⟨v', hv, h2⟩ := h 0 d (by simp)
    simp at hv
    subst hv
    exact ⟨v, vs, rfl, h2, RAL_of_get ds vs (by simpa using hl) fun j e he => by simpa using h (j + 1) e (by simpa using he)⟩
theorem RAL_map_d {E : Env} {r : Rs} {w : World} (ds : List D) (vs : List Value) (h : RL E.T w ds vs) : RAL E r w (ds.map .d) vs := by
  refine RAL_of_get _ _ (by simp [RL_length ds vs h]) fun j a ha => ?_
  simp only [List.getElem?_map, Option.map_eq_some_iff] at ha
  obtain ⟨d, hd, rfl⟩ := ha
  obtain ⟨v, hv, _, h2⟩ := RL_get ds vs h j d hd
  exact ⟨v, hv, by simpa [RA] using h2⟩
theorem RAL_take {E : Env} {r : Rs} {w : World} (l : List AV) (vs : List Value) (h : RAL E r w l vs) (k : Nat) : RAL E r w (l.take k) (vs.take k) := by
  refine RAL_of_get _ _ (by simp [RAL_length l vs h]) fun j d hd => ?_
  rw [List.getElem?_take] at hd ⊢
  split at hd
  · rename_i hj; rw [if_pos hj]; exact RAL_get l vs h j d hd
  · cases hd
theorem RAL_drop {E : Env} {r : Rs} {w : World} (l : List AV) (vs : List Value) (h : RAL E r w l vs) (k : Nat) : RAL E r w (l.drop k) (vs.drop k) := by
  refine RAL_of_get _ _ (by simp [RAL_length l vs h]) fun j d hd => ?_
  rw [List.getElem?_drop] at hd ⊢
  exact RAL_get l vs h _ d hd
theorem RAL_append {E : Env} {r : Rs} {w : World} (l m : List AV) (vs us : List Value) (h : RAL E r w l vs) (k : RAL E r w m us) : RAL E r w (l ++ m) (vs ++ us) := by
  have hl := RAL_length l vs h
  refine RAL_of_get _ _ (by simp [hl, RAL_length m us k]) fun j d hd => ?_
  by_cases hj : j < l.length
  · rw [List.getElem?_append_left hj] at hd
    rw [List.getElem?_append_left (by omega)]
    exact RAL_get l vs h j d hd
  · rw [List.getElem?_append_right (by omega)] at hd
    rw [List.getElem?_append_right (by omega), hl]
    exact RAL_get m us k _ d hd

/-! ### What stands in a slot, as a datum -/
mutual
def toD : AV → Option D
  | .d x => some x
  | .sl _ sz n xs => some (.sl sz n xs)
  | .agg l => (allD l).map .agg
  | _ => none
def allD : List AV → Option (List D)
  | [] => some []
  | a :: l => match toD a, allD l with
    | some d, some ds => some (d :: ds)
    | _, _ => none
end
def oneAV : AV → Bool
  | .agg _ => false
  | .d (.agg _) => false
  | .tup _ => false
  | .top => false
  | _ => true
theorem RA_one {E : Env} {r : Rs} {w : World} {a : AV} {x : Value} (h : RA E r w a x) (h1 : oneAV a = true) (hlive : ∀ i, (a = .mp i ∨ (∃ off, a = .ptr i off) ∨ ∃ off sz n, a = .osl i off sz n) → x.oneCell' = true) : x.oneCell' = true := by
  cases a with
  | d y =>
    cases y with
    | c v => simp only [RA, RD] at h; rw [h.1]; exact h.2
    | sl sz n xs => simp only [RA, RD] at h; obtain ⟨_, A, c, rfl, _⟩ := h; rfl
    | agg xs => simp [oneAV] at h1
  | sl m sz n xs => simp only [RA] at h; obtain ⟨_, A, c, rfl, _⟩ := h; rfl
  | ptr i off => exact hlive i (.inr (.inl ⟨off, rfl⟩))
  | el xs => simp only [RA] at h; obtain ⟨ad, rfl, _⟩ := h; rfl
  | osl i off sz n => exact hlive i (.inr (.inr ⟨off, sz, n, rfl⟩))
  | tup l => simp [oneAV] at h1
  | agg l => simp [oneAV] at h1
  | fn f a b => simp only [RA] at h; obtain ⟨vs, us, rfl, _⟩ := h; rfl
  | mp i => exact hlive i (.inl rfl)
  | top => simp [oneAV] at h1
mutual
theorem toD_sound {E : Env} {r : Rs} {w : World} : ∀ (a : AV) (x : Value) (d : D), RA E r w a x → toD a = some d → RD E.T w d x
  | .d y, x, d, h, e => by simp only [toD] at e; injection e with e; subst e; simpa [RA] using h
  | .sl m sz n xs, x, d, h, e => by
    simp only [toD] at e; injection e with e; subst e
    simp only [RA] at h
    obtain ⟨hl, A, c, rfl, hc, hr, _⟩ := h
    simp only [RD]
    exact ⟨hl, A, c, rfl, hc, hr⟩
  | .agg l, x, d, h, e => by
    simp only [toD, Option.map_eq_some_iff] at e
    obtain ⟨ds, hds, rfl⟩ := e
    simp only [RA] at h
    obtain ⟨vs, rfl, hr, h1⟩ := h
    simp only [RD]
    exact ⟨vs, rfl, allD_sound l _ ds hr hds h1⟩
  | .ptr _ _, _, _, _, e => by simp [toD] at e
  | .el _, _, _, _, e => by simp [toD] at e
  | .osl _ _ _ _, _, _, _, e => by simp [toD] at e
  | .tup _, _, _, _, e => by simp [toD] at e
  | .fn _ _ _, _, _, _, e => by simp [toD] at e
  | .mp _, _, _, _, e => by simp [toD] at e
  | .top, _, _, _, e => by simp [toD] at e
theorem allD_sound {E : Env} {r : Rs} {w : World} : ∀ (l : List AV) (vs : List Value) (ds : List D), RAL E r w l vs → allD l = some ds → (∀ u ∈ vs, u.oneCell' = true) → RL E.T w ds vs
  | [], vs, ds, h, e, _ => by
    simp only [allD] at e; injection e with e; subst e
    simpa [RAL, RL] using h
  | a :: l, vs, ds, h, e, h1 => by
    simp only [allD] at e
    split at e
    · rename_i d ds' hd hds
      injection e with e; subst e
      simp only [RAL] at h
      obtain ⟨v, rest, rfl, hv, hr⟩ := h
      simp only [RL]
      exact ⟨v, rest, rfl, h1 v (by simp), toD_sound a v d hv hd, allD_sound l rest ds' hr hds fun u hu => h1 u (by simp [hu])⟩
    · cases e
end
/-- A struct's or an array's value out of its cells. -/
def mkAgg (l : List AV) : AV := match allD l with
  | some ds => .d (.agg ds)
  | none => .agg l
theorem mkAgg_sound {E : Env} {r : Rs} {w : World} {l : List AV} {vs : Array Value} (h : RAL E r w l vs.toList) (h1 : ∀ u ∈ vs.toList, u.oneCell' = true) : RA E r w (mkAgg l) (.agg vs) := by
  unfold mkAgg
  split
  · rename_i ds hds
    simp only [RA, RD]
    exact ⟨vs, rfl, allD_sound l _ ds h hds h1⟩
  · simp only [RA]
    exact ⟨vs, rfl, h, h1⟩
theorem allD_map (ds : List D) : allD (ds.map .d) = some ds := by
  induction ds with
  | nil => simp [allD]
  | cons d ds ih => simp [allD, toD, ih]
/-- A value's cells. -/
def cellsAV : AV → Option (List AV)
  | .d (.agg xs) => some (xs.map .d)
  | .agg l => some l
  | .tup _ => none
  | .top => none
  | a => some [a]

/-! ### Operands -/
def constAV : Value → AV
  | .agg cs => if cs.toList.all Value.oneCell' then .d (.agg (cs.toList.map .c)) else .top
  | .tuple vs => if vs.size = 0 then .tup [] else .top
  | v => .d (.c v)
theorem RL_consts {T : Nat → Nat} {w : World} : ∀ (l : List Value), l.all Value.oneCell' = true → RL T w (l.map .c) l
  | [], _ => by simp [RL]
  | v :: l, h => by
    simp only [List.all_cons, Bool.and_eq_true] at h
    simp only [List.map_cons, RL, RD]
    exact ⟨v, l, rfl, h.1, ⟨rfl, h.1⟩, RL_consts l h.2⟩
theorem constAV_sound (E : Env) (r : Rs) (w : World) (v : Value) : RA E r w (constAV v) v := by
  unfold constAV
  split
  · rename_i cs
    split
    · rename_i h
      simp only [RA, RD]
      exact ⟨cs, rfl, RL_consts _ h⟩
    · simp [RA]
  · rename_i vs
    split
    · rename_i h
      simp only [RA, RAL]
      exact ⟨vs, rfl, by simpa using h⟩
    · simp [RA]
  · rename_i h1 h2
    simp only [RA, RD, true_and]
    cases v <;> first | rfl | (exact absurd rfl (h1 _)) | (exact absurd rfl (h2 _))
def St.ev (σ : St) (G : Nat → List D) : Operand → AV
  | .tmp t => σ.get t
  | .const v => constAV v
  | .global g => .el (G g)
  | .func f => .fn (.func f) [] []
theorem ev_sound {G : Nat → List D} {N : Nat} {E : Env} {σ : St} {a : Act} {w : World} (h : Rel G N E σ a w) (o : Operand) : RA E σ.r w (σ.ev G o) (a.eval o) := by
  cases o with
  | tmp t => exact h.slot t
  | const v => exact constAV_sound E σ.r w v
  | global g => simp only [St.ev, RA, Act.eval]; exact ⟨_, rfl, h.good.glob g⟩
  | func f => simp only [St.ev, RA, Act.eval, RAL]; exact ⟨#[], #[], rfl, rfl, rfl⟩

/-! ### Slices, as one word for data and for the call's own rows -/
/-- 'n' elements of 'sz' cells each; which mode; which cells. -/
def slOf (sz : Nat) : AV → Option (Option Mo × Nat × List D)
  | .d (.sl sz' n xs) => if sz' = sz then some (none, n, xs) else none
  | .d (.c (.slice none 0 0)) => some (some .full, 0, [])
  | .sl m sz' n xs => if sz' = sz then some (some m, n, xs) else none
  | _ => none
def MoO (E : Env) (r : Rs) (w : World) (sz n len : Nat) (A : Option Addr) (c : Nat) : Option Mo → Prop
  | some m => MoOK E r w sz n len A c m
  | none => True
theorem slOf_sound {E : Env} {r : Rs} {w : World} {sz : Nat} {a : AV} {x : Value} {m : Option Mo} {n : Nat} {xs : List D} (h : RA E r w a x) (e : slOf sz a = some (m, n, xs)) :
    xs.length = n * sz ∧ ∃ A c, x = .slice A n c ∧ n ≤ c ∧ (xs = [] ∨ ∃ ad, A = some ad ∧ RM E.T w xs ad) ∧ MoO E r w sz n xs.length A c m := by
  unfold slOf at e
  split at e
  · split at e
    · rename_i hs; subst hs
      simp only [Option.some.injEq, Prod.mk.injEq] at e
      obtain ⟨rfl, rfl, rfl⟩ := e
      simp only [RA, RD] at h
      obtain ⟨hl, A, c, rfl, hc, hr⟩ := h
      exact ⟨hl, A, c, rfl, hc, hr, trivial⟩
    · cases e
  · simp only [Option.some.injEq, Prod.mk.injEq] at e
    obtain ⟨rfl, rfl, rfl⟩ := e
    simp only [RA, RD] at h
    exact ⟨by simp, none, 0, h.1, Nat.le_refl _, .inl rfl, rfl⟩
  · split at e
    · rename_i hs; subst hs
      simp only [Option.some.injEq, Prod.mk.injEq] at e
      obtain ⟨rfl, rfl, rfl⟩ := e
      simp only [RA] at h
      obtain ⟨hl, A, c, rfl, hc, hr, hm⟩ := h
      exact ⟨hl, A, c, rfl, hc, hr, hm⟩
    · cases e
  · cases e
end Go.Proofs.YteeknmjjpcbphaaDoor
