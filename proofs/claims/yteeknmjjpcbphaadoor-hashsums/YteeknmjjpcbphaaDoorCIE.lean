/- The frame of these proofs, part IE: arrays and structs of numbers, truth values and texts: when two are equal. -/
import Derived.Test.YteeknmjjpcbphaaDoorCI
import Derived.Laws.StructEq
import Derived.ChangeKeysEq
set_option linter.unusedVariables false
set_option linter.unusedSimpArgs false
namespace Go.Proofs.YteeknmjjpcbphaaDoor
open Go

inductive CK where
  | int
  | bool
  | str
/-- The cells of a type that can be compared cell by cell. -/
def flatFs (rec : TypeId → Option (List CK)) : Nat → List Field → Option (List CK)
  | _, [] => some []
  | off, f :: fs => if f.name ≠ "_" ∧ f.offset = off then (match rec f.type with
    | some ks => (flatFs rec (off + ks.length) fs).map (ks ++ ·)
    | none => none) else none
def flatI (n : Nat) (o : Option (List CK)) : Option (List CK) := match o with
  | some ks => if ks.length = n then some ks else none
  | none => none
def flatT (ti : Ti) : Nat → TypeId → Option (List CK)
  | 0, _ => none
  | m + 1, t => match ti t with
    | some i => match i.u with
      | .bool => flatI i.size (some [.bool])
      | .int _ => flatI i.size (some [.int])
      | .string => flatI i.size (some [.str])
      | .array n e => flatI i.size ((flatT ti m e).map fun ks => (List.replicate n ks).flatten)
      | .struct fs => flatI i.size (flatFs (flatT ti m) 0 fs.toList)
      | _ => none
    | none => none
theorem flatI_some {n : Nat} {o : Option (List CK)} {ks : List CK} (h : flatI n o = some ks) : o = some ks ∧ ks.length = n := by
  unfold flatI at h
  split at h
  · split at h
    · injection h with h; subst h; exact ⟨rfl, ‹_›⟩
    · cases h
  · cases h
def ckV : CK → Value → Value → Option Bool
  | .int, .int k a, .int k' b => if k = k' then some (decide (a = b)) else none
  | .bool, .bool a, .bool b => some (decide (a = b))
  | .str, .string a, .string b => some (decide (a = b))
  | _, _, _ => none
theorem ckV_int {a b : Value} {r : Bool} (h : ckV .int a b = some r) : ∃ k x y, a = .int k x ∧ b = .int k y ∧ r = decide (x = y) := by
  cases a <;> cases b <;> simp only [ckV, reduceCtorEq] at h
  split at h
  · rename_i hk; subst hk; injection h with h; exact ⟨_, _, _, rfl, rfl, h.symm⟩
  · cases h
theorem ckV_bool {a b : Value} {r : Bool} (h : ckV .bool a b = some r) : ∃ x y, a = .bool x ∧ b = .bool y ∧ r = decide (x = y) := by
  cases a <;> cases b <;> simp only [ckV, reduceCtorEq] at h
  injection h with h; exact ⟨_, _, rfl, rfl, h.symm⟩
theorem ckV_str {a b : Value} {r : Bool} (h : ckV .str a b = some r) : ∃ x y, a = .string x ∧ b = .string y ∧ r = decide (x = y) := by
  cases a <;> cases b <;> simp only [ckV, reduceCtorEq] at h
  injection h with h; exact ⟨_, _, rfl, rfl, h.symm⟩
def and2 : Option Bool → Option Bool → Option Bool
  | some a, some b => some (a && b)
  | _, _ => none
theorem and2_some {o p : Option Bool} {b : Bool} (h : and2 o p = some b) : ∃ x y, o = some x ∧ p = some y ∧ b = (x && y) := by
  unfold and2 at h
  split at h
  · injection h with h; exact ⟨_, _, rfl, rfl, h.symm⟩
  · cases h
def eqV : List CK → List Value → List Value → Option Bool
  | [], [], [] => some true
  | k :: ks, x :: xs, y :: ys => and2 (ckV k x y) (eqV ks xs ys)
  | _, _, _ => none
theorem eqV_len : ∀ {ks : List CK} {xs ys : List Value} {b : Bool}, eqV ks xs ys = some b → xs.length = ks.length ∧ ys.length = ks.length
  | [], [], [], _, _ => ⟨rfl, rfl⟩
  | k :: ks, x :: xs, y :: ys, b, h => by
    simp only [eqV] at h
    obtain ⟨_, _, _, h2, _⟩ := and2_some h
    have := eqV_len h2
    simp [this.1, this.2]
  | [], [], _ :: _, _, h => by simp [eqV] at h
  | [], _ :: _, _, _, h => by simp [eqV] at h
  | _ :: _, [], _, _, h => by simp [eqV] at h
  | _ :: _, _ :: _, [], _, h => by simp [eqV] at h
theorem eqV_app : ∀ {ks ms : List CK} {xs ys : List Value} {b : Bool}, eqV (ks ++ ms) xs ys = some b → ∃ b1 b2, eqV ks (xs.take ks.length) (ys.take ks.length) = some b1 ∧ eqV ms (xs.drop ks.length) (ys.drop ks.length) = some b2 ∧ b = (b1 && b2)
  | [], ms, xs, ys, b, h => ⟨true, b, by simp [eqV], by simpa using h, by simp⟩
  | k :: ks, ms, x :: xs, y :: ys, b, h => by
    simp only [List.cons_append, eqV] at h
    obtain ⟨b1, b2, h1, h2, rfl⟩ := and2_some h
    obtain ⟨c1, c2, h3, h4, rfl⟩ := eqV_app h2
    refine ⟨b1 && c1, c2, ?_, by simpa using h4, by rw [Bool.and_assoc]⟩
    simp only [List.length_cons, List.take_succ_cons, eqV, h1, h3, and2]
  | _ :: _, _, [], _, _, h => by simp [eqV] at h
  | _ :: _, _, _ :: _, [], _, h => by simp [eqV] at h

/-- A value of a type, and its cells. -/
def IsV (u : TypeDesc) (x : Value) (vs : List Value) : Prop := if isAggD u = true then x = .agg vs.toArray else vs = [x]
section
variable {P : Program} {ti : Ti} {w : World}
theorem ti_st (hti : TiOK P ti) {t : TypeId} {i : TI} (h : ti t = some i) : P.stoodInHeld t = false := by
  obtain ⟨_, _, _, _, _, _, _, hs⟩ := hti t i h
  exact hs
theorem part_isV (hti : TiOK P ti) {e : TypeId} {ie : TI} (hie : ti e = some ie) {vs : Array Value} {off : Nat} (hlen : ((vs.toList.drop off).take ie.size).length = ie.size) (h1 : isAggD ie.u = false → ie.size = 1) :
    ∃ z, (part e vs off).run P w = .ok z w ∧ IsV ie.u z ((vs.toList.drop off).take ie.size) := by
  have hag := ti_agg (P := P) hti hie w
  have hsz := ti_size (P := P) hti hie w
  by_cases hagg : isAggD ie.u = true
  · simp only [hagg] at hag
    refine ⟨.agg (vs.extract off (off + ie.size)), by simp [part, hag, hsz], ?_⟩
    simp only [IsV, hagg, if_true]
    congr 1
    apply Array.ext'
    simp [List.extract_eq_take_drop]
  · have hagg' : isAggD ie.u = false := by simpa using hagg
    have hs1 := h1 hagg'
    simp only [hagg'] at hag
    rw [hs1] at hlen ⊢
    match hd : (vs.toList.drop off).take 1, hlen with
    | [z], _ =>
      have hz : vs[off]? = some z := by
        have : ((vs.toList.drop off).take 1)[0]? = some z := by rw [hd]; rfl
        rw [List.getElem?_take, if_pos (by omega), List.getElem?_drop] at this
        simpa using this
      exact ⟨z, by simp [part, hag, hz], by simp [IsV, hagg']⟩
theorem flat_one {m : Nat} {t : TypeId} {i : TI} {ks : List CK} (hi : ti t = some i) (h : flatT ti m t = some ks) : ks.length = i.size ∧ (isAggD i.u = false → i.size = 1) := by
  cases m with
  | zero => simp [flatT] at h
  | succ m =>
    simp only [flatT, hi] at h
    split at h
    all_goals first
      | (cases h; done)
      | (obtain ⟨h1, h2⟩ := flatI_some h
         refine ⟨h2, fun hag => ?_⟩
         first
           | (injection h1 with h1; subst h1; exact h2.symm)
           | (rename_i hu; rw [hu] at hag; simp [isAggD] at hag))
theorem items_run (hti : TiOK P ti) {d : Nat} {e : TypeId} {ie : TI} (hie : ti e = some ie) {kse : List CK} (hl : kse.length = ie.size) (h1 : isAggD ie.u = false → ie.size = 1)
    (IH : ∀ (x y : Value) (vs us : List Value) (b : Bool) (w : World), IsV ie.u x vs → IsV ie.u y us → eqV kse vs us = some b → (Op.equalIn d e x y).run P w = .ok b w) (xs ys : Array Value) :
    ∀ (n s : Nat) (b : Bool), eqV (List.replicate n kse).flatten (xs.toList.drop (s * ie.size)) (ys.toList.drop (s * ie.size)) = some b → (Op.eqItems d e (P.cellsOf e) xs ys (List.range' s n)).run P w = .ok b w
  | 0, s, b, h => by
    have : b = true := by
      generalize xs.toList.drop (s * ie.size) = l at h
      generalize ys.toList.drop (s * ie.size) = l2 at h
      cases l <;> cases l2 <;> simp [eqV] at h
      exact h
    simp [Op.eqItems, this]
  | n + 1, s, b, h => by
    rw [List.replicate_succ, List.flatten_cons] at h
    obtain ⟨b1, b2, h2, h3, rfl⟩ := eqV_app h
    have hc : P.cellsOf e = ie.size := by
      obtain ⟨_, f, hf, hs, _⟩ := hti e ie hie
      simp [Program.cellsOf, hf, hs]
    have hlen := eqV_len h2
    rw [hl] at h2 h3 hlen
    obtain ⟨z, hz, hzv⟩ := part_isV (P := P) (w := w) hti hie (vs := xs) (off := s * ie.size) hlen.1 h1
    obtain ⟨z2, hz2, hzv2⟩ := part_isV (P := P) (w := w) hti hie (vs := ys) (off := s * ie.size) hlen.2 h1
    have hr := IH z z2 _ _ b1 w hzv hzv2 h2
    rw [List.drop_drop, List.drop_drop] at h3
    have hs : s * ie.size + ie.size = (s + 1) * ie.size := (Nat.succ_mul s ie.size).symm
    rw [hs] at h3
    have hrest := items_run hti hie hl h1 IH xs ys n (s + 1) b2 h3
    rw [List.range'_succ]
    simp only [Op.eqItems, hc, Sem.run_bind, hz, hz2, hr, Result.andThen_ok]
    rw [hc] at hrest
    cases b1 <;> simp [hrest]
theorem fields_run (hti : TiOK P ti) {m d : Nat} (IH : ∀ (t : TypeId) (i : TI) (ks : List CK), ti t = some i → flatT ti m t = some ks → ∀ (x y : Value) (vs us : List Value) (b : Bool) (w : World), IsV i.u x vs → IsV i.u y us → eqV ks vs us = some b → (Op.equalIn d t x y).run P w = .ok b w) (xs ys : Array Value) :
    ∀ (fs : List Field) (off : Nat) (ks : List CK) (b : Bool), flatFs (flatT ti m) off fs = some ks → eqV ks (xs.toList.drop off) (ys.toList.drop off) = some b → (Op.eqFields d xs ys fs).run P w = .ok b w
  | [], off, ks, b, hf, h => by
    simp only [flatFs] at hf; injection hf with hf; subst hf
    have : b = true := by
      generalize xs.toList.drop off = l at h
      generalize ys.toList.drop off = l2 at h
      cases l <;> cases l2 <;> simp [eqV] at h
      exact h
    simp [Op.eqFields, this]
  | f :: fs, off, ks, b, hf, h => by
    simp only [flatFs] at hf
    split at hf
    · rename_i hn
      obtain ⟨hn, rfl⟩ := hn
      split at hf
      · rename_i k1 hk1
        simp only [Option.map_eq_some_iff] at hf
        obtain ⟨k2, hk2, rfl⟩ := hf
        obtain ⟨b1, b2, h2, h3, rfl⟩ := eqV_app h
        obtain ⟨ie, hie⟩ : ∃ ie, ti f.type = some ie := by
          cases m with
          | zero => simp [flatT] at hk1
          | succ m =>
            simp only [flatT] at hk1
            split at hk1
            · exact ⟨_, ‹_›⟩
            · cases hk1
        obtain ⟨hl, h1⟩ := flat_one hie hk1
        have hlen := eqV_len h2
        rw [hl] at h2 h3 hlen
        obtain ⟨z, hz, hzv⟩ := part_isV (P := P) (w := w) hti hie (vs := xs) (off := f.offset) hlen.1 h1
        obtain ⟨z2, hz2, hzv2⟩ := part_isV (P := P) (w := w) hti hie (vs := ys) (off := f.offset) hlen.2 h1
        have hr := IH f.type ie k1 hie hk1 z z2 _ _ b1 w hzv hzv2 h2
        rw [List.drop_drop, List.drop_drop] at h3
        rw [hl] at hk2
        have hrest := fields_run hti IH xs ys fs (f.offset + ie.size) k2 b2 hk2 h3
        simp only [Op.eqFields, hn, ne_eq, not_false_eq_true, if_true, Sem.run_bind, hz, hz2, hr, Result.andThen_ok]
        cases b1 <;> simp [hrest]
      · cases hf
    · cases hf
theorem eq_flat (hti : TiOK P ti) : ∀ (m : Nat) (d : Nat) (t : TypeId) (i : TI) (ks : List CK), ti t = some i → flatT ti m t = some ks → ∀ (x y : Value) (vs us : List Value) (b : Bool) (w : World), IsV i.u x vs → IsV i.u y us → eqV ks vs us = some b → (Op.equalIn (d + m) t x y).run P w = .ok b w
  | 0, d, t, i, ks, hi, h, _, _, _, _, _, _, _, _, _ => by simp [flatT] at h
  | m + 1, d, t, i, ks, hi, h, x, y, vs, us, b, w, hx, hy, hb => by
    have hu := ti_u (P := P) hti hi
    simp only [flatT, hi] at h
    rw [show d + (m + 1) = (d + m) + 1 from rfl]
    split at h
    · rename_i hu2
      obtain ⟨h1, _⟩ := flatI_some h
      injection h1 with h1; subst h1
      simp only [IsV, hu2, isAggD, Bool.false_eq_true, if_false] at hx hy
      subst hx; subst hy
      simp only [eqV] at hb
      obtain ⟨b1, b2, h1, h2, rfl⟩ := and2_some hb
      injection h2 with h2; subst h2
      rw [hu2] at hu
      obtain ⟨a, b, rfl, rfl, rfl⟩ := ckV_bool h1
      rw [run_equalIn_bool' _ _ _ _ _ hu]
      cases a <;> cases b <;> rfl
    · rename_i k hu2
      obtain ⟨h1, _⟩ := flatI_some h
      injection h1 with h1; subst h1
      simp only [IsV, hu2, isAggD, Bool.false_eq_true, if_false] at hx hy
      subst hx; subst hy
      simp only [eqV] at hb
      obtain ⟨b1, b2, h1, h2, rfl⟩ := and2_some hb
      injection h2 with h2; subst h2
      rw [hu2] at hu
      obtain ⟨k, a, b, rfl, rfl, rfl⟩ := ckV_int h1
      rw [run_equalIn_int _ _ _ _ _ _ _ hu, Bool.and_true]
      rfl
    · rename_i hu2
      obtain ⟨h1, _⟩ := flatI_some h
      injection h1 with h1; subst h1
      simp only [IsV, hu2, isAggD, Bool.false_eq_true, if_false] at hx hy
      subst hx; subst hy
      simp only [eqV] at hb
      obtain ⟨b1, b2, h1, h2, rfl⟩ := and2_some hb
      injection h2 with h2; subst h2
      rw [hu2] at hu
      obtain ⟨a, b, rfl, rfl, rfl⟩ := ckV_str h1
      have h : a.toList = b.toList ↔ a = b := by
        rw [Go.ByteArray.toList_eq, Go.ByteArray.toList_eq]
        constructor
        · intro h; exact ByteArray.ext (Array.ext' h)
        · rintro rfl; rfl
      have h2 : (a.toList == b.toList) = decide (a = b) := by
        rw [Bool.eq_iff_iff]; simp [h]
      rw [run_equalIn_string _ _ _ _ _ hu, h2, Bool.and_true]
    · rename_i n e hu2
      obtain ⟨h1, _⟩ := flatI_some h
      simp only [Option.map_eq_some_iff] at h1
      obtain ⟨kse, hk, rfl⟩ := h1
      simp only [IsV, hu2, isAggD, if_true] at hx hy
      subst hx; subst hy
      obtain ⟨ie, hie⟩ : ∃ ie, ti e = some ie := by
        cases m with
        | zero => simp [flatT] at hk
        | succ m =>
          simp only [flatT] at hk
          split at hk
          · exact ⟨_, ‹_›⟩
          · cases hk
      obtain ⟨hl, h1⟩ := flat_one hie hk
      obtain ⟨_, fe, hfe, _⟩ := hti e ie hie
      rw [hu2] at hu
      rw [run_equalIn_array w (d + m) _ _ hu hfe, List.range_eq_range']
      exact items_run hti hie hl h1 (fun x y vs us b w hx hy hb => eq_flat hti m d e ie kse hie hk x y vs us b w hx hy hb) _ _ n 0 b (by simpa using hb)
    · rename_i fs hu2
      obtain ⟨h1, _⟩ := flatI_some h
      simp only [IsV, hu2, isAggD, if_true] at hx hy
      subst hx; subst hy
      rw [hu2] at hu
      have hfs : P.fieldsOf t = fs := by simp [Program.fieldsOf, hu]
      rw [run_equalIn_struct w (d + m) t _ _ (by rw [hfs]; exact hu) (ti_st hti hi), hfs]
      exact fields_run hti (fun t i ks hi hk x y vs us b w hx hy hb => eq_flat hti m d t i ks hi hk x y vs us b w hx hy hb) _ _ fs.toList 0 ks b h1 (by simpa using hb)
    · cases h
theorem guard_flat (hti : TiOK P ti) : ∀ (m d : Nat) (t : TypeId) (ks : List CK), flatT ti m t = some ks → m ≤ d → P.eqGuardType d t = false
  | 0, d, t, ks, h, _ => by simp [flatT] at h
  | m + 1, 0, t, ks, h, hd => by omega
  | m + 1, d + 1, t, ks, h, hd => by
    simp only [flatT] at h
    split at h
    · rename_i i hi
      have hu := ti_u (P := P) hti hi
      unfold Program.eqGuardType
      rw [hu]
      split at h
      · rename_i hu2; rw [hu2]
      · rename_i hu2; rw [hu2]
      · rename_i hu2; rw [hu2]
      · rename_i n e hu2
        rw [hu2]
        obtain ⟨h1, _⟩ := flatI_some h
        simp only [Option.map_eq_some_iff] at h1
        obtain ⟨kse, hk, _⟩ := h1
        exact guard_flat hti m d e kse hk (by omega)
      · rename_i fs hu2
        rw [hu2]
        obtain ⟨h1, _⟩ := flatI_some h
        have : ∀ (l : List Field) (off : Nat) (ks : List CK), flatFs (flatT ti m) off l = some ks → ∀ f ∈ l, P.eqGuardType d f.type = false := by
          intro l
          induction l with
          | nil => intro _ _ _ f hf; simp at hf
          | cons g l ih =>
            intro off ks hk f hf
            simp only [flatFs] at hk
            split at hk
            · split at hk
              · rename_i k1 hk1
                simp only [Option.map_eq_some_iff] at hk
                obtain ⟨k2, hk2, _⟩ := hk
                simp only [List.mem_cons] at hf
                rcases hf with rfl | hf
                · exact guard_flat hti m d _ k1 hk1 (by omega)
                · exact ih _ _ hk2 f hf
              · cases hk
            · cases hk
        simp only
        rw [← Array.any_toList]
        rw [List.any_eq_false]
        intro f hf
        simp [this fs.toList 0 ks h1 f hf]
      · cases h
    · cases h

/-! ### Over data -/
def ckD : CK → D → D → Option Bool
  | k, .c a, .c b => ckV k a b
  | _, _, _ => none
def eqD : List CK → List D → List D → Option Bool
  | [], [], [] => some true
  | k :: ks, x :: xs, y :: ys => and2 (ckD k x y) (eqD ks xs ys)
  | _, _, _ => none
theorem eqD_sound {T : Nat → Nat} : ∀ {ks : List CK} {xs ys : List D} {vs us : List Value} {b : Bool}, RL T w xs vs → RL T w ys us → eqD ks xs ys = some b → eqV ks vs us = some b
  | [], [], [], vs, us, b, hx, hy, h => by
    simp only [RL] at hx hy; subst hx; subst hy; simpa [eqV, eqD] using h
  | k :: ks, x :: xs, y :: ys, vs, us, b, hx, hy, h => by
    simp only [RL] at hx hy
    obtain ⟨v, vr, rfl, _, h1, h2⟩ := hx
    obtain ⟨u, ur, rfl, _, h3, h4⟩ := hy
    simp only [eqD] at h
    obtain ⟨b1, b2, h5, h6, rfl⟩ := and2_some h
    simp only [eqV, eqD_sound h2 h4 h6]
    have : ckV k v u = some b1 := by
      unfold ckD at h5
      split at h5
      · simp only [RD] at h1 h3
        rw [h1.1, h3.1]; exact h5
      · cases h5
    rw [this]; rfl
  | [], [], _ :: _, _, _, _, _, _, h => by simp [eqD] at h
  | [], _ :: _, _, _, _, _, _, _, h => by simp [eqD] at h
  | _ :: _, [], _, _, _, _, _, _, h => by simp [eqD] at h
  | _ :: _, _ :: _, [], _, _, _, _, _, h => by simp [eqD] at h
def tF (ti : Ti) (t : TypeId) : Option (List CK) := flatT ti 8 t
def eqAgg (ks : Option (List CK)) (g neg : Bool) (xs ys : List D) : Option AV := match ks, g with
  | some ks, true => (eqD ks xs ys).map fun b => .d (.c (.bool (if neg then !b else b)))
  | _, _ => none
def aggB (ti : Ti) (t : TypeId) : Bool := match ti t with
  | some i => isAggD i.u
  | none => false
def evEqA (ti : Ti) (t : TypeId) (neg : Bool) (x y : AV) : Option AV := match x, y with
  | .d (.agg xs), .d (.agg ys) => eqAgg (tF ti t) (aggB ti t) neg xs ys
  | _, _ => none
theorem evEqA_form {ti : Ti} {t : TypeId} {neg : Bool} {x y v : AV} (e : evEqA ti t neg x y = some v) : ∃ u, v = .d (.c u) := by
  unfold evEqA at e
  split at e
  · unfold eqAgg at e
    split at e
    · simp only [Option.map_eq_some_iff] at e
      obtain ⟨q, _, rfl⟩ := e
      exact ⟨_, rfl⟩
    · cases e
  · cases e
theorem evEqA_sound (hti : TiOK P ti) {E : Env} {r : Rs} {t : TypeId} {neg : Bool} {x y v : AV} {a b : Value} (hx : RA E r w x a) (hy : RA E r w y b) (e : evEqA ti t neg x y = some v) (ox oy : Operand) :
    ∃ u, v = .d (.c (.bool u)) ∧ ∀ w', (eqGuard (if neg then .neq else .eql) t ox oy a b).run P w' = .ok () w' ∧ (binOp (if neg then .neq else .eql) t a b).run P w' = .ok (.bool u) w' := by
  unfold evEqA at e
  split at e
  · rename_i xs ys
    unfold eqAgg at e
    split at e
    · rename_i ks hk hg
      simp only [Option.map_eq_some_iff] at e
      obtain ⟨q, hq, rfl⟩ := e
      simp only [RA, RD] at hx hy
      obtain ⟨vs, rfl, hx⟩ := hx
      obtain ⟨us, rfl, hy⟩ := hy
      unfold aggB at hg
      split at hg
      · rename_i i hi
        refine ⟨_, rfl, fun w' => ?_⟩
        have hgd := guard_flat (P := P) hti 8 P.depth t ks hk (by unfold Program.depth Made.depth; omega)
        have heq : (Op.equalIn 10000 t (.agg vs) (.agg us)).run P w' = .ok q w' :=
          eq_flat hti 8 9992 t i ks hi hk (.agg vs) (.agg us) vs.toList us.toList q w' (by simp [IsV, hg]) (by simp [IsV, hg]) (eqD_sound hx hy hq)
        refine ⟨run_eqGuard_agg w' _ t ox oy vs us hgd, ?_⟩
        cases neg
        · simp only [Bool.false_eq_true, if_false]; rw [run_eql_struct, heq]; rfl
        · simp only [if_true]; rw [run_neq_struct, heq]; rfl
      · cases hg
    · cases e
  · cases e
end
end Go.Proofs.YteeknmjjpcbphaaDoor
