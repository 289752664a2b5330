/- The frame of these proofs, part H: indexing, fields, loads, builds; all operations that only compute in one word. -/
import Derived.Test.YteeknmjjpcbphaaDoorCG
set_option linter.unusedVariables false
set_option linter.unusedSimpArgs false
namespace Go.Proofs.YteeknmjjpcbphaaDoor
open Go

def objOf (r : Rs) (i : Nat) : Option (List AV) := match r[i]? with
  | some (some (.obj l)) => some l
  | _ => none
theorem objOf_some {r : Rs} {i : Nat} {l : List AV} (h : objOf r i = some l) : r[i]? = some (some (.obj l)) := by
  unfold objOf at h
  split at h
  · injection h with h; subst h; assumption
  · cases h
/-- The byte of a text at a place. -/
def sB (s : ByteArray) (k : Nat) : Int := ((s.toList.getD k 0).toNat : Int)

/-! ### Slicing of texts, of arrays, of slices of arrays -/
def evSlice (ti : Ti) (r : Rs) (t : TypeId) (x : AV) (lo hi mx : Option Int) : Option AV :=
  match x with
  | .d (.c (.string s)) => match ti t, mx with
    | some ⟨.string, _, _, _⟩, none => chk (0 ≤ lo.getD 0 ∧ lo.getD 0 ≤ hi.getD s.size ∧ hi.getD s.size ≤ s.size) (some (.d (.c (.string (s.extract (lo.getD 0).toNat (hi.getD s.size).toNat)))))
    | _, _ => none
  | .osl i off sz n => match mx with
    | none => chk (szOf ti t = some sz ∧ 0 ≤ lo.getD 0 ∧ lo.getD 0 ≤ hi.getD n ∧ hi.getD n ≤ n) (some (.osl i (off + (lo.getD 0).toNat * sz) sz ((hi.getD n).toNat - (lo.getD 0).toNat)))
    | _ => none
  | .ptr i off => match ti t, mx, objOf r i with
    | some ⟨.array n e, _, _, _⟩, none, some l => match ti e with
      | some ie => chk (off + n * ie.size ≤ l.length ∧ 0 ≤ lo.getD 0 ∧ lo.getD 0 ≤ hi.getD n ∧ hi.getD n ≤ n) (some (.osl i (off + (lo.getD 0).toNat * ie.size) ie.size ((hi.getD n).toNat - (lo.getD 0).toNat)))
      | none => none
    | _, _, _ => none
  | .el xs => match ti t, mx with
    | some ⟨.array n e, _, _, _⟩, none => match ti e with
      | some ie => chk (n * ie.size ≤ xs.length ∧ 0 ≤ lo.getD 0 ∧ lo.getD 0 ≤ hi.getD n ∧ hi.getD n ≤ n) (some (.d (.sl ie.size ((hi.getD n).toNat - (lo.getD 0).toNat) ((xs.drop ((lo.getD 0).toNat * ie.size)).take (((hi.getD n).toNat - (lo.getD 0).toNat) * ie.size)))))
      | none => none
    | _, _ => none
  | x => match szOf ti t with
    | some sz => match slOf sz x with
      | some (m, n, xs) => cutSl sz m n xs lo hi mx
      | none => none
    | none => none

theorem evSlice_sound {P : Program} {ti : Ti} (hti : TiOK P ti) {G : Nat → List D} {E : Env} {r : Rs} {w : World} (hG : Good G E r w) {t : TypeId} {x v : AV} {y : Value} {lo hi mx : Option Value} {l h k : Option Int}
    (hx : RA E r w x y) (hlo : IsI lo l) (hhi : IsI hi h) (hmx : IsI mx k) (e : evSlice ti r t x l h k = some v) :
    ∃ z, (∀ w', (Instr.sliceAt t y lo hi mx).run P w' = .ok z w') ∧ RA E r w v z := by
  unfold evSlice at e
  split at e
  · rename_i s
    simp only [RA, RD] at hx
    obtain ⟨rfl, _⟩ := hx
    split at e
    · rename_i hie
      obtain ⟨⟨h0, h1, h2⟩, e⟩ := chk_some e
      injection e with e; subst e
      have hb := fun w' => bounds_run (P := P) (w := w') (isS := false) (len := s.size) (cap := s.size) hlo hhi (show IsI none none from rfl) (Nat.le_refl _) h0 h1 h2 (by intro m hm; cases hm)
      have hut := fun w' => ti_run (P := P) hti hie w'
      have hmxn : mx = none := hmx
      subst hmxn
      exact ⟨.string (s.extract (l.getD 0).toNat (h.getD s.size).toNat), fun w' => by simp [Instr.sliceAt, hut, Instr.slice, hb], by simp [RA, RD, Value.oneCell']⟩
    · cases e
  · rename_i i off sz n
    split at e
    · obtain ⟨⟨hz, h0, h1, h2⟩, e⟩ := chk_some e
      injection e with e; subst e
      obtain ⟨el, s, b, zv, ie, hte, hee, rfl⟩ := szOf_sound hz
      have hmxn : mx = none := hmx
      subst hmxn
      simp only [RA] at hx
      obtain ⟨hi', A, c, rfl, hnc, hl⟩ := hx
      have hb := fun w' => bounds_run (P := P) (w := w') (isS := true) (len := n) (cap := c) hlo hhi (show IsI none none from rfl) hnc h0 h1 (by omega) (by intro m hm; cases hm)
      have hut := fun w' => ti_run (P := P) hti hte w'
      have hsz := fun w' => ti_size (P := P) hti hee w'
      refine ⟨.slice (if c = (l.getD 0).toNat then A else A.map (·.add ((l.getD 0).toNat * ie.size))) ((h.getD n).toNat - (l.getD 0).toNat) (c - (l.getD 0).toNat), fun w' => by simp [Instr.sliceAt, hut, Instr.slice, hb, hsz], ?_⟩
      simp only [RA]
      refine ⟨hi', _, _, rfl, by omega, fun lst hlst => ?_⟩
      obtain ⟨k1, k2⟩ := hl lst hlst
      have hmul : (l.getD 0).toNat * ie.size + ((h.getD n).toNat - (l.getD 0).toNat) * ie.size ≤ n * ie.size := by
        rw [← Nat.add_mul]; exact Nat.mul_le_mul_right _ (by omega)
      refine ⟨by omega, fun hp => ?_⟩
      obtain ⟨b, hb, rfl⟩ := k2 (by omega)
      refine ⟨b, hb, ?_⟩
      rw [if_neg (by omega)]
      simp [addr_plain]
    · cases e
  · rename_i i off
    split at e
    · rename_i n el _ _ _ lst hte hobj
      split at e
      · rename_i ie hee
        obtain ⟨⟨hle, h0, h1, h2⟩, e⟩ := chk_some e
        injection e with e; subst e
        have hmxn : mx = none := hmx
        subst hmxn
        simp only [RA] at hx
        obtain ⟨b, hb1, rfl⟩ := hx.2 lst (objOf_some hobj)
        have hb := fun w' => bounds_run (P := P) (w := w') (isS := false) (len := n) (cap := n) hlo hhi (show IsI none none from rfl) (Nat.le_refl _) h0 h1 h2 (by intro m hm; cases hm)
        have hut := fun w' => ti_run (P := P) hti hte w'
        have hsz := fun w' => ti_size (P := P) hti hee w'
        refine ⟨.slice (some (if n = (l.getD 0).toNat then ⟨b, off, none⟩ else (⟨b, off, none⟩ : Addr).add ((l.getD 0).toNat * ie.size))) ((h.getD n).toNat - (l.getD 0).toNat) (n - (l.getD 0).toNat), fun w' => by simp [Instr.sliceAt, hut, Instr.sureAddr, hb, hsz], ?_⟩
        simp only [RA]
        refine ⟨hx.1, _, _, rfl, by omega, fun lst' hlst' => ?_⟩
        rw [objOf_some hobj] at hlst'
        injection hlst' with hlst'; injection hlst' with hlst'; injection hlst' with hlst'; subst hlst'
        have hmul : (l.getD 0).toNat * ie.size + ((h.getD n).toNat - (l.getD 0).toNat) * ie.size ≤ n * ie.size := by
          rw [← Nat.add_mul]; exact Nat.mul_le_mul_right _ (by omega)
        refine ⟨by omega, fun hp => ⟨b, hb1, ?_⟩⟩
        rw [if_neg (by omega), addr_plain]
      · cases e
    · cases e
  · rename_i xs
    split at e
    · rename_i n el _ _ _ hte
      split at e
      · rename_i ie hee
        obtain ⟨⟨hle, h0, h1, h2⟩, e⟩ := chk_some e
        injection e with e; subst e
        have hmxn : mx = none := hmx
        subst hmxn
        simp only [RA] at hx
        obtain ⟨ad, rfl, hrm⟩ := hx
        have hb := fun w' => bounds_run (P := P) (w := w') (isS := false) (len := n) (cap := n) hlo hhi (show IsI none none from rfl) (Nat.le_refl _) h0 h1 h2 (by intro m hm; cases hm)
        have hut := fun w' => ti_run (P := P) hti hte w'
        have hsz := fun w' => ti_size (P := P) hti hee w'
        have hcut := RM_cut (T := E.T) (w := w) (xs := xs.take (n * ie.size)) (A := some ad) (sz := ie.size) (n := n) (l := (l.getD 0).toNat) (h := (h.getD n).toNat) (by rw [List.length_take]; omega) (.inr ⟨ad, rfl, RM_take _ _ hrm _⟩) (by omega) (by omega) n (by omega)
        have htt : ((xs.take (n * ie.size)).drop ((l.getD 0).toNat * ie.size)).take (((h.getD n).toNat - (l.getD 0).toNat) * ie.size) = (xs.drop ((l.getD 0).toNat * ie.size)).take (((h.getD n).toNat - (l.getD 0).toNat) * ie.size) := by
          have hmul : (l.getD 0).toNat * ie.size + ((h.getD n).toNat - (l.getD 0).toNat) * ie.size ≤ n * ie.size := by
            rw [← Nat.add_mul]; exact Nat.mul_le_mul_right _ (by omega)
          rw [List.drop_take, List.take_take, Nat.min_eq_left (by omega)]
        rw [htt] at hcut
        refine ⟨.slice (some (if n = (l.getD 0).toNat then ad else ad.add ((l.getD 0).toNat * ie.size))) ((h.getD n).toNat - (l.getD 0).toNat) (n - (l.getD 0).toNat), fun w' => by simp [Instr.sliceAt, hut, Instr.sureAddr, hb, hsz], ?_⟩
        simp only [RA, RD]
        refine ⟨hcut.1, _, _, rfl, by omega, ?_⟩
        rcases hcut.2 with h3 | ⟨ad', h3, h4⟩
        · exact .inl h3
        · refine .inr ⟨ad', ?_, h4⟩
          split at h3 <;> simp_all
      · cases e
    · cases e
  · split at e
    · rename_i sz hz
      split at e
      · rename_i m n xs hs
        exact cutSl_sound hti hz hx hs hlo hhi hmx e
      · cases e
    · cases e

/-! ### Addresses of elements and fields -/
def evIndexAddr (ti : Ti) (r : Rs) (t : TypeId) (x : AV) (i : Int) : Option AV :=
  match x with
  | .ptr o off => match ti t, objOf r o with
    | some ⟨.array n e, _, _, _⟩, some l => match ti e with
      | some ie => chk (0 ≤ i ∧ i < n) (some (.ptr o (off + i.toNat * ie.size)))
      | none => none
    | _, _ => none
  | .el xs => match ti t with
    | some ⟨.array n e, _, _, _⟩ => match ti e with
      | some ie => chk (0 ≤ i ∧ i < n) (some (.el (xs.drop (i.toNat * ie.size))))
      | none => none
    | _ => none
  | .osl o off sz n => match objOf r o with
    | some l => chk (szOf ti t = some sz ∧ 0 ≤ i ∧ i < n) (some (.ptr o (off + i.toNat * sz)))
    | none => none
  | x => match szOf ti t with
    | some sz => match slOf sz x with
      | some (_, n, xs) => chk (0 ≤ i ∧ i < n ∧ 0 < sz) (some (.el (xs.drop (i.toNat * sz))))
      | none => none
    | none => none
theorem evIndexAddr_sound {P : Program} {ti : Ti} (hti : TiOK P ti) {E : Env} {r : Rs} {w : World} {t : TypeId} {x v : AV} {y : Value} {kd : IntKind} {i : Int}
    (hx : RA E r w x y) (e : evIndexAddr ti r t x i = some v) : ∃ z, (∀ w', (Instr.indexAt t y (.int kd i)).run P w' = .ok z w') ∧ RA E r w v z := by
  unfold evIndexAddr at e
  split at e
  · rename_i o off
    split at e
    · rename_i n el _ _ _ l hte hobj
      split at e
      · rename_i ie hee
        obtain ⟨⟨h0, h1⟩, e⟩ := chk_some e
        injection e with e; subst e
        simp only [RA] at hx
        obtain ⟨b, hb, rfl⟩ := hx.2 l (objOf_some hobj)
        have hut := fun w' => ti_run (P := P) hti hte w'
        have hsz := fun w' => ti_size (P := P) hti hee w'
        refine ⟨.pointer (some ((⟨b, off, none⟩ : Addr).add (i.toNat * ie.size))), fun w' => by simp [Instr.indexAt, asIntOf, hut, Instr.sureAddr, h0, h1, hsz], ?_⟩
        simp only [RA]
        refine ⟨hx.1, fun l' hl' => ⟨b, hb, by rw [addr_plain]⟩⟩
      · cases e
    · cases e
  · rename_i xs
    split at e
    · rename_i n el _ _ _ hte
      split at e
      · rename_i ie hee
        obtain ⟨⟨h0, h1⟩, e⟩ := chk_some e
        injection e with e; subst e
        simp only [RA] at hx
        obtain ⟨ad, rfl, hrm⟩ := hx
        have hut := fun w' => ti_run (P := P) hti hte w'
        have hsz := fun w' => ti_size (P := P) hti hee w'
        exact ⟨.pointer (some (ad.add (i.toNat * ie.size))), fun w' => by simp [Instr.indexAt, asIntOf, hut, Instr.sureAddr, h0, h1, hsz], by simp only [RA]; exact ⟨_, rfl, RM_drop xs ad hrm _⟩⟩
      · cases e
    · cases e
  · rename_i o off sz n
    split at e
    · rename_i l hobj
      obtain ⟨⟨hz, h0, h1⟩, e⟩ := chk_some e
      injection e with e; subst e
      obtain ⟨el, s, b, zv, ie, hte, hee, rfl⟩ := szOf_sound hz
      simp only [RA] at hx
      obtain ⟨hi, A, c, rfl, hc, hl⟩ := hx
      obtain ⟨h2, h3⟩ := hl l (objOf_some hobj)
      obtain ⟨b, hb, rfl⟩ := h3 (by omega)
      have hut := fun w' => ti_run (P := P) hti hte w'
      have hsz := fun w' => ti_size (P := P) hti hee w'
      refine ⟨.pointer (some ((⟨b, off, none⟩ : Addr).add (i.toNat * ie.size))), fun w' => by simp [Instr.indexAt, asIntOf, hut, h0, h1, hsz], ?_⟩
      simp only [RA]
      refine ⟨hi, fun l' hl' => ⟨b, hb, by rw [addr_plain]⟩⟩
    · cases e
  · split at e
    · rename_i sz hz
      split at e
      · rename_i m n xs hs
        obtain ⟨⟨h0, h1, h2⟩, e⟩ := chk_some e
        injection e with e; subst e
        obtain ⟨el, s, b, zv, ie, hte, hee, rfl⟩ := szOf_sound hz
        obtain ⟨hlen, A, c, rfl, hnc, hr, _⟩ := slOf_sound hx hs
        have hut := fun w' => ti_run (P := P) hti hte w'
        have hsz := fun w' => ti_size (P := P) hti hee w'
        have hne : xs ≠ [] := by
          rintro rfl
          have : 0 < n * ie.size := Nat.mul_pos (by omega) h2
          simp at hlen
          omega
        rcases hr with h3 | ⟨ad, rfl, hrm⟩
        · exact absurd h3 hne
        · exact ⟨.pointer (some (ad.add (i.toNat * ie.size))), fun w' => by simp [Instr.indexAt, asIntOf, hut, h0, h1, hsz], by simp only [RA]; exact ⟨_, rfl, RM_drop xs ad hrm _⟩⟩
      · cases e
    · cases e

/-- A struct type's field: its place and its type. -/
def fieldOf (ti : Ti) (t : TypeId) (f : Nat) : Option (Nat × TypeId) := match ti t with
  | some ⟨.struct fs, _, _, _⟩ => (fs[f]?).map fun x => (x.offset, x.type)
  | _ => none
def evFieldAddr (ti : Ti) (r : Rs) (t : TypeId) (x : AV) (f : Nat) : Option AV :=
  match fieldOf ti t f with
  | some (off', ft) => match ti ft with
    | some ie => match x with
      | .ptr o off => (objOf r o).bind fun _ => chk (ie.size ≠ 0) (some (.ptr o (off + off')))
      | .el xs => chk (ie.size ≠ 0) (some (.el (xs.drop off')))
      | _ => none
    | none => none
  | none => none
theorem evFieldAddr_sound {P : Program} {ti : Ti} (hti : TiOK P ti) {E : Env} {r : Rs} {w : World} {t : TypeId} {x v : AV} {y : Value} {f : Nat}
    (hx : RA E r w x y) (e : evFieldAddr ti r t x f = some v) : ∃ z, (∀ w', (Instr.fieldAt t y f).run P w' = .ok z w') ∧ RA E r w v z := by
  unfold evFieldAddr at e
  split at e
  · rename_i off' ft hf
    unfold fieldOf at hf
    split at hf
    · rename_i fs _ _ _ hte
      simp only [Option.map_eq_some_iff, Prod.mk.injEq] at hf
      obtain ⟨fld, hfld, rfl, rfl⟩ := hf
      have hut := fun w' => ti_run (P := P) hti hte w'
      split at e
      · rename_i ie hie
        have hsz := fun w' => ti_size (P := P) hti hie w'
        split at e
        · rename_i o off
          simp only [Option.bind_eq_some_iff] at e
          obtain ⟨l, hl, e⟩ := e
          obtain ⟨h0, e⟩ := chk_some e
          injection e with e; subst e
          simp only [RA] at hx
          obtain ⟨b, hb, rfl⟩ := hx.2 l (objOf_some hl)
          refine ⟨.pointer (some ((⟨b, off, none⟩ : Addr).add fld.offset)), fun w' => by simp [Instr.fieldAt, hut, hfld, Instr.sureAddr, fieldPlace, hsz, h0], ?_⟩
          simp only [RA]
          refine ⟨hx.1, fun l' hl' => ⟨b, hb, by rw [addr_plain]⟩⟩
        · rename_i xs
          obtain ⟨h0, e⟩ := chk_some e
          injection e with e; subst e
          simp only [RA] at hx
          obtain ⟨ad, rfl, hrm⟩ := hx
          exact ⟨.pointer (some (ad.add fld.offset)), fun w' => by simp [Instr.fieldAt, hut, hfld, Instr.sureAddr, fieldPlace, hsz, h0], by simp only [RA]; exact ⟨_, rfl, RM_drop xs ad hrm _⟩⟩
        · cases e
      · cases e
    · cases hf
  · cases e

/-! ### Loads -/
def evLoad (ti : Ti) (r : Rs) (t : TypeId) (x : AV) : Option AV :=
  match ti t with
  | some i => match x with
    | .el xs => if isAggD i.u = true then chk (i.size ≤ xs.length) (some (.d (.agg (xs.take i.size)))) else (xs[0]?).map .d
    | .ptr o off => match objOf r o with
      | some l => if isAggD i.u = true then chk (off + i.size ≤ l.length) (some (mkAgg ((l.drop off).take i.size))) else l[off]?
      | none => none
    | _ => none
  | none => none
theorem obj_cell {G : Nat → List D} {E : Env} {r : Rs} {w : World} (hG : Good G E r w) {o : Nat} {l : List AV} (ho : objOf r o = some l) : ∃ b vs e, E.bl o = some b ∧ w.heap[b]? = some (.cells vs e (0, 0)) ∧ RAL E r w l vs.toList ∧ (∀ u ∈ vs.toList, u.oneCell' = true) ∧
    ∀ off, w.cell? ⟨b, off, none⟩ = vs[off]? := by
  obtain ⟨b, hb, _, vs, e, h1, h2, h3⟩ := hG.obj o l (objOf_some ho)
  exact ⟨b, vs, e, hb, h1, h2, h3, fun off => cell_of_row w b off vs e (0, 0) h1⟩
theorem evLoad_sound {P : Program} {ti : Ti} (hti : TiOK P ti) {G : Nat → List D} {E : Env} {r : Rs} {w : World} (hG : Good G E r w) {t : TypeId} {x v : AV} {y : Value}
    (hx : RA E r w x y) (e : evLoad ti r t x = some v) : ∃ z, (∀ w', Keeps w w' → (Instr.loadAt t y).run P w' = .ok z w') ∧ RA E r w v z := by
  unfold evLoad at e
  split at e
  · rename_i i hi
    have hag := fun w' => ti_agg (P := P) hti hi w'
    have hsz := fun w' => ti_size (P := P) hti hi w'
    split at e
    · rename_i xs
      simp only [RA] at hx
      obtain ⟨ad, rfl, hrm⟩ := hx
      split at e
      · rename_i hagg
        obtain ⟨h0, e⟩ := chk_some e
        injection e with e; subst e
        simp only [hagg] at hag
        obtain ⟨us, hus, hcell⟩ := RM_values _ ad (RM_take xs ad hrm i.size)
        have hlen := RL_length _ us hus
        rw [List.length_take, Nat.min_eq_left h0] at hlen
        have hload := fun w' (hk : Keeps w w') => run_loadCells_list (P := P) w' ad us (fun j u hj => hk.cell (hcell j u hj))
        simp only [hlen] at hload
        refine ⟨.agg us.toArray, fun w' hk => by simp [Instr.loadAt, Instr.sureAddr, loadVar, hag, hsz, hload w' hk], ?_⟩
        simp only [RA, RD]
        exact ⟨us.toArray, rfl, by simpa using hus⟩
      · rename_i hagg
        simp only [Option.map_eq_some_iff] at e
        obtain ⟨d, hd, rfl⟩ := e
        obtain ⟨_, u, hu, h1, hdu⟩ := RM_get xs ad hrm 0 d hd
        rw [addr_add_zero] at hu
        have hag' : isAggD i.u = false := by simpa using hagg
        simp only [hag'] at hag
        exact ⟨u, fun w' hk => by simp [Instr.loadAt, Instr.sureAddr, loadVar, hag, hk.cell hu], by simpa [RA] using hdu⟩
    · rename_i o off
      split at e
      · rename_i l hl
        simp only [RA] at hx
        obtain ⟨b, hb, rfl⟩ := hx.2 l (objOf_some hl)
        obtain ⟨b', vs, el, hb', hh, hral, hone, hcell⟩ := obj_cell hG hl
        rw [hb] at hb'; injection hb' with hb'; subst hb'
        have hlv := RAL_length l _ hral
        split at e
        · rename_i hagg
          obtain ⟨h0, e⟩ := chk_some e
          injection e with e; subst e
          simp only [hagg] at hag
          have hload := fun w' (hk : Keeps w w') => run_loadCells_list (P := P) w' ⟨b, off, none⟩ ((vs.toList.drop off).take i.size) (fun j u hj => hk.cell <| by
            rw [addr_plain, hcell]
            rw [List.getElem?_take] at hj
            split at hj
            · rw [List.getElem?_drop] at hj; simpa using hj
            · cases hj)
          have hlen : ((vs.toList.drop off).take i.size).length = i.size := by
            rw [List.length_take, List.length_drop]; omega
          simp only [hlen] at hload
          refine ⟨.agg ((vs.toList.drop off).take i.size).toArray, fun w' hk => by simp only [Instr.loadAt, Instr.sureAddr, loadVar, Sem.run_bind, Sem.run_pure, Result.andThen_ok, hag, hsz, if_true, hload w' hk], ?_⟩
          refine mkAgg_sound (by simpa using RAL_take _ _ (RAL_drop l _ hral off) i.size) fun u hu => hone u ?_
          exact List.mem_of_mem_drop (List.mem_of_mem_take (by simpa using hu))
        · rename_i hagg
          have hag' : isAggD i.u = false := by simpa using hagg
          simp only [hag'] at hag
          obtain ⟨u, hu, hru⟩ := RAL_get l _ hral off v e
          have hc : w.cell? ⟨b, off, none⟩ = some u := by rw [hcell]; simpa using hu
          exact ⟨u, fun w' hk => by simp [Instr.loadAt, Instr.sureAddr, loadVar, hag, hk.cell hc], hru⟩
      · cases e
    · cases e
  · cases e
end Go.Proofs.YteeknmjjpcbphaaDoor
