/- The frame of these proofs, part I: the remaining operations that only compute, and all of them in one word. -/
import Derived.Test.YteeknmjjpcbphaaDoorCH
set_option linter.unusedVariables false
set_option linter.unusedSimpArgs false
namespace Go.Proofs.YteeknmjjpcbphaaDoor
open Go

/-! ### Struct and array values made of parts -/
theorem foldl_sets (off : Nat) : ∀ (L : List Value) (k : Nat) (cells : Array Value), off + k + L.length ≤ cells.size →
    ((L.zipIdx k).foldl (fun cs (c : Value × Nat) => cs.setIfInBounds (off + c.2) c.1) cells).toList = cells.toList.take (off + k) ++ L ++ cells.toList.drop (off + k + L.length)
  | [], k, cells, _ => by simp
  | c :: L, k, cells, h => by
    simp only [List.zipIdx_cons, List.foldl_cons]
    simp only [List.length_cons] at h
    rw [foldl_sets off L (k + 1) _ (by simp only [Array.size_setIfInBounds]; omega)]
    have hk : off + k < cells.toList.length := by simp; omega
    simp only [Array.toList_setIfInBounds, List.length_cons]
    have h1 : (cells.toList.set (off + k) c).take (off + (k + 1)) = cells.toList.take (off + k) ++ [c] := by
      rw [show off + (k + 1) = (off + k) + 1 from by omega, List.take_succ_eq_append_getElem (by simpa using hk)]
      simp [List.take_set_of_le]
    have h2 : (cells.toList.set (off + k) c).drop (off + (k + 1) + L.length) = cells.toList.drop (off + k + (L.length + 1)) := by
      rw [List.drop_set_of_lt (by omega)]
      congr 1
      omega
    rw [h1, h2]
    simp
def fillA (place : Nat → Option (Nat × Nat)) : List AV → List (Nat × AV) → Option (List AV)
  | cells, [] => some cells
  | cells, (i, v) :: rest => match place i, cellsAV v with
    | some (off, size), some cs => if cs.length = size ∧ off + size ≤ cells.length then fillA place (cells.take off ++ cs ++ cells.drop (off + size)) rest else none
    | _, _ => none
theorem cellsAV_sound {G : Nat → List D} {E : Env} {r : Rs} {w : World} (hG : Good G E r w) {a : AV} {x : Value} {cs : List AV} (h : RA E r w a x) (e : cellsAV a = some cs) (hlive : ∀ i, (a = .mp i ∨ (∃ off, a = .ptr i off) ∨ ∃ off sz n, a = .osl i off sz n) → x.oneCell' = true) :
    RAL E r w cs x.cells.toList ∧ ∀ u ∈ x.cells.toList, u.oneCell' = true := by
  unfold cellsAV at e
  split at e
  · rename_i xs
    injection e with e; subst e
    simp only [RA, RD] at h
    obtain ⟨vs, rfl, hr⟩ := h
    exact ⟨RAL_map_d xs _ hr, RL_one xs _ hr⟩
  · injection e with e; subst e
    simp only [RA] at h
    obtain ⟨vs, rfl, hr, h1⟩ := h
    exact ⟨hr, h1⟩
  · cases e
  · cases e
  · rename_i h1 h2 h3 h4
    injection e with e; subst e
    have hone : x.oneCell' = true := RA_one h (by
      cases a with
      | d y => cases y with
        | agg xs => exact absurd rfl (h1 xs)
        | _ => rfl
      | agg l => exact absurd rfl (h2 l)
      | tup l => exact absurd rfl (h3 l)
      | top => exact absurd rfl h4
      | _ => rfl) hlive
    have hc : x.cells = #[x] := by cases x <;> first | rfl | (simp [Value.oneCell'] at hone)
    rw [hc]
    exact ⟨by simp only [RAL]; exact ⟨x, [], rfl, h, rfl⟩, by simpa using hone⟩
/-- What a pointer or a map of the call's own is: one cell. -/
def liveAV (r : Rs) : AV → Bool
  | .mp i => match r[i]? with | some (some (.map _)) => true | _ => false
  | .ptr i _ => match r[i]? with | some (some (.obj _)) => true | _ => false
  | _ => true
theorem liveAV_sound {E : Env} {r : Rs} {w : World} {a : AV} {x : Value} (h : RA E r w a x) (e : liveAV r a = true) (i : Nat) (hi : a = .mp i ∨ (∃ off, a = .ptr i off) ∨ ∃ off sz n, a = .osl i off sz n) : x.oneCell' = true := by
  rcases hi with rfl | ⟨off, rfl⟩ | ⟨off, sz, n, rfl⟩
  · simp only [liveAV] at e
    split at e
    · rename_i l hl
      simp only [RA] at h
      obtain ⟨b, _, rfl⟩ := h.2 l hl
      rfl
    · cases e
  · simp only [liveAV] at e
    split at e
    · rename_i l hl
      simp only [RA] at h
      obtain ⟨b, _, rfl⟩ := h.2 l hl
      rfl
    · cases e
  · simp only [RA] at h
    obtain ⟨_, A, c, rfl, _⟩ := h
    rfl
def RP (E : Env) (r : Rs) (w : World) : List (Nat × AV) → List (Nat × Value) → Prop
  | [], vs => vs = []
  | (i, a) :: l, vs => ∃ v rest, vs = (i, v) :: rest ∧ RA E r w a v ∧ RP E r w l rest
theorem fillA_sound {G : Nat → List D} {E : Env} {r : Rs} {w : World} (hG : Good G E r w) (place : Nat → Option (Nat × Nat)) : ∀ (pa : List (Nat × AV)) (pv : List (Nat × Value)) (ca : List AV) (cv : Array Value) (out : List AV),
    RP E r w pa pv → pa.all (fun p => liveAV r p.2) = true → RAL E r w ca cv.toList → (∀ u ∈ cv.toList, u.oneCell' = true) → fillA place ca pa = some out →
    ∃ ov, Instr.fill place cv pv = some ov ∧ RAL E r w out ov.toList ∧ ∀ u ∈ ov.toList, u.oneCell' = true
  | [], pv, ca, cv, out, hp, _, hc, h1, e => by
    simp only [RP] at hp
    subst hp
    simp only [fillA] at e
    injection e with e; subst e
    exact ⟨cv, rfl, hc, h1⟩
  | (i, a) :: pa, pv, ca, cv, out, hp, hall, hc, h1, e => by
      simp only [RP] at hp
      obtain ⟨x, pv', rfl, hra, hrest⟩ := hp
      simp only [List.all_cons, Bool.and_eq_true] at hall
      obtain ⟨hlv, hall⟩ := hall
      simp only [fillA] at e
      split at e
      · rename_i off size cs hpl hcs
        split at e
        · rename_i hsz
          obtain ⟨hs1, hs2⟩ := hsz
          obtain ⟨k1, k2⟩ := cellsAV_sound hG hra hcs (liveAV_sound hra hlv)
          have hl1 := RAL_length _ _ k1
          have hl2 := RAL_length _ _ hc
          have hxs : x.cells.size = size := by simpa [hs1] using hl1
          have hcs' : off + size ≤ cv.size := by rw [← hl2] at hs2; simpa using hs2
          have hf : (x.cells.zipIdx.foldl (fun cs (c : Value × Nat) => cs.setIfInBounds (off + c.2) c.1) cv).toList = cv.toList.take off ++ x.cells.toList ++ cv.toList.drop (off + size) := by
            have := foldl_sets off x.cells.toList 0 cv (by simp [hxs]; omega)
            simp only [Nat.add_zero] at this
            rw [← Array.foldl_toList, Array.toList_zipIdx, this]
            simp [hxs]
          obtain ⟨ov, ho1, ho2, ho3⟩ := fillA_sound hG place pa pv' _ (x.cells.zipIdx.foldl (fun cs (c : Value × Nat) => cs.setIfInBounds (off + c.2) c.1) cv) out hrest hall
            (by rw [hf]; exact RAL_append _ _ _ _ (RAL_append _ _ _ _ (RAL_take _ _ hc _) k1) (RAL_drop _ _ hc _))
            (by rw [hf]; intro u hu; simp only [List.mem_append] at hu; rcases hu with (hu | hu) | hu
                · exact h1 u (List.mem_of_mem_take hu)
                · exact k2 u hu
                · exact h1 u (List.mem_of_mem_drop hu)) e
          refine ⟨ov, ?_, ho2, ho3⟩
          simp only [Instr.fill, hpl]
          rw [if_neg (by simp [hxs]; omega)]
          exact ho1
        · cases e
      · cases e
def placesA (ti : Ti) : List Field → Option (List (Nat × Nat))
  | [] => some []
  | f :: fs => match ti f.type, placesA ti fs with
    | some i, some rest => some ((f.offset, i.size) :: rest)
    | _, _ => none
theorem placesA_sound {P : Program} {ti : Ti} (hti : TiOK P ti) : ∀ (fs : List Field) (pl : List (Nat × Nat)), placesA ti fs = some pl → fs.mapM (fun f => (P.info? f.type).map fun i => (f.offset, i.size)) = some pl
  | [], pl, h => by simpa [placesA] using h
  | f :: fs, pl, h => by
    simp only [placesA] at h
    split at h
    · rename_i i rest hi hr
      injection h with h; subst h
      obtain ⟨_, g, hg, hs, _⟩ := hti _ _ hi
      simp [List.mapM_cons, hg, hs, placesA_sound hti fs rest hr]
    · cases h
def zeroA (z : Value) : Option (List AV) := if z.cells.toList.all Value.oneCell' then some (z.cells.toList.map fun v => .d (.c v)) else none
theorem zeroA_sound {E : Env} {r : Rs} {w : World} {z : Value} {l : List AV} (h : zeroA z = some l) : RAL E r w l z.cells.toList ∧ ∀ u ∈ z.cells.toList, u.oneCell' = true := by
  unfold zeroA at h
  split at h
  · rename_i h1
    injection h with h; subst h
    refine ⟨?_, fun u hu => List.all_eq_true.1 h1 u hu⟩
    have := RAL_map_d (E := E) (r := r) (w := w) _ _ (RL_consts (T := E.T) (w := w) _ h1)
    simpa [List.map_map, Function.comp_def] using this
  · cases h
def evBuild (ti : Ti) (r : Rs) (t : TypeId) (parts : List (Nat × AV)) : Option AV :=
  if parts.all (fun p => liveAV r p.2) then
    match ti t with
    | some ⟨.struct fs, _, _, z⟩ => match placesA ti fs.toList, zeroA z with
      | some pl, some zl => (fillA (fun i => pl[i]?) zl parts).map mkAgg
      | _, _ => none
    | some ⟨.array _ e, _, _, z⟩ => match ti e, zeroA z with
      | some ie, some zl => (fillA (fun i => some (i * ie.size, ie.size)) zl parts).map mkAgg
      | _, _ => none
    | _ => none
  else none
theorem evBuild_sound {P : Program} {ti : Ti} (hti : TiOK P ti) {G : Nat → List D} {E : Env} {r : Rs} {w : World} (hG : Good G E r w) {t : TypeId} {pa : List (Nat × AV)} {pv : Array (Nat × Value)} {v : AV}
    (hp : RP E r w pa pv.toList) (e : evBuild ti r t pa = some v) : ∃ z, (Instr.build t pv).run P w = .ok z w ∧ RA E r w v z := by
  unfold evBuild at e
  split at e
  · rename_i hall
    split at e
    · rename_i fs s b z hte
      obtain ⟨hu, f, hf, _, _, hz, _⟩ := hti _ _ hte
      split at e
      · rename_i pl zl hpl hzl
        simp only [Option.map_eq_some_iff] at e
        obtain ⟨out, hout, rfl⟩ := e
        obtain ⟨k1, k2⟩ := zeroA_sound (E := E) (r := r) (w := w) hzl
        obtain ⟨ov, ho1, ho2, ho3⟩ := fillA_sound hG _ pa pv.toList zl z.cells out hp hall k1 k2 hout
        refine ⟨.agg ov, run_build w t pv ov ?_, mkAgg_sound ho2 ho3⟩
        have hp2 := placesA_sound hti _ _ hpl
        simp only [Program.built, hf, hu, hz, hp2]
        simpa using ho1
      · cases e
    · rename_i n el s b z hte
      obtain ⟨hu, f, hf, _, _, hz, _⟩ := hti _ _ hte
      split at e
      · rename_i ie zl hie hzl
        simp only [Option.map_eq_some_iff] at e
        obtain ⟨out, hout, rfl⟩ := e
        obtain ⟨_, fe, hfe, hse, _⟩ := hti _ _ hie
        obtain ⟨k1, k2⟩ := zeroA_sound (E := E) (r := r) (w := w) hzl
        obtain ⟨ov, ho1, ho2, ho3⟩ := fillA_sound hG _ pa pv.toList zl z.cells out hp hall k1 k2 hout
        refine ⟨.agg ov, run_build w t pv ov ?_, mkAgg_sound ho2 ho3⟩
        simp only [Program.built, hf, hu, hz, hfe, hse]
        exact ho1
      · cases e
    · cases e
  · cases e
end Go.Proofs.YteeknmjjpcbphaaDoor
