/- The frame of these proofs, part G: slicing, indexing, fields, loads; all operations that only compute in one word. -/
import Derived.Test.YteeknmjjpcbphaaDoorCF
set_option linter.unusedVariables false
set_option linter.unusedSimpArgs false
namespace Go.Proofs.YteeknmjjpcbphaaDoor
open Go

theorem intOfA_sound {E : Env} {r : Rs} {w : World} {a : AV} {x : Value} {n : Int} (h : RA E r w a x) (e : intOfA a = some n) : ∃ k, x = .int k n := by
  unfold intOfA at e
  split at e
  · rename_i k _
    injection e with e; subst e
    simp only [RA, RD] at h
    exact ⟨k, h.1⟩
  · cases e
theorem optI_sound {G : Nat → List D} {N : Nat} {E : Env} {σ : St} {a : Act} {w : World} (h : Rel G N E σ a w) {o : Option Operand} {i : Option Int} (e : optI (o.map (σ.ev G)) = some i) : IsI (o.map a.eval) i := by
  cases o with
  | none => simp only [Option.map_none, optI] at e; injection e with e; subst e; rfl
  | some o =>
    simp only [Option.map_some, optI, Option.map_eq_some_iff] at e
    obtain ⟨n, hn, rfl⟩ := e
    obtain ⟨k, hk⟩ := intOfA_sound (ev_sound h o) hn
    exact ⟨k, by simp [hk]⟩

theorem cutSl_sound {P : Program} {ti : Ti} (hti : TiOK P ti) {E : Env} {r : Rs} {w : World} {t : TypeId} {sz : Nat} {x v : AV} {y : Value} {m : Option Mo} {n : Nat} {xs : List D} {lo hi mx : Option Value} {l h k : Option Int}
    (hz : szOf ti t = some sz) (hx : RA E r w x y) (hs : slOf sz x = some (m, n, xs)) (hlo : IsI lo l) (hhi : IsI hi h) (hmx : IsI mx k) (e : cutSl sz m n xs l h k = some v) :
    ∃ z, (∀ w', (Instr.sliceAt t y lo hi mx).run P w' = .ok z w') ∧ RA E r w v z := by
  obtain ⟨el, s, b, zv, ie, hte, hee, rfl⟩ := szOf_sound hz
  have hut := fun w' => ti_run (P := P) hti hte w'
  obtain ⟨hlen, A, c, rfl, hnc, hr, hm⟩ := slOf_sound hx hs
  have hsz := fun w' => ti_size (P := P) hti hee w'
  have run : ∀ (L H M : Nat), (∀ w', (Instr.sliceBounds true n c lo hi mx).run P w' = .ok (L, H, M) w') → ∀ w', (Instr.sliceAt t (.slice A n c) lo hi mx).run P w' = .ok (.slice (if M = L then A else A.map (·.add (L * ie.size))) (H - L) (M - L)) w' := by
    intro L H M hb w'
    simp [Instr.sliceAt, hut, Instr.slice, hb, hsz]
  unfold cutSl at e
  cases k with
  | some k =>
    cases h with
    | none => cases e
    | some h =>
      obtain ⟨⟨h0, h1, h2, h3⟩, e⟩ := chk_some e
      injection e with e; subst e; subst h3
      have hb := fun w' => bounds_run (P := P) (w := w') (isS := true) (len := n) (cap := c) hlo hhi hmx hnc h0 (by simpa using h1) (by simp; omega) (by intro m hm; injection hm with hm; subst hm; simp; omega)
      have hcut := RM_cut hlen hr (l := (l.getD 0).toNat) (h := k.toNat) (by omega) (by omega) k.toNat (Nat.le_refl _)
      refine ⟨_, run _ _ _ hb, ?_⟩
      simp only [RA, Option.getD_some]
      exact ⟨hcut.1, _, _, rfl, Nat.le_refl _, hcut.2, rfl⟩
  | none =>
    cases h with
    | none =>
      have key : 0 ≤ l.getD 0 ∧ l.getD 0 ≤ n → (∀ w', (Instr.sliceBounds true n c lo hi mx).run P w' = .ok ((l.getD 0).toNat, n, c) w') ∧ (xs.drop ((l.getD 0).toNat * ie.size)).length = (n - (l.getD 0).toNat) * ie.size ∧
          (xs.drop ((l.getD 0).toNat * ie.size) = [] ∨ ∃ ad, (if c = (l.getD 0).toNat then A else A.map (·.add ((l.getD 0).toNat * ie.size))) = some ad ∧ RM E.T w (xs.drop ((l.getD 0).toNat * ie.size)) ad) := by
        rintro ⟨h0, h1⟩
        have hb := fun w' => bounds_run (P := P) (w := w') (isS := true) (len := n) (cap := c) hlo hhi hmx hnc h0 (by simpa using h1) (by simp; omega) (by intro m hm; cases hm)
        have hcut := RM_cut hlen hr (l := (l.getD 0).toNat) (h := n) (by omega) (Nat.le_refl _) c hnc
        rw [drop_take_all hlen] at hcut
        exact ⟨fun w' => by simpa using hb w', hcut⟩
      by_cases hf : m = some .full
      · subst hf
        obtain ⟨hc, e⟩ := chk_some (by simpa using e)
        injection e with e; subst e
        obtain ⟨k1, k2, k3⟩ := key hc
        refine ⟨_, run _ _ _ k1, ?_⟩
        simp only [RA]
        have hcn : c = n := hm
        exact ⟨k2, _, _, rfl, by omega, k3, by show c - _ = n - _; omega⟩
      · have e' : chk (0 ≤ l.getD 0 ∧ l.getD 0 ≤ n) (some (AV.d (.sl ie.size (n - (l.getD 0).toNat) (xs.drop ((l.getD 0).toNat * ie.size))))) = some v := by
          rw [← e]
          cases m with
          | none => rfl
          | some m => cases m with
            | full => exact absurd rfl hf
            | own i => rfl
            | sp ys => rfl
        obtain ⟨hc, e⟩ := chk_some e'
        injection e with e; subst e
        obtain ⟨k1, k2, k3⟩ := key hc
        refine ⟨_, run _ _ _ k1, ?_⟩
        simp only [RA, RD]
        exact ⟨k2, _, _, rfl, by omega, k3⟩
    | some h =>
      have plain : chk (0 ≤ l.getD 0 ∧ l.getD 0 ≤ h ∧ h ≤ n) (some (AV.d (.sl ie.size (h.toNat - (l.getD 0).toNat) ((xs.drop ((l.getD 0).toNat * ie.size)).take ((h.toNat - (l.getD 0).toNat) * ie.size))))) = some v → ∃ z, (∀ w', (Instr.sliceAt t (.slice A n c) lo hi mx).run P w' = .ok z w') ∧ RA E r w v z := by
        intro e
        obtain ⟨⟨h0, h1, h2⟩, e⟩ := chk_some e
        injection e with e; subst e
        have hb := fun w' => bounds_run (P := P) (w := w') (isS := true) (len := n) (cap := c) hlo hhi hmx hnc h0 (by simpa using h1) (by simp; omega) (by intro m hm; cases hm)
        have hcut := RM_cut hlen hr (l := (l.getD 0).toNat) (h := h.toNat) (by omega) (by omega) c (by omega)
        refine ⟨_, run _ _ _ hb, ?_⟩
        simp only [RA, RD, Option.getD_some, Option.getD_none, Int.toNat_natCast]
        exact ⟨hcut.1, _, _, rfl, by omega, hcut.2⟩
      cases m with
      | none => exact plain e
      | some m => cases m with
        | full => exact plain e
        | own i =>
          obtain ⟨⟨h0, h1, h2⟩, e⟩ := chk_some e
          injection e with e; subst e
          have hb := fun w' => bounds_run (P := P) (w := w') (isS := true) (len := n) (cap := c) hlo hhi hmx hnc h0 (by simpa using h1) (by simp; omega) (by intro m hm; cases hm)
          have hcut := RM_cut hlen hr (l := (l.getD 0).toNat) (h := h.toNat) (by omega) (by omega) c (by omega)
          refine ⟨_, run _ _ _ hb, ?_⟩
          simp only [RA, Option.getD_some, Option.getD_none, Int.toNat_natCast]
          refine ⟨hcut.1, _, _, rfl, by omega, hcut.2, n - h.toNat, ?_, by omega, ?_⟩
          · rw [List.length_drop, hlen, ← Nat.sub_mul]
          · rcases hr with h3 | ⟨ad, rfl, hrm⟩
            · left; simp [h3]
            · by_cases hcl : c = (l.getD 0).toNat
              · left
                apply List.drop_eq_nil_of_le
                rw [hlen]
                exact Nat.mul_le_mul_right _ (by omega)
              · right
                rw [if_neg hcl]
                refine ⟨ad.add ((l.getD 0).toNat * ie.size), rfl, ?_⟩
                rw [hcut.1, addr_add_add, ← Nat.add_mul, show (l.getD 0).toNat + (h.toNat - (l.getD 0).toNat) = h.toNat by omega]
                exact RM_drop xs ad hrm _
        | sp zs =>
          obtain ⟨⟨h0, h1, h2, hpos⟩, e⟩ := chk_some e
          injection e with e; subst e
          obtain ⟨q, hq, hqc, hz3⟩ := hm
          have hle : h.toNat ≤ n + q := by
            have : (h.toNat - n) * ie.size ≤ q * ie.size := by rw [← hq]; exact h2
            have := Nat.le_of_mul_le_mul_right this hpos
            omega
          have hb := fun w' => bounds_run (P := P) (w := w') (isS := true) (len := n) (cap := c) hlo hhi hmx hnc h0 (by simpa using h1) (by simp; omega) (by intro m hm; cases hm)
          have hlen2 : (xs ++ zs).length = (n + q) * ie.size := by rw [List.length_append, hlen, hq, Nat.add_mul]
          have hr2 : xs ++ zs = [] ∨ ∃ ad, A = some ad ∧ RM E.T w (xs ++ zs) ad := by
            rcases hr with h3 | ⟨ad, rfl, hrm⟩
            · subst h3
              rcases hz3 with h4 | ⟨ad, rfl, h4⟩
              · left; simp [h4]
              · right
                refine ⟨ad, rfl, ?_⟩
                rw [List.length_nil, addr_add_zero] at h4
                simpa using h4
            · right
              refine ⟨ad, rfl, RM_append xs zs ad hrm ?_⟩
              rcases hz3 with h4 | ⟨ad', h5, h4⟩
              · subst h4; simp [RM]
              · injection h5 with h5; subst h5; exact h4
          have hcut := RM_cut hlen2 hr2 (l := (l.getD 0).toNat) (h := h.toNat) (by omega) hle c (by omega)
          refine ⟨_, run _ _ _ hb, ?_⟩
          simp only [RA, RD, Option.getD_some, Option.getD_none, Int.toNat_natCast]
          exact ⟨hcut.1, _, _, rfl, by omega, hcut.2⟩
end Go.Proofs.YteeknmjjpcbphaaDoor
