/- Parts of the proof: CLaw, CAdd, CMake. -/
import Derived.Test.YtdbicadncccpoaaGreatCJ6
set_option linter.unusedVariables false
set_option linter.unusedSimpArgs false
set_option maxRecDepth 100000
namespace Go.Proofs.YtdbicadncccpoaaGreat
open Go Go.ChangeShapes Go.WideShapes
/-! cert: what a maker does, with no program in sight. -/
def posF : List Fct → Fct → Nat
  | [], _ => 0
  | g :: d, f => if ordC g f < 0 then posF d f + 1 else 0
def srtF (d : List Fct) : Prop := d.Pairwise fun a b => ordC a b < 0
theorem posF_le : ∀ (d : List Fct) (f : Fct), posF d f ≤ d.length
  | [], _ => Nat.le_refl _
  | g :: d, f => by
    rw [posF]; split
    · have := posF_le d f; rw [List.length_cons]; omega
    · omega
theorem posF_lt : ∀ (d : List Fct) (f : Fct) (k : Nat) (h : k < d.length), k < posF d f → ordC d[k] f < 0
  | [], _, k, h, _ => by simp at h
  | g :: d, f, k, h, hk => by
    rw [posF] at hk
    split at hk
    · rename_i hg
      cases k with
      | zero => exact hg
      | succ k => exact posF_lt d f k (by simpa using h) (by omega)
    · omega
theorem posF_ge : ∀ (d : List Fct) (f : Fct), srtF d → ∀ (k : Nat) (h : k < d.length), posF d f ≤ k → 0 ≤ ordC d[k] f
  | [], _, _, k, h, _ => by simp at h
  | g :: d, f, hs, k, h, hk => by
    have hs2 := List.pairwise_cons.1 hs
    rw [posF] at hk
    split at hk
    · rename_i hg
      cases k with
      | zero => omega
      | succ k => exact posF_ge d f hs2.2 k (by simpa using h) (by omega)
    · rename_i hg
      cases k with
      | zero => simp only [List.getElem_cons_zero]; omega
      | succ k =>
        have hk2 : k < d.length := by simpa using h
        have h1 := hs2.1 _ (List.getElem_mem hk2)
        simp only [List.getElem_cons_succ]
        rcases Int.lt_or_le (ordC d[k] f) 0 with h2 | h2
        · exact absurd (isOrd.trans _ _ _ h1 h2) hg
        · exact h2
theorem ord_self (f : Fct) : ordC f f = 0 := (isOrd.zero f f).2 rfl
theorem posF_mem {d : List Fct} (hs : srtF d) (f : Fct) : decide (f ∈ d) = decide (∃ h : posF d f < d.length, ordC d[posF d f] f = 0) := by
  rw [Bool.eq_iff_iff, decide_eq_true_eq, decide_eq_true_eq]
  constructor
  · intro hm
    obtain ⟨k, hk, hf⟩ := List.mem_iff_getElem.1 hm
    have h1 : posF d f ≤ k := by
      rcases Nat.lt_or_ge k (posF d f) with h | h
      · have := posF_lt d f k hk h
        rw [hf, ord_self] at this; omega
      · exact h
    have hp : posF d f < d.length := by omega
    refine ⟨hp, ?_⟩
    rcases Nat.lt_or_eq_of_le h1 with h | h
    · have h2 := List.pairwise_iff_getElem.1 hs (posF d f) k hp hk h
      rw [hf] at h2
      have := posF_ge d f hs (posF d f) hp (Nat.le_refl _)
      omega
    · subst h
      have : ordC d[posF d f] f = ordC f f := by
        congr 1
      rw [this, ord_self]
  · rintro ⟨h, h0⟩
    rw [← (isOrd.zero _ _).1 h0]
    exact List.getElem_mem h
def insFc (d : List Fct) (f : Fct) : List Fct := d.take (posF d f) ++ [f] ++ d.drop (posF d f)
theorem insFc_len (d : List Fct) (f : Fct) : (insFc d f).length = d.length + 1 := by
  have := posF_le d f
  simp only [insFc, List.length_append, List.length_take, List.length_drop, List.length_singleton]; omega
theorem insFc_mem {d : List Fct} {f g : Fct} : g ∈ insFc d f ↔ g ∈ d ∨ g = f := by
  have h : g ∈ d ↔ g ∈ d.take (posF d f) ∨ g ∈ d.drop (posF d f) := by rw [← List.mem_append, List.take_append_drop]
  simp only [insFc, List.mem_append, List.mem_singleton]
  rw [h]
  constructor
  · rintro ((h | h) | h)
    · exact .inl (.inl h)
    · exact .inr h
    · exact .inl (.inr h)
  · rintro ((h | h) | h)
    · exact .inl (.inl h)
    · exact .inr h
    · exact .inl (.inr h)
theorem insFc_srt {d : List Fct} (hs : srtF d) {f : Fct} (hf : f ∉ d) : srtF (insFc d f) := by
  have hlt : ∀ g ∈ d.take (posF d f), ordC g f < 0 := by
    intro g hg
    obtain ⟨k, hk, rfl⟩ := List.mem_iff_getElem.1 hg
    rw [List.getElem_take]
    rw [List.length_take] at hk
    exact posF_lt d f k (by omega) (by omega)
  have hgt : ∀ g ∈ d.drop (posF d f), ordC f g < 0 := by
    intro g hg
    have hgd : g ∈ d := List.mem_of_mem_drop hg
    obtain ⟨k, hk, rfl⟩ := List.mem_iff_getElem.1 hg
    rw [List.length_drop] at hk
    have h0 := posF_ge d f hs (posF d f + k) (by omega) (by omega)
    rw [List.getElem_drop] at hgd ⊢
    have hne : ordC d[posF d f + k] f ≠ 0 := fun h => hf ((isOrd.zero _ _).1 h ▸ hgd)
    rw [isOrd.anti]; omega
  have h1 : srtF (d.take (posF d f)) := List.Pairwise.sublist (List.take_sublist _ _) hs
  have h2 : srtF (d.drop (posF d f)) := List.Pairwise.sublist (List.drop_sublist _ _) hs
  refine List.pairwise_append.2 ⟨List.pairwise_append.2 ⟨h1, List.pairwise_singleton _ _, fun a ha b hb => ?_⟩, h2, fun a ha b hb => ?_⟩
  · rw [List.mem_singleton] at hb; subst hb; exact hlt a ha
  · rcases List.mem_append.1 ha with h | h
    · exact isOrd.trans _ _ _ (hlt a h) (hgt b hb)
    · rw [List.mem_singleton] at h; subst h; exact hgt b hb
theorem srtF_nodup {d : List Fct} (h : srtF d) : d.Nodup := h.imp fun {a b} hab he => by subst he; rw [ord_self] at hab; omega
theorem sub_len {α : Type} [DecidableEq α] : ∀ (d l : List α), d.Nodup → (∀ x ∈ d, x ∈ l) → d.length ≤ l.length
  | [], _, _, _ => by simp
  | a :: d, l, hn, hs => by
    have hn2 := List.nodup_cons.1 hn
    have ha : a ∈ l := hs a (by simp)
    have h1 := sub_len d (l.erase a) hn2.2 fun x hx => (List.mem_erase_of_ne (fun he : x = a => hn2.1 (he ▸ hx))).2 (hs x (by simp [hx]))
    have h2 := List.length_erase_of_mem ha
    have h3 := List.length_pos_of_mem ha
    rw [List.length_cons]; omega
def facts (S : List Srce) : List Fct := S.flatMap fun s => match s.t with
  | none => []
  | some (L, _) => L.map (·.f)
theorem hasT_mem {L : List Ntr} {f : Fct} : hasT L f = true ↔ f ∈ L.map (·.f) := by
  rw [hasT_iff, List.mem_map]
  constructor
  · rintro ⟨k, h, rfl⟩; exact ⟨_, List.getElem_mem h, rfl⟩
  · rintro ⟨x, hx, rfl⟩
    obtain ⟨k, hk, rfl⟩ := List.mem_iff_getElem.1 hx
    exact ⟨k, hk, rfl⟩
theorem srcT_mem (who : ByteArray) : ∀ (S : List Srce) (q : List Ntr × List Nat), srcT who S = some q → ∃ s ∈ S, s.t = some q
  | [], _, h => by simp [srcT] at h
  | s :: S, q, h => by
    rw [srcT] at h
    split at h
    · exact ⟨s, by simp, h⟩
    · obtain ⟨s', h1, h2⟩ := srcT_mem who S q h
      exact ⟨s', by simp [h1], h2⟩
theorem hasP_facts {S : List Srce} {who : ByteArray} {f : Fct} (h : hasP (srcT who S) f = true) : f ∈ facts S := by
  cases hq : srcT who S with
  | none => rw [hq] at h; cases h
  | some q =>
    obtain ⟨L, O⟩ := q
    rw [hq] at h
    obtain ⟨s, hs, ht⟩ := srcT_mem who S _ hq
    refine List.mem_flatMap.2 ⟨s, hs, ?_⟩
    rw [ht]
    exact hasT_mem.1 h
theorem okS_facts {S : List Srce} (hS : okS S) {f : Fct} (h : f ∈ facts S) : f.l.length ≤ 1000000 := by
  obtain ⟨s, hs, hf⟩ := List.mem_flatMap.1 h
  have hp := hS.2 s hs
  cases ht : s.t with
  | none => rw [ht] at hf; simp at hf
  | some q =>
    obtain ⟨L, O⟩ := q
    rw [ht] at hf hp
    obtain ⟨x, hx, rfl⟩ := List.mem_map.1 hf
    exact (hp.1.2 x hx).2.1
theorem reason_ok {S : List Srce} (hS : okS S) (who : ByteArray) (f : Fct) : okE (reasonP S who f).1 ∧ ((reasonP S who f).2.2 = true → f ∈ facts S) := by
  have h1 := okE_getP (okS_src hS who) f
  have h2 := okE_getP (okS_src hS f.b) f
  rw [reasonP]
  split
  · exact ⟨h1, fun h => by cases h⟩
  · rename_i hq
    have hq2 : hasP (srcT who S) f = true := by simpa using hq
    split
    · exact ⟨h2, fun _ => hasP_facts hq2⟩
    · exact ⟨h1, fun _ => hasP_facts hq2⟩
structure DInv (S : List Srce) (d : List Fct) : Prop where
  srt : srtF d
  sub : ∀ g ∈ d, g ∈ facts S
theorem DInv.len {S : List Srce} {d : List Fct} (h : DInv S d) : d.length ≤ (facts S).length := sub_len d _ (srtF_nodup h.srt) h.sub
def bodyP (x : Ntr) : List Fct := if x.why = 2 then x.body else []
def addP (S : List Srce) : Nat → ByteArray → Fct → List Ntr × List Fct → Option (List Ntr × List Fct)
  | 0, _, _, _ => none
  | n + 1, who, f, s => if f ∈ s.2 then some s else if (reasonP S who f).2.2 = false then none else
    ((bodyP (reasonP S who f).1).foldlM (fun s g => addP S n (reasonP S who f).2.1 g s) (s.1, insFc s.2 f)).map fun s => (s.1 ++ [(reasonP S who f).1], s.2)
/-- What a step of the maker keeps. -/
structure Grow (S : List Srce) (s s' : List Ntr × List Fct) : Prop where
  inv : DInv S s'.2
  ok : ∀ x ∈ s'.1, okE x
  le : s.2.length ≤ s'.2.length
  out : s'.1.length + s.2.length ≤ s.1.length + s'.2.length
theorem Grow.refl {S : List Srce} {s : List Ntr × List Fct} (h : DInv S s.2) (k : ∀ x ∈ s.1, okE x) : Grow S s s := ⟨h, k, Nat.le_refl _, Nat.le_refl _⟩
theorem Grow.trans {S : List Srce} {a b c : List Ntr × List Fct} (h : Grow S a b) (k : Grow S b c) : Grow S a c := ⟨k.inv, k.ok, Nat.le_trans h.le k.le, by have := h.out; have := k.out; omega⟩
theorem fold_grow {S : List Srce} {g : List Ntr × List Fct → Fct → Option (List Ntr × List Fct)} (hg : ∀ s f s', DInv S s.2 → (∀ x ∈ s.1, okE x) → g s f = some s' → Grow S s s') :
    ∀ (l : List Fct) (s s' : List Ntr × List Fct), DInv S s.2 → (∀ x ∈ s.1, okE x) → l.foldlM g s = some s' → Grow S s s'
  | [], s, s', h, k, e => by
    simp only [List.foldlM_nil] at e
    injection e with e; subst e; exact .refl h k
  | f :: l, s, s', h, k, e => by
    simp only [List.foldlM_cons] at e
    cases h1 : g s f with
    | none => rw [h1] at e; cases e
    | some s1 =>
      rw [h1] at e
      have g1 := hg s f s1 h k h1
      exact g1.trans (fold_grow hg l s1 s' g1.inv g1.ok e)
theorem DInv.ins {S : List Srce} {d : List Fct} (h : DInv S d) {f : Fct} (hf : f ∉ d) (hm : f ∈ facts S) : DInv S (insFc d f) :=
  ⟨insFc_srt h.srt hf, fun g hg => by rcases insFc_mem.1 hg with h1 | rfl; exact h.sub g h1; exact hm⟩
theorem addP_grow {S : List Srce} (hS : okS S) : ∀ (n : Nat) (who : ByteArray) (f : Fct) (s s' : List Ntr × List Fct), DInv S s.2 → (∀ x ∈ s.1, okE x) → addP S n who f s = some s' → Grow S s s'
  | 0, _, _, _, _, _, _, e => by simp [addP] at e
  | n + 1, who, f, s, s', h, k, e => by
    rw [addP] at e
    split at e
    · injection e with e; subst e; exact .refl h k
    · rename_i hf
      split at e
      · cases e
      · rename_i hq
        have hr := reason_ok hS who f
        have hm := hr.2 (by simpa using hq)
        obtain ⟨t, ht, rfl⟩ := Option.map_eq_some_iff.1 e
        have h1 := fold_grow (S := S) (g := fun s g => addP S n (reasonP S who f).2.1 g s) (fun s f s' a b c => addP_grow hS n _ f s s' a b c) _ (s.1, insFc s.2 f) t (h.ins hf hm) k ht
        have hl := insFc_len s.2 f
        refine ⟨h1.inv, fun x hx => ?_, ?_, ?_⟩
        · rcases List.mem_append.1 hx with hx | hx
          · exact h1.ok x hx
          · rw [List.mem_singleton] at hx; subst hx; exact hr.1
        · have := h1.le; simp only at *; omega
        · have := h1.out; simp only [List.length_append, List.length_singleton] at *; omega
theorem fold_some {g : List Ntr × List Fct → Fct → Option (List Ntr × List Fct)} {l : List Fct} {s t : List Ntr × List Fct} {i : Nat} (hi : i < l.length) (h : (l.take i).foldlM g s = some t) : (l.take (i + 1)).foldlM g s = g t l[i] := by
  rw [List.take_succ_eq_append_getElem hi, List.foldlM_append, h]
  show (List.foldlM g t [l[i]]) = g t l[i]
  rw [List.foldlM_cons]
  cases g t l[i] <;> rfl
theorem fold_none {g : List Ntr × List Fct → Fct → Option (List Ntr × List Fct)} {l : List Fct} {s t : List Ntr × List Fct} {i : Nat} (hi : i < l.length) (h : (l.take i).foldlM g s = some t) (hn : g t l[i] = none) : l.foldlM g s = none := by
  conv => lhs; rw [← List.take_append_drop (i + 1) l]
  rw [List.foldlM_append, fold_some hi h, hn]; rfl
end Go.Proofs.YtdbicadncccpoaaGreat

set_option linter.unusedVariables false
set_option linter.unusedSimpArgs false
set_option maxRecDepth 100000
namespace Go.Proofs.YtdbicadncccpoaaGreat
open Go Go.ChangeShapes Go.WideShapes
/-! cert: the maker's add. -/
def R2 (S : List Srce) (o : List Ntr) (d : List Fct) (k : Nat) (zs : List D) : Rs := [some (.obj [.d (.sl 2 S.length (flatE srcE S)), .sl (.own 4) 39 o.length (flE o), .csl 3 0 4 d.length (d.length + k)]), none, none, some (.obj ((flatE fctE d ++ zs).map .d)), some (.tok (flE o).length)]
def addO (S : List Srce) : Option (List Ntr × List Fct) → AV → Rs → Prop
  | none, v, r' => v = .d (.c (.bool false)) ∧ r' = [none, none, none]
  | some s, v, r' => ∃ (k : Nat) (zs : List D), zs.length = k * 4 ∧ v = .d (.c (.bool true)) ∧ r' = R2 S s.1 s.2 k zs
def AddOK (S : List Srce) (n : Nat) : Prop := ∀ (who : ByteArray) (f : Fct) (o : List Ntr) (d : List Fct) (k : Nat) (zs : List D), f.l.length ≤ 140737488352000 → DInv S d → d ≠ [] → (∀ x ∈ o, okE x) → o.length ≤ d.length → (facts S).length < n + d.length → zs.length = k * 4 →
  AC Tryz.prog noG 38 [.ptr 0 0, .d (.c (.string who)), .d (.agg (fctE f))] (R1 S o.length (flE o) (flE o).length d.length (d.length + k) (flatE fctE d ++ zs)) (addO S (addP S n who f (o, d)))
theorem bw_csl {rc : Rs} {i c : Nat} {d : List Fct} {zs : List D} (ho : objOf rc i = some ((flatE fctE d ++ zs).map .d)) (hn : d ≠ []) : BwA rc (.csl i 0 4 d.length c) (.d (.sl 4 d.length (flatE fctE d))) := by
  have h := BwA.csl (i := i) (off := 0) (sz := 4) (c := c) ho (allD_map _) (List.length_pos_iff.2 hn)
  have hl := flatE_len fctE_len d
  rw [List.drop_zero, show d.length * 4 = (flatE fctE d).length by omega, List.take_left] at h
  exact h
theorem insF_1 (n i k : Nat) (A B zs x : List D) (hA : A.length = i * 4) (hB : B.length = (n - i) * 4) (hz : zs.length = k * 4) (hx : x.length = 4) (h0 : 0 < n) (hi : i ≤ n) (h : n ≤ 1000000) :
    AC Tryz.prog noG 63 [.csl 0 0 4 n (n + k), .d (.c (.int .i64 i)), .osl 1 0 4 1] [some (.obj ((A ++ B ++ zs).map .d)), some (.obj (x.map .d))]
      (fun v r' => ∃ (k : Nat) (zs : List D), zs.length = k * 4 ∧ v = .csl 2 0 4 (n + 1) (n + 1 + k) ∧ r' = [none, none, some (.obj ((A ++ x ++ B ++ zs).map .d))]) := by
  have hl : (A ++ x ++ B).length = (n + 1) * 4 := by simp only [List.length_append]; omega
  refine AC.fit ((insF_ac n i k A B zs x hA hB hz hx h0 hi h).mono fun v r' h => ?_)
  rcases h with ⟨c, ws, h1, h2, rfl, rfl⟩ | ⟨c, ws, h1, h2, rfl, rfl⟩
  · obtain ⟨k2, rfl⟩ : ∃ k2, c = n + 1 + k2 := ⟨c - (n + 1), by omega⟩
    refine ⟨_, _, [0,0,0], [], ⟨k2, ws, by omega, rfl, rfl⟩, ⟨?_, (by first | (simp only [wfSt, wfRs, wfL, wfA, wfM, wfL_append, wfL_map_d, Bool.and_true, Bool.and_self, decide_true, Nat.reduceLT, Nat.reduceAdd, List.length_cons, List.length_nil, Nat.zero_add]; done) | rfl), ?_, (by first | (simp only [wfSt, wfRs, wfL, wfA, wfM, wfL_append, wfL_map_d, Bool.and_true, Bool.and_self, decide_true, Nat.reduceLT, Nat.reduceAdd, List.length_cons, List.length_nil, Nat.zero_add]; done) | rfl), rfl, rfl⟩⟩ <;> exact fitT
  · obtain ⟨k2, rfl⟩ : ∃ k2, c = n + 1 + k2 := ⟨c - (n + 1), by omega⟩
    refine ⟨_, _, [0,1,2], [], ⟨k2, ws, by omega, rfl, rfl⟩, ⟨?_, (by first | (simp only [wfSt, wfRs, wfL, wfA, wfM, wfL_append, wfL_map_d, Bool.and_true, Bool.and_self, decide_true, Nat.reduceLT, Nat.reduceAdd, List.length_cons, List.length_nil, Nat.zero_add]; done) | rfl), ?_, (by first | (simp only [wfSt, wfRs, wfL, wfA, wfM, wfL_append, wfL_map_d, Bool.and_true, Bool.and_self, decide_true, Nat.reduceLT, Nat.reduceAdd, List.length_cons, List.length_nil, Nat.zero_add]; done) | rfl), rfl, rfl⟩⟩ <;> exact fitT
set_option maxHeartbeats 400000 in
theorem insF_0c (x : List D) (hx : x.length = 4) : AC Tryz.prog noG 63 [.sl .full 4 0 [], .d (.c (.int .i64 0)), .osl 0 0 4 1] [some (.obj (x.map .d))] (fun v r' => ∃ (k : Nat) (zs : List D), zs.length = k * 4 ∧ v = .csl 1 0 4 1 (1 + k) ∧ r' = [none, some (.obj ((x ++ zs).map .d))]) := by
  refine AC.fit ?_
  refine AC_of_R (N := 95) (res := [.tmp 6]) tyL_ok Tryz.call63 Tryz.func63 rfl rfl rfl (Nat.le_of_ble_eq_true rfl) ?_
  refine rn0 ?_
  (repeat (refine And.intro (by omega) ?_))
  refine HO_appE tyL_ok (e := 38) (sz := 4) (m := 1) (ys := x) (zl := zFc.map .d) rfl (by simp only [ST]) (by simp only [ST]; rfl) ⟨by simp only [ST], by simp only [ST]⟩ rfl (src_x0 hx (by decide)) (by simp only [ST]; rfl) (by decide) (by decide) (by omega) (by simp only [ST]; omega) (by kernel_rfl) fun k => ?_
  refine rn0 ?_
  simp only [repA_map, ← List.map_append]
  refine ⟨_, _, [0,1], [], ⟨k, repD zFc k, by rw [repD_len]; rfl, rfl, rfl⟩, ⟨?_, (by first | (simp only [wfSt, wfRs, wfL, wfA, wfM, wfL_append, wfL_map_d, Bool.and_true, Bool.and_self, decide_true, Nat.reduceLT, Nat.reduceAdd, List.length_cons, List.length_nil, Nat.zero_add]; done) | rfl), ?_, (by first | (simp only [wfSt, wfRs, wfL, wfA, wfM, wfL_append, wfL_map_d, Bool.and_true, Bool.and_self, decide_true, Nat.reduceLT, Nat.reduceAdd, List.length_cons, List.length_nil, Nat.zero_add]; done) | rfl), rfl, rfl⟩⟩ <;> exact fitT
def adSt (a : ByteArray) (b : List Fct) (i : Nat) : List (Nat × AV) := [(0, .ptr 0 0), (9, .ptr 4 0), (10, .d (.c (.string a))), (49, .d (.sl 4 b.length (flatE fctE b))), (50, .d (.c (.int .i64 b.length))), (51, .d (.c (.int .i64 i)))]
def adRe (S : List Srce) (o : List Ntr) (d : List Fct) (k : Nat) (zs : List D) (f : Fct) (x : Ntr) : Rs := [some (.obj [.d (.sl 2 S.length (flatE srcE S)), .sl (.own 8) 39 o.length (flE o), .csl 7 0 4 d.length (d.length + k)]), none, none, fB f, xB x, none, none, some (.obj ((flatE fctE d ++ zs).map .d)), some (.tok (flE o).length)]
theorem ca_csl {o off sz q c : Nat} : cellsAV (.csl o off sz q c) = some [.csl o off sz q c] := rfl
theorem lv_csl {r : Rs} {o off sz q c : Nat} : liveAV r (.csl o off sz q c) = true := rfl
theorem toD_csl {o off sz q c : Nat} : toD (.csl o off sz q c) = none := rfl
theorem flE_snoc (o : List Ntr) (x : Ntr) : flE (o ++ [x]) = flE o ++ entE x := by simp [flE, flatE]
theorem ins_flat (d : List Fct) (f : Fct) : flatE fctE ((insFc d f)) = flatE fctE (d.take (posF d f)) ++ fctE f ++ flatE fctE (d.drop (posF d f)) := by
  rw [insFc, flatE_app, flatE_app]; simp [flatE]
set_option maxHeartbeats 800000 in
theorem add_step (S : List Srce) (hS : okS S) (hF : (facts S).length ≤ 100000) (n : Nat) (ih : AddOK S n) : AddOK S (n + 1) := by
  intro who f o d k zs hf hI hne ho hod hfu hzl
  refine AC.fit ?_
  refine AC_of_R (N := 71) (res := [.tmp 6]) tyL_ok Tryz.call38 Tryz.func38 rfl rfl rfl (Nat.le_of_ble_eq_true rfl) ?_
  have hz : ([UInt8.ofNat 0, UInt8.ofNat 0, UInt8.ofNat 0, UInt8.ofNat 0, UInt8.ofNat 0, UInt8.ofNat 0, UInt8.ofNat 0, UInt8.ofNat 0, UInt8.ofNat 0, UInt8.ofNat 0, UInt8.ofNat 0, UInt8.ofNat 0, UInt8.ofNat 0, UInt8.ofNat 0, UInt8.ofNat 0, UInt8.ofNat 0, UInt8.ofNat 0, UInt8.ofNat 0, UInt8.ofNat 0, UInt8.ofNat 0, UInt8.ofNat 0, UInt8.ofNat 0, UInt8.ofNat 0, UInt8.ofNat 0, UInt8.ofNat 0, UInt8.ofNat 0, UInt8.ofNat 0, UInt8.ofNat 0, UInt8.ofNat 0, UInt8.ofNat 0, UInt8.ofNat 0, UInt8.ofNat 0] : List UInt8) = tgz := rfl
  obtain ⟨z1, z2, z3, z4, z5, z6⟩ := tg32 tgz rfl
  have z7 : (tA tgz).drop 32 = [] := List.drop_of_length_le (by omega)
  have hdl := hI.len
  have kb := bsF_ac d f (posF d f) (by omega) (fun g hg => Nat.le_trans (okS_facts hS (hI.sub g hg)) (by decide)) hf (posF_le d f) (posF_lt d f) (posF_ge d f hI.srt) (decide (f ∈ d)) (posF_mem hI.srt f)
  have kr := reason1_ac S hS who f hf o.length (flE o) (flE o).length d.length (d.length + k) (flatE fctE d ++ zs)
  have hro := reason_ok hS who f
  have hP : addP S (n + 1) who f (o, d) = if f ∈ d then some (o, d) else if (reasonP S who f).2.2 = false then none else ((bodyP (reasonP S who f).1).foldlM (fun s g => addP S n (reasonP S who f).2.1 g s) (o, insFc d f)).map fun s => (s.1 ++ [(reasonP S who f).1], s.2) := rfl
  generalize addP S (n + 1) who f (o, d) = R at *
  generalize reasonP S who f = Z at *
  obtain ⟨x, a, q⟩ := Z
  simp only at kr hro hP
  obtain ⟨hx, hin⟩ := hro
  obtain ⟨t1, t2, t3, t4, t5, t6⟩ := tg32 x.tg hx.1
  simp only [entE, fctE, List.cons_append, List.nil_append] at kb kr
  refine rn1 (jn @R1.eq_1 @fctE.eq_1) ?_
  refine HC_plan [] tyL_ok mix (by kernel_rfl) ?_
  refine rn0 ?_
  by_cases hm : f ∈ d
  · rw [decide_eq_true hm] at kb
    rw [if_pos hm] at hP
    subst hP
    refine HO_lend tyL_ok kb (rfl) rfl rfl rfl (by kernel_rfl) ⟨bw_csl rfl hne, BwA.val (.refl _) rfl, BwA.val (.refl _) rfl, trivial⟩ ?_
    refine rn0 ?_
    simp only [addO, R2]
    refine ⟨_, _, [0,0,0,1,2], [], ⟨k, zs, hzl, rfl, rfl⟩, ⟨?_, (by first | (simp only [wfSt, wfRs, wfL, wfA, wfM, wfL_append, wfL_map_d, Bool.and_true, Bool.and_self, decide_true, Nat.reduceLT, Nat.reduceAdd, List.length_cons, List.length_nil, Nat.zero_add]; done) | rfl), ?_, (by first | (simp only [wfSt, wfRs, wfL, wfA, wfM, wfL_append, wfL_map_d, Bool.and_true, Bool.and_self, decide_true, Nat.reduceLT, Nat.reduceAdd, List.length_cons, List.length_nil, Nat.zero_add]; done) | rfl), rfl, rfl⟩⟩ <;> exact fitT
  · rw [decide_eq_false hm] at kb
    rw [if_neg hm] at hP
    refine HO_lend tyL_ok kb (rfl) rfl rfl rfl (by kernel_rfl) ⟨bw_csl rfl hne, BwA.val (.refl _) rfl, BwA.val (.refl _) rfl, trivial⟩ ?_
    refine rn0 ?_
    refine HO_callX tyL_ok [0, 1, 2] kr (R1_hand _ _ _ _ _ _ _ _ _ _ _ rfl rfl rfl) (R1_wf _ _ _ _ _ _ _) ?_
    rintro v r' ⟨rfl, rfl⟩ _
    cases q with
    | false =>
      rw [if_pos rfl] at hP
      subst hP
      refine rn1 (jn @R1.eq_1 (jn @renL_map_d (jn @hz (jn @z1 (jn @z2 (jn @z3 (jn @z4 (jn @z5 (jn @z6 (jn @z7 (jn @t1 (jn @t2 (jn @t3 (jn @t4 (jn @t5 (jn @t6 @tA_allD)))))))))))))))) ?_
      simp only [addO]
      exact fv0 [0,0,0] []
    | true =>
      rw [if_neg (by decide)] at hP
      have hI2 := hI.ins hm (hin rfl)
      have hlen := insFc_len d f
      have hif := ins_flat d f
      have hp := posF_le d f
      have ki := insF_1 d.length (posF d f) k (flatE fctE (d.take (posF d f))) (flatE fctE (d.drop (posF d f))) zs (fctE f) (by rw [flatE_len fctE_len, List.length_take]; omega) (by rw [flatE_len fctE_len, List.length_drop]; omega) hzl rfl (List.length_pos_iff.2 hne) hp (by omega)
      rw [← hif, ← flatE_app, List.take_append_drop, ← hlen] at ki
      generalize insFc d f = d1 at *
      refine rn1 (jn @R1.eq_1 (jn @renL_map_d (jn @hz (jn @z1 (jn @z2 (jn @z3 (jn @z4 (jn @z5 (jn @z6 (jn @z7 (jn @t1 (jn @t2 (jn @t3 (jn @t4 (jn @t5 (jn @t6 @tA_allD)))))))))))))))) ?_
      refine HC_plan [] tyL_ok mix (by kernel_rfl) ?_
      refine rn1 (jn @ca_csl (jn @lv_csl (jn @toD_csl (jn @renL_map_d (jn @t1 (jn @t2 (jn @t3 (jn @t4 (jn @t5 (jn @t6 @tA_allD)))))))))) ?_
      refine HO_callX tyL_ok [1, 5] ki (ob2_hand _ _ _ _ _ rfl rfl) (ob2_wf _ _) ?_
      rintro v r' ⟨k1, zs1, hzz, rfl, rfl⟩ _
      by_cases hw : x.why = 2
      · have hb : bodyP x = x.body := by rw [bodyP, if_pos hw]
        rw [hb] at hP
        refine rn1 (jn @ca_csl (jn @lv_csl (jn @toD_csl (jn @hw (jn @renL_map_d (jn @t1 (jn @t2 (jn @t3 (jn @t4 (jn @t5 (jn @t6 @tA_allD))))))))))) ?_
        refine HC_loopR (fun z : Nat × (List Ntr × List Fct) × Nat × List D => adSt a x.body z.1) (fun z => adRe S z.2.1.1 z.2.1.2 z.2.2.1 z.2.2.2 f x) (fun z => z.1 ≤ x.body.length ∧ (x.body.take z.1).foldlM (fun s g => addP S n a g s) (o, d1) = some z.2.1 ∧ z.2.2.2.length = z.2.2.1 * 4) (fun z => x.body.length - z.1) (0, (o, d1), k1, zs1) [0, 0, 0, 3, 4, 0, 0, 6, 2] [] ⟨by simp only; omega, rfl, hzz⟩ ?_ ?_
        · exact ft1 (jn @hw (jn @adSt.eq_1 (jn @adRe.eq_1 (jn @fB.eq_1 (jn @xB.eq_1 (jn @enC.eq_1 (jn @tA_wf @wfL_map_d)))))))
        rintro ⟨i, ⟨o1, d2⟩, k2, zs2⟩ ⟨hi1, hi2, hzz2⟩
        simp only at hi1 hi2 hzz2
        refine HC_of_R tyL_ok ?_
        have gr := fold_grow (S := S) (g := fun s g => addP S n a g s) (fun s f s' a1 b1 c1 => addP_grow hS n _ f s s' a1 b1 c1) _ _ _ hI2 ho hi2
        have gr1 := gr.inv
        have gr2 := gr.ok
        have gr3 := gr.le
        have gr4 := gr.out
        simp only at gr1 gr2 gr3 gr4
        have gr5 := gr1.len
        by_cases hlt : i < x.body.length
        · have hi : (i : Int) < x.body.length := by omega
          have hd := flatE_drop fctE_len x.body i hlt
          have hle := flatE_len fctE_len x.body
          have hbl : x.body.length ≤ 1000000 := hx.2.2.1
          have hgb := hx.2.2.2 x.body[i] (List.getElem_mem hlt)
          have hs1 := fold_some hlt hi2
          have hs2 := fold_none hlt hi2
          have kA := ih a x.body[i] o1 d2 k2 zs2 (Nat.le_trans hgb (by decide)) gr1 (fun h => by rw [h] at gr3; simp only [List.length_nil] at gr3; omega) gr2 (by omega) (by omega) hzz2
          generalize x.body[i] = g at *
          simp only [fctE, List.cons_append, List.nil_append] at hd kA
          refine rn1 (jn @adSt.eq_1 (jn @adRe.eq_1 (jn @hi (jn @hd (jn @hle @renL_map_d))))) ?_
          (repeat (refine And.intro (by omega) ?_))
          cases hA : addP S n a g (o1, d2) with
          | none =>
            rw [hs2 hA] at hP
            subst hP
            rw [hA] at kA
            refine HO_callX tyL_ok [0, 7, 8] kA (R1_hand _ _ _ _ _ _ _ _ _ _ _ rfl rfl rfl) (R1_wf _ _ _ _ _ _ _) ?_
            rintro v r' ⟨rfl, rfl⟩ _
            refine rn0 ?_
            simp only [addO, Option.map_none]
            exact fv0 [0,0,0] []
          | some s =>
            obtain ⟨o2, d3⟩ := s
            rw [hA] at kA
            simp only [hA] at hs1
            refine HO_callX tyL_ok [0, 7, 8] kA (R1_hand _ _ _ _ _ _ _ _ _ _ _ rfl rfl rfl) (R1_wf _ _ _ _ _ _ _) ?_
            rintro v r' ⟨k3, zs3, hzz3, rfl, rfl⟩ _
            refine rn1 (jn @R2.eq_1 @renL_map_d) ?_
            (repeat (refine And.intro (by omega) ?_))
            refine ⟨(i + 1, (o2, d3), k3, zs3), ⟨by simp only; omega, hs1, hzz3⟩, by simp only; omega, [0, 0, 0, 3, 4, 0, 0, 10, 11], [], ?_⟩
            exact ft1 (jn @adSt.eq_1 (jn @adRe.eq_1 (jn @fB.eq_1 (jn @xB.eq_1 (jn @enC.eq_1 (jn @tA_wf @wfL_map_d))))))
        · have hi : ¬ (i : Int) < x.body.length := by omega
          rw [List.take_of_length_le (by omega)] at hi2
          rw [hi2] at hP
          subst hP
          have hzz := hzz2
          simp only [Option.map_some]
          refine rn1 (jn @adSt.eq_1 (jn @adRe.eq_1 (jn @fB.eq_1 (jn @xB.eq_1 (jn @enC.eq_1 (jn @hi (jn @renL_map_d (jn @t1 (jn @t2 (jn @t3 (jn @t4 (jn @t5 (jn @t6 @tA_allD))))))))))))) ?_
          refine HC_plan [] tyL_ok mix (by kernel_rfl) ?_
          refine rn1 (jn @ca_csl (jn @lv_csl (jn @toD_csl (jn @t1 (jn @t2 (jn @t3 (jn @t4 (jn @t5 (jn @t6 @tA_allD))))))))) ?_
          refine HO_appB tyL_ok rfl (by kernel_rfl) rfl ?_
          refine rn1 (jn @ca_csl (jn @lv_csl (jn @toD_csl (jn @t1 (jn @t2 (jn @t3 (jn @t4 (jn @t5 (jn @t6 @tA_allD))))))))) ?_
          (repeat (refine And.intro (by omega) ?_))
          have h39 : (flE (o1 ++ [x])).length = (flE o1).length + 39 := by rw [flE_snoc, List.length_append, entE_len hx.1]
          simp only [addO, R2, h39, List.length_append, List.length_singleton]
          simp only [flE_snoc, entE, fctE, List.cons_append, List.nil_append]
          refine ⟨_, _, [0,0,0,7,8], [], ⟨_, _, hzz, rfl, rfl⟩, ⟨?_, (by first | (simp only [wfSt, wfRs, wfL, wfA, wfM, wfL_append, wfL_map_d, Bool.and_true, Bool.and_self, decide_true, Nat.reduceLT, Nat.reduceAdd, List.length_cons, List.length_nil, Nat.zero_add]; done) | rfl), ?_, (by first | (simp only [wfSt, wfRs, wfL, wfA, wfM, wfL_append, wfL_map_d, Bool.and_true, Bool.and_self, decide_true, Nat.reduceLT, Nat.reduceAdd, List.length_cons, List.length_nil, Nat.zero_add]; done) | rfl), rfl, rfl⟩⟩ <;> exact fitT
      · have hb : bodyP x = [] := by rw [bodyP, if_neg hw]
        rw [hb] at hP
        have hP2 : R = some (o ++ [x], d1) := hP
        subst hP2
        refine rn1 (jn @ca_csl (jn @lv_csl (jn @toD_csl (jn @hw (jn @renL_map_d (jn @t1 (jn @t2 (jn @t3 (jn @t4 (jn @t5 (jn @t6 @tA_allD))))))))))) ?_
        refine HC_plan [] tyL_ok mix (by kernel_rfl) ?_
        refine rn1 (jn @ca_csl (jn @lv_csl (jn @toD_csl (jn @t1 (jn @t2 (jn @t3 (jn @t4 (jn @t5 (jn @t6 @tA_allD))))))))) ?_
        refine HO_appB tyL_ok rfl (by kernel_rfl) rfl ?_
        refine rn1 (jn @ca_csl (jn @lv_csl (jn @toD_csl (jn @t1 (jn @t2 (jn @t3 (jn @t4 (jn @t5 (jn @t6 @tA_allD))))))))) ?_
        (repeat (refine And.intro (by omega) ?_))
        have h39 : (flE (o ++ [x])).length = (flE o).length + 39 := by rw [flE_snoc, List.length_append, entE_len hx.1]
        simp only [addO, R2, h39, List.length_append, List.length_singleton]
        simp only [flE_snoc, entE, fctE, List.cons_append, List.nil_append]
        refine ⟨_, _, [0,0,0,6,2], [], ⟨_, _, hzz, rfl, rfl⟩, ⟨?_, (by first | (simp only [wfSt, wfRs, wfL, wfA, wfM, wfL_append, wfL_map_d, Bool.and_true, Bool.and_self, decide_true, Nat.reduceLT, Nat.reduceAdd, List.length_cons, List.length_nil, Nat.zero_add]; done) | rfl), ?_, (by first | (simp only [wfSt, wfRs, wfL, wfA, wfM, wfL_append, wfL_map_d, Bool.and_true, Bool.and_self, decide_true, Nat.reduceLT, Nat.reduceAdd, List.length_cons, List.length_nil, Nat.zero_add]; done) | rfl), rfl, rfl⟩⟩ <;> exact fitT
set_option maxHeartbeats 800000 in
theorem add_first (S : List Srce) (hS : okS S) (hF : (facts S).length ≤ 100000) (n : Nat) (ih : AddOK S n) (who : ByteArray) (f : Fct) (o : List Ntr) (d : List Fct) (hd0 : d = []) (hf : f.l.length ≤ 140737488352000) (ho : ∀ x ∈ o, okE x) (hod : o.length ≤ d.length) (hfu : (facts S).length < n + 1 + d.length) :
    AC Tryz.prog noG 38 [.ptr 0 0, .d (.c (.string who)), .d (.agg (fctE f))] (R0 S o.length (flE o) (flE o).length) (addO S (addP S (n + 1) who f (o, d))) := by
  have hI : DInv S d := by subst hd0; exact ⟨.nil, by simp⟩
  refine AC.fit ?_
  refine AC_of_R (N := 71) (res := [.tmp 6]) tyL_ok Tryz.call38 Tryz.func38 rfl rfl rfl (Nat.le_of_ble_eq_true rfl) ?_
  have hz : ([UInt8.ofNat 0, UInt8.ofNat 0, UInt8.ofNat 0, UInt8.ofNat 0, UInt8.ofNat 0, UInt8.ofNat 0, UInt8.ofNat 0, UInt8.ofNat 0, UInt8.ofNat 0, UInt8.ofNat 0, UInt8.ofNat 0, UInt8.ofNat 0, UInt8.ofNat 0, UInt8.ofNat 0, UInt8.ofNat 0, UInt8.ofNat 0, UInt8.ofNat 0, UInt8.ofNat 0, UInt8.ofNat 0, UInt8.ofNat 0, UInt8.ofNat 0, UInt8.ofNat 0, UInt8.ofNat 0, UInt8.ofNat 0, UInt8.ofNat 0, UInt8.ofNat 0, UInt8.ofNat 0, UInt8.ofNat 0, UInt8.ofNat 0, UInt8.ofNat 0, UInt8.ofNat 0, UInt8.ofNat 0] : List UInt8) = tgz := rfl
  obtain ⟨z1, z2, z3, z4, z5, z6⟩ := tg32 tgz rfl
  have z7 : (tA tgz).drop 32 = [] := List.drop_of_length_le (by omega)
  have hdl := hI.len
  have hm : f ∉ d := by subst hd0; simp
  have kb := bsF_ac d f (posF d f) (by omega) (fun g hg => Nat.le_trans (okS_facts hS (hI.sub g hg)) (by decide)) hf (posF_le d f) (posF_lt d f) (posF_ge d f hI.srt) (decide (f ∈ d)) (posF_mem hI.srt f)
  rw [decide_eq_false hm, show posF d f = 0 by subst hd0; rfl, show d.length = 0 by subst hd0; rfl, show flatE fctE d = [] by subst hd0; rfl] at kb
  have kr := reason0_ac S hS who f hf o.length (flE o) (flE o).length
  have hro := reason_ok hS who f
  have hP : addP S (n + 1) who f (o, d) = if f ∈ d then some (o, d) else if (reasonP S who f).2.2 = false then none else ((bodyP (reasonP S who f).1).foldlM (fun s g => addP S n (reasonP S who f).2.1 g s) (o, insFc d f)).map fun s => (s.1 ++ [(reasonP S who f).1], s.2) := rfl
  generalize addP S (n + 1) who f (o, d) = R at *
  generalize reasonP S who f = Z at *
  obtain ⟨x, a, q⟩ := Z
  simp only at kr hro hP
  obtain ⟨hx, hin⟩ := hro
  obtain ⟨t1, t2, t3, t4, t5, t6⟩ := tg32 x.tg hx.1
  simp only [entE, fctE, List.cons_append, List.nil_append] at kb kr
  rw [if_neg hm] at hP
  refine rn1 (jn @R0.eq_1 @fctE.eq_1) ?_
  refine HC_plan [] tyL_ok mix (by kernel_rfl) ?_
  refine rn0 ?_
  refine HO_pureA tyL_ok kb ?_
  refine rn0 ?_
  refine HO_callX tyL_ok [0, 1, 2] kr (R0_hand _ _ _ _ _ _ _ _ rfl rfl) (R0_wf _ _ _ _) ?_
  rintro v r' ⟨rfl, rfl⟩ _
  cases q with
  | false =>
    rw [if_pos rfl] at hP
    subst hP
    refine rn1 (jn @R0.eq_1 (jn @renL_map_d (jn @hz (jn @z1 (jn @z2 (jn @z3 (jn @z4 (jn @z5 (jn @z6 (jn @z7 (jn @t1 (jn @t2 (jn @t3 (jn @t4 (jn @t5 (jn @t6 @tA_allD)))))))))))))))) ?_
    simp only [addO]
    exact fv0 [0,0,0] []
  | true =>
    rw [if_neg (by decide)] at hP
    have hI2 := hI.ins hm (hin rfl)
    have hlen := insFc_len d f
    have hl1 : (insFc d f).length = 1 := by subst hd0; rfl
    have hif : flatE fctE (insFc d f) = fctE f := by subst hd0; simp [insFc, posF, flatE]
    have ki := insF_0c (fctE f) rfl
    rw [← hif] at ki
    generalize insFc d f = d1 at *
    have ki2 : AC Tryz.prog noG 63 [.sl .full 4 0 [], .d (.c (.int .i64 0)), .osl 0 0 4 1] [some (.obj ((flatE fctE d1).map .d))] (fun v r' => ∃ (k : Nat) (zs : List D), zs.length = k * 4 ∧ v = .csl 1 0 4 d1.length (d1.length + k) ∧ r' = [none, some (.obj ((flatE fctE d1 ++ zs).map .d))]) := by rw [hl1]; exact ki
    rw [show [some (Res.obj ((flatE fctE d1).map .d))] = [some (Res.obj ((fctE f).map .d))] by rw [hif]] at ki2
    refine rn1 (jn @R0.eq_1 (jn @renL_map_d (jn @hz (jn @z1 (jn @z2 (jn @z3 (jn @z4 (jn @z5 (jn @z6 (jn @z7 (jn @t1 (jn @t2 (jn @t3 (jn @t4 (jn @t5 (jn @t6 @tA_allD)))))))))))))))) ?_
    refine HC_plan [] tyL_ok mix (by kernel_rfl) ?_
    refine rn1 (jn @ca_csl (jn @lv_csl (jn @toD_csl (jn @renL_map_d (jn @t1 (jn @t2 (jn @t3 (jn @t4 (jn @t5 (jn @t6 @tA_allD)))))))))) ?_
    refine HO_call tyL_ok [5] ki2 rfl rfl rfl (by kernel_rfl) (by decide) ⟨(by simp), (by repeat' (first | exact trivial | exact WeakA.refl _ | exact WeakA.nilFull _ | refine ⟨?_, ?_⟩)), rfl, ob1_hand _ _ _ rfl, ob1_wf _⟩ (by first | exact .inl rfl | exact .inr rfl) ?_
    rintro v r' ⟨k1, zs1, hzz, rfl, rfl⟩ _
    by_cases hw : x.why = 2
    · have hb : bodyP x = x.body := by rw [bodyP, if_pos hw]
      rw [hb] at hP
      refine rn1 (jn @ca_csl (jn @lv_csl (jn @toD_csl (jn @hw (jn @renL_map_d (jn @t1 (jn @t2 (jn @t3 (jn @t4 (jn @t5 (jn @t6 @tA_allD))))))))))) ?_
      refine HC_loopR (fun z : Nat × (List Ntr × List Fct) × Nat × List D => adSt a x.body z.1) (fun z => adRe S z.2.1.1 z.2.1.2 z.2.2.1 z.2.2.2 f x) (fun z => z.1 ≤ x.body.length ∧ (x.body.take z.1).foldlM (fun s g => addP S n a g s) (o, d1) = some z.2.1 ∧ z.2.2.2.length = z.2.2.1 * 4) (fun z => x.body.length - z.1) (0, (o, d1), k1, zs1) [0, 0, 0, 3, 4, 0, 0, 6, 2] [] ⟨by simp only; omega, rfl, hzz⟩ ?_ ?_
      · exact ft1 (jn @hw (jn @adSt.eq_1 (jn @adRe.eq_1 (jn @fB.eq_1 (jn @xB.eq_1 (jn @enC.eq_1 (jn @tA_wf @wfL_map_d)))))))
      rintro ⟨i, ⟨o1, d2⟩, k2, zs2⟩ ⟨hi1, hi2, hzz2⟩
      simp only at hi1 hi2 hzz2
      refine HC_of_R tyL_ok ?_
      have gr := fold_grow (S := S) (g := fun s g => addP S n a g s) (fun s f s' a1 b1 c1 => addP_grow hS n _ f s s' a1 b1 c1) _ _ _ hI2 ho hi2
      have gr1 := gr.inv
      have gr2 := gr.ok
      have gr3 := gr.le
      have gr4 := gr.out
      simp only at gr1 gr2 gr3 gr4
      have gr5 := gr1.len
      by_cases hlt : i < x.body.length
      · have hi : (i : Int) < x.body.length := by omega
        have hd := flatE_drop fctE_len x.body i hlt
        have hle := flatE_len fctE_len x.body
        have hbl : x.body.length ≤ 1000000 := hx.2.2.1
        have hgb := hx.2.2.2 x.body[i] (List.getElem_mem hlt)
        have hs1 := fold_some hlt hi2
        have hs2 := fold_none hlt hi2
        have kA := ih a x.body[i] o1 d2 k2 zs2 (Nat.le_trans hgb (by decide)) gr1 (fun h => by rw [h] at gr3; simp only [List.length_nil] at gr3; omega) gr2 (by omega) (by omega) hzz2
        generalize x.body[i] = g at *
        simp only [fctE, List.cons_append, List.nil_append] at hd kA
        refine rn1 (jn @adSt.eq_1 (jn @adRe.eq_1 (jn @hi (jn @hd (jn @hle @renL_map_d))))) ?_
        (repeat (refine And.intro (by omega) ?_))
        cases hA : addP S n a g (o1, d2) with
        | none =>
          rw [hs2 hA] at hP
          subst hP
          rw [hA] at kA
          refine HO_callX tyL_ok [0, 7, 8] kA (R1_hand _ _ _ _ _ _ _ _ _ _ _ rfl rfl rfl) (R1_wf _ _ _ _ _ _ _) ?_
          rintro v r' ⟨rfl, rfl⟩ _
          refine rn0 ?_
          simp only [addO, Option.map_none]
          exact fv0 [0,0,0] []
        | some s =>
          obtain ⟨o2, d3⟩ := s
          rw [hA] at kA
          simp only [hA] at hs1
          refine HO_callX tyL_ok [0, 7, 8] kA (R1_hand _ _ _ _ _ _ _ _ _ _ _ rfl rfl rfl) (R1_wf _ _ _ _ _ _ _) ?_
          rintro v r' ⟨k3, zs3, hzz3, rfl, rfl⟩ _
          refine rn1 (jn @R2.eq_1 @renL_map_d) ?_
          (repeat (refine And.intro (by omega) ?_))
          refine ⟨(i + 1, (o2, d3), k3, zs3), ⟨by simp only; omega, hs1, hzz3⟩, by simp only; omega, [0, 0, 0, 3, 4, 0, 0, 10, 11], [], ?_⟩
          exact ft1 (jn @adSt.eq_1 (jn @adRe.eq_1 (jn @fB.eq_1 (jn @xB.eq_1 (jn @enC.eq_1 (jn @tA_wf @wfL_map_d))))))
      · have hi : ¬ (i : Int) < x.body.length := by omega
        rw [List.take_of_length_le (by omega)] at hi2
        rw [hi2] at hP
        subst hP
        have hzz := hzz2
        simp only [Option.map_some]
        refine rn1 (jn @adSt.eq_1 (jn @adRe.eq_1 (jn @fB.eq_1 (jn @xB.eq_1 (jn @enC.eq_1 (jn @hi (jn @renL_map_d (jn @t1 (jn @t2 (jn @t3 (jn @t4 (jn @t5 (jn @t6 @tA_allD))))))))))))) ?_
        refine HC_plan [] tyL_ok mix (by kernel_rfl) ?_
        refine rn1 (jn @ca_csl (jn @lv_csl (jn @toD_csl (jn @t1 (jn @t2 (jn @t3 (jn @t4 (jn @t5 (jn @t6 @tA_allD))))))))) ?_
        refine HO_appB tyL_ok rfl (by kernel_rfl) rfl ?_
        refine rn1 (jn @ca_csl (jn @lv_csl (jn @toD_csl (jn @t1 (jn @t2 (jn @t3 (jn @t4 (jn @t5 (jn @t6 @tA_allD))))))))) ?_
        (repeat (refine And.intro (by omega) ?_))
        have h39 : (flE (o1 ++ [x])).length = (flE o1).length + 39 := by rw [flE_snoc, List.length_append, entE_len hx.1]
        simp only [addO, R2, h39, List.length_append, List.length_singleton]
        simp only [flE_snoc, entE, fctE, List.cons_append, List.nil_append]
        refine ⟨_, _, [0,0,0,7,8], [], ⟨_, _, hzz, rfl, rfl⟩, ⟨?_, (by first | (simp only [wfSt, wfRs, wfL, wfA, wfM, wfL_append, wfL_map_d, Bool.and_true, Bool.and_self, decide_true, Nat.reduceLT, Nat.reduceAdd, List.length_cons, List.length_nil, Nat.zero_add]; done) | rfl), ?_, (by first | (simp only [wfSt, wfRs, wfL, wfA, wfM, wfL_append, wfL_map_d, Bool.and_true, Bool.and_self, decide_true, Nat.reduceLT, Nat.reduceAdd, List.length_cons, List.length_nil, Nat.zero_add]; done) | rfl), rfl, rfl⟩⟩ <;> exact fitT
    · have hb : bodyP x = [] := by rw [bodyP, if_neg hw]
      rw [hb] at hP
      have hP2 : R = some (o ++ [x], d1) := hP
      subst hP2
      refine rn1 (jn @ca_csl (jn @lv_csl (jn @toD_csl (jn @hw (jn @renL_map_d (jn @t1 (jn @t2 (jn @t3 (jn @t4 (jn @t5 (jn @t6 @tA_allD))))))))))) ?_
      refine HC_plan [] tyL_ok mix (by kernel_rfl) ?_
      refine rn1 (jn @ca_csl (jn @lv_csl (jn @toD_csl (jn @t1 (jn @t2 (jn @t3 (jn @t4 (jn @t5 (jn @t6 @tA_allD))))))))) ?_
      refine HO_appB tyL_ok rfl (by kernel_rfl) rfl ?_
      refine rn1 (jn @ca_csl (jn @lv_csl (jn @toD_csl (jn @t1 (jn @t2 (jn @t3 (jn @t4 (jn @t5 (jn @t6 @tA_allD))))))))) ?_
      (repeat (refine And.intro (by omega) ?_))
      have h39 : (flE (o ++ [x])).length = (flE o).length + 39 := by rw [flE_snoc, List.length_append, entE_len hx.1]
      simp only [addO, R2, h39, List.length_append, List.length_singleton]
      simp only [flE_snoc, entE, fctE, List.cons_append, List.nil_append]
      refine ⟨_, _, [0,0,0,6,2], [], ⟨_, _, hzz, rfl, rfl⟩, ⟨?_, (by first | (simp only [wfSt, wfRs, wfL, wfA, wfM, wfL_append, wfL_map_d, Bool.and_true, Bool.and_self, decide_true, Nat.reduceLT, Nat.reduceAdd, List.length_cons, List.length_nil, Nat.zero_add]; done) | rfl), ?_, (by first | (simp only [wfSt, wfRs, wfL, wfA, wfM, wfL_append, wfL_map_d, Bool.and_true, Bool.and_self, decide_true, Nat.reduceLT, Nat.reduceAdd, List.length_cons, List.length_nil, Nat.zero_add]; done) | rfl), rfl, rfl⟩⟩ <;> exact fitT
theorem add_ok (S : List Srce) (hS : okS S) (hF : (facts S).length ≤ 100000) : ∀ n, AddOK S n
  | 0 => fun who f o d k zs _ hI _ _ _ hfu _ => absurd hI.len (by omega)
  | n + 1 => add_step S hS hF n (add_ok S hS hF n)
end Go.Proofs.YtdbicadncccpoaaGreat

set_option linter.unusedVariables false
set_option linter.unusedSimpArgs false
set_option maxRecDepth 100000
namespace Go.Proofs.YtdbicadncccpoaaGreat
open Go Go.ChangeShapes Go.WideShapes
/-! cert.Make. -/
section
variable {P : Program} {G : Nat → List D}
/-- What is handed over in another form. -/
theorem AC.pre {f : FuncId} {args args' : List AV} {r re : Rs} {O : AV → Rs → Prop} (L F : List Nat) (h : AC P G f args' re O) (hrs : hfit r.length F (hn L) (r ++ tks F) 0 re) (hwr : wfRs re.length re = true) (hok : hOK r.length L re = true) (hle : r.length ≤ re.length)
    (hA : WkFs r.length F args (renL (hn L) args')) (hwa : wfL re.length args' = true) : AC P G f args r O := by
  refine ⟨h.1, fun E w vals hG hRA => ?_⟩
  have hg := good_ren hG hrs hok hwr
  have hs := step_ren hG (Step.refl E r w) hrs hok (Nat.le_refl _) hle
  have key : ∀ (l m : List AV) (vs : List Value), wfL re.length m = true → WkFs r.length F l (renL (hn L) m) → RAL E r w l vs → RAL (envH E r.length L) re w m vs := by
    intro l
    induction l with
    | nil =>
      intro m vs _ hk h
      cases m with
      | nil => simpa [RAL] using h
      | cons _ _ => simp [WkFs, renL] at hk
    | cons a l ih =>
      intro m vs hw hk h
      cases m with
      | nil => simp [WkFs, renL] at hk
      | cons b m =>
        simp only [wfL, Bool.and_eq_true] at hw
        simp only [renL, WkFs] at hk
        simp only [RAL] at h ⊢
        obtain ⟨v, rest, rfl, h1, h2⟩ := h
        exact ⟨v, rest, rfl, RA_fit hG hrs hw.1 hk.1 h1, ih m rest hw.2 hk.2 h2⟩
  refine (h.2 _ w vals hg (key _ _ _ hwa hA hRA)).mono fun e w' ⟨v, x, r', E', he, ho, hra, hgood, hst⟩ => ?_
  exact ⟨v, x, r', E', he, ho, hra, hgood, hs.trans hst⟩
end
def mkN (S : List Srce) : Rs := [some (.obj [.d (.sl 2 S.length (flatE srcE S)), .d (.c (.slice none 0 0)), .d (.c (.slice none 0 0))])]
theorem add_nil (S : List Srce) (hS : okS S) (hF : (facts S).length ≤ 100000) (who : ByteArray) (f : Fct) (hf : f.l.length ≤ 140737488352000) :
    AC Tryz.prog noG 38 [.ptr 0 0, .d (.c (.string who)), .d (.agg (fctE f))] (mkN S) (addO S (addP S ((facts S).length + 1) who f ([], []))) := by
  have h := add_first S hS hF (facts S).length (add_ok S hS hF _) who f [] [] rfl hf (by simp) (by simp) (by simp)
  refine AC.pre [0, 0, 1] [0] h ⟨⟨_, rfl, ?_⟩, rfl, trivial⟩ rfl rfl (by simp [mkN, R0]) ?_ rfl
  · exact ⟨.inl (.refl _), .inr ⟨1, 39, 0, [], rfl, Nat.le_refl _, rfl, .nilFull _⟩, .inl (.refl _), trivial⟩
  · exact ⟨.inl (.refl _), .inl (.refl _), .inl (.refl _), trivial⟩
theorem mkN_hand (S : List Srce) (rc : Rs) (i : Nat) (hi : rc[i]? = some (some (.obj [.d (.sl 2 S.length (flatE srcE S)), .d (.c (.slice none 0 0)), .d (.c (.slice none 0 0))]))) : HandOK (nm [i] rc.length) rc (mkN S) [i] := by
  refine ⟨fun y h => ?_, trivial⟩
  injection h with h; subst h
  rw [hi]; rfl
theorem mkN_wf (S : List Srce) : wfRs (mkN S).length (mkN S) = true := rfl
def makeL (S : List Srce) (who : ByteArray) (f : Fct) : List Ntr := match addP S ((facts S).length + 1) who f ([], []) with
  | none => []
  | some s => s.1
def makeE (S : List Srce) (who : ByteArray) (f : Fct) : Int := if (addP S ((facts S).length + 1) who f ([], [])).isSome = true then 0 else 152
theorem make_ac (S : List Srce) (hS : okS S) (hF : (facts S).length ≤ 100000) (who : ByteArray) (f : Fct) (hf : f.l.length ≤ 140737488352000) :
    AC Tryz.prog noG 20 [.d (.c (.string who)), .d (.agg (fctE f)), .d (.sl 2 S.length (flatE srcE S))] [] (fun v r' => v = .tup [.d (.sl 39 (makeL S who f).length (flE (makeL S who f))), .d (.c (.int .i64 (makeE S who f)))] ∧ r' = []) := by
  refine AC.fit ?_
  refine AC_of_R (N := 21) (res := [.tmp 6, .tmp 7]) ty_ok Tryz.call20 Tryz.func20 rfl rfl rfl (Nat.le_of_ble_eq_true rfl) ?_
  have ka := add_nil S hS hF who f hf
  rw [makeL, makeE]
  generalize addP S ((facts S).length + 1) who f ([], []) = R at *
  simp only [fctE, List.cons_append, List.nil_append] at ka
  refine rn1 @fctE.eq_1 ?_
  refine HO_callX ty_ok [1] ka (mkN_hand _ _ _ rfl) (mkN_wf _) ?_
  cases R with
  | none =>
    rintro v r' ⟨rfl, rfl⟩ _
    refine rn0 ?_
    have e1 : flE [] = [] := rfl
    simp only [Option.isSome_none, Bool.false_eq_true, if_false, e1, List.length_nil]
    exact fv0 [] []
  | some s =>
    obtain ⟨o, d⟩ := s
    rintro v r' ⟨k, zs, hz, rfl, rfl⟩ _
    refine rn1 (jn @R2.eq_1 @renL_map_d) ?_
    exact fv0 [] []
end Go.Proofs.YtdbicadncccpoaaGreat
