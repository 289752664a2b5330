/- Parts of the proof: CTrail, CSources, OpenW. -/
import Derived.Test.YtdbicadncccpoaaCJ13
import Derived.Test.YtdbicadncccpoaaCJ14
import Derived.Test.YtdbicadncccpoaaCJ8
import Derived.Test.YtdbicadncccpoaaCJ15
set_option linter.unusedVariables false
set_option linter.unusedSimpArgs false
set_option maxRecDepth 100000
namespace Go.Proofs.Ytdbicadncccpoaa
open Go Go.ChangeShapes Go.WideShapes
/-! The trail of entries, with no program in sight. -/
def stT (p : List Ntr × List Nat) (x : Ntr) : List Ntr × List Nat := (leL p.1 x, leO p.1 p.2 x)
def trailOf (l : List Ntr) : List Ntr × List Nat := l.foldl stT ([], [])
def srcK (k : Knw) : Srce := ⟨k.who, some (trailOf k.l)⟩
/-- What stands in a trail came behind its body. -/
structure TOk (p : List Ntr × List Nat) (n : Nat) : Prop where
  len : p.1.length ≤ n
  ok : ∀ x ∈ p.1, okE x
  inv : TInv p.1 p.2
  ord : ∀ i (h : i < p.1.length), (p.1[i].why = 2 ∨ p.1[i].body = []) ∧ ∀ g ∈ p.1[i].body, hasT (p.1.take i) g = true
theorem TOk.nil : TOk ([], []) 0 := ⟨Nat.le_refl _, by simp, TInv.nil, by simp⟩
theorem TOk.mono {p : List Ntr × List Nat} {n m : Nat} (h : TOk p n) (hm : n ≤ m) : TOk p m := ⟨Nat.le_trans h.len hm, h.ok, h.inv, h.ord⟩
theorem TOk.okL {p : List Ntr × List Nat} {n : Nat} (h : TOk p n) (hn : n ≤ 1000000) : okL p.1 := ⟨Nat.le_trans h.len hn, h.ok⟩
theorem nrm_ok {x : Ntr} (h : okE x) : okE (nrm x) := by
  rw [nrm]; split
  · exact h
  · exact ⟨h.1, h.2.1, by simp⟩
theorem nrm_f (x : Ntr) : (nrm x).f = x.f := by rw [nrm]; split <;> rfl
theorem err_has {L : List Ntr} {x : Ntr} (h : errT L x = 0) : hasT L x.f = false := by
  cases hq : hasT L x.f with
  | false => rfl
  | true =>
    rw [errT, hq] at h
    split at h
    · omega
    · split at h
      · omega
      · simp at h
theorem err_ord {L : List Ntr} {x : Ntr} (h : errT L x = 0) (hw : x.why = 2) : ordT L x = true := by
  cases hq : ordT L x with
  | true => rfl
  | false =>
    have hh := err_has h
    rw [errT, hq, hh] at h
    split at h
    · omega
    · split at h
      · omega
      · simp [hw] at h
theorem stT_ok {p : List Ntr × List Nat} {n : Nat} (h : TOk p n) {x : Ntr} (hx : okE x) : TOk (stT p x) (n + 1) := by
  by_cases hn : named x = true
  · by_cases he : errT p.1 x = 0
    · have e1 : (stT p x).1 = p.1 ++ [nrm x] := by simp only [stT, leL, rL, if_pos hn, if_pos he]
      have e2 : (stT p x).2 = insT p.1 p.2 x.f := by simp only [stT, leO, rO, if_pos hn, if_pos he]
      have hh := err_has he
      refine ⟨?_, ?_, ?_, ?_⟩
      · rw [e1, List.length_append, List.length_singleton]; have := h.len; omega
      · intro y hy
        rw [e1, List.mem_append, List.mem_singleton] at hy
        rcases hy with hy | rfl
        · exact h.ok y hy
        · exact nrm_ok hx
      · rw [e1, e2, ← nrm_f x]
        exact h.inv.enter (by rw [nrm_f]; exact hh)
      · generalize (stT p x).1 = q at e1
        subst e1
        intro i hi
        rw [List.length_append, List.length_singleton] at hi
        by_cases hlt : i < p.1.length
        · rw [List.getElem_append_left hlt, List.take_append_of_le_length (by omega)]
          exact h.ord i hlt
        · have hie : i = p.1.length := by omega
          subst hie
          rw [List.getElem_append_right (Nat.le_refl _)]
          simp only [Nat.sub_self, List.getElem_cons_zero, List.take_left']
          by_cases hw : x.why = 2
          · have e : nrm x = x := by rw [nrm, if_pos hw]
            rw [e]
            refine ⟨.inl hw, fun g hg => ?_⟩
            have := err_ord he hw
            rw [ordT, List.all_eq_true] at this
            exact this g hg
          · have e : nrm x = ⟨x.f, x.why, 0, [], x.tg⟩ := by rw [nrm, if_neg hw]
            rw [e]
            exact ⟨.inr rfl, by simp⟩
    · have e : stT p x = p := by simp only [stT, leL, leO, rL, rO, if_pos hn, if_neg he]
      rw [e]; exact h.mono (by omega)
  · have e : stT p x = p := by simp only [stT, leL, leO, if_neg hn]
    rw [e]; exact h.mono (by omega)
theorem fold_ok : ∀ (l : List Ntr) (p : List Ntr × List Nat) (n : Nat), TOk p n → (∀ x ∈ l, okE x) → TOk (l.foldl stT p) (n + l.length)
  | [], p, n, h, _ => h
  | x :: l, p, n, h, hl => by
    have h1 := fold_ok l (stT p x) (n + 1) (stT_ok h (hl x (by simp))) fun y hy => hl y (by simp [hy])
    rw [List.foldl_cons, List.length_cons]
    exact h1.mono (by omega)
theorem trail_ok {l : List Ntr} (h : ∀ x ∈ l, okE x) : TOk (trailOf l) l.length := (fold_ok l ([], []) 0 TOk.nil h).mono (by omega)
theorem fold_snoc {l : List Ntr} {i : Nat} (hi : i < l.length) : (l.take (i + 1)).foldl stT ([], []) = stT ((l.take i).foldl stT ([], [])) l[i] := by
  rw [List.take_succ_eq_append_getElem hi, List.foldl_append]; rfl
theorem okE_lt {x : Ntr} (h : szE x) (k : ltE 300 x) : okE x := ⟨h.1, by have := k.1; omega, by have := k.2.1; omega, fun g hg => by have := k.2.2 g hg; omega⟩
/-! The sources. -/
theorem okP_src {k : Knw} (hl : k.l.length ≤ 300) (h : ∀ x ∈ k.l, okE x) : okP (srcK k).t := by
  have := trail_ok h
  exact ⟨this.okL (by omega), this.inv⟩
theorem okS_src' {K : List Knw} (hK : K.length ≤ 300) (h : ∀ k ∈ K, k.l.length ≤ 300 ∧ ∀ x ∈ k.l, okE x) : okS (K.map srcK) := by
  refine ⟨by rw [List.length_map]; omega, fun s hs => ?_⟩
  obtain ⟨k, hk, rfl⟩ := List.mem_map.1 hs
  exact okP_src (h k hk).1 (h k hk).2
theorem facts_len : ∀ {K : List Knw}, (∀ k ∈ K, k.l.length ≤ 300 ∧ ∀ x ∈ k.l, okE x) → (facts (K.map srcK)).length ≤ K.length * 300
  | [], _ => by simp [facts]
  | k :: K, h => by
    have h1 := facts_len (K := K) fun k hk => h k (by simp [hk])
    have h2 := (trail_ok (h k (by simp)).2).len
    have h3 := (h k (by simp)).1
    have e : facts ((k :: K).map srcK) = (trailOf k.l).1.map (·.f) ++ facts (K.map srcK) := by
      simp only [facts, List.map_cons, List.flatMap_cons]; rfl
    rw [e, List.length_append, List.length_map, List.length_cons]
    omega
/-! Order: one trail, whose steps stand behind their bodies. -/
section
variable {a : ByteArray} {L : List Ntr} {O : List Nat}
def oneS (a : ByteArray) (L : List Ntr) (O : List Nat) : List Srce := [⟨a, some (L, O)⟩]
/-- A list of steps, each the trail's own, each once, each behind its body. -/
structure Done (L : List Ntr) (o : List Ntr) : Prop where
  nd : (o.map (·.f)).Nodup
  own : ∀ x ∈ o, hasT L x.f = true ∧ getT L x.f = x
  ord : ∀ i (h : i < o.length), ∀ g ∈ o[i].body, g ∈ (o.take i).map (·.f)
theorem Done.nil : Done L [] := ⟨by simp, by simp, by simp⟩
theorem Done.snoc {o : List Ntr} (h : Done L o) {x : Ntr} (hx : x.f ∉ o.map (·.f)) (ho : hasT L x.f = true ∧ getT L x.f = x) (hb : ∀ g ∈ x.body, g ∈ o.map (·.f)) : Done L (o ++ [x]) := by
  refine ⟨?_, ?_, ?_⟩
  · rw [List.map_append, List.nodup_append]
    refine ⟨h.nd, by simp, fun u hu v hv => ?_⟩
    simp only [List.map_cons, List.map_nil, List.mem_singleton] at hv
    subst hv
    exact fun e => hx (e ▸ hu)
  · intro y hy
    rcases List.mem_append.1 hy with hy | hy
    · exact h.own y hy
    · rw [List.mem_singleton] at hy; subst hy; exact ho
  · intro i hi
    rw [List.length_append, List.length_singleton] at hi
    by_cases hlt : i < o.length
    · rw [List.getElem_append_left hlt, List.take_append_of_le_length (by omega)]
      exact h.ord i hlt
    · have : i = o.length := by omega
      subst this
      rw [List.getElem_append_right (Nat.le_refl _)]
      simpa using hb
theorem reason_one (hO : ∀ i (h : i < L.length), (L[i].why = 2 ∨ L[i].body = [])) (f : Fct) : reasonP (oneS a L O) a f = if hasT L f = true then (getT L f, a, true) else (getT L f, ⟨#[]⟩, false) := by
  have e1 : srcT a (oneS a L O) = some (L, O) := by simp [oneS, srcT]
  rw [reasonP, e1]
  have g1 : hasP (some (L, O)) f = hasT L f := rfl
  have g2 : getP (some (L, O)) f = getT L f := rfl
  rw [g1, g2]
  cases hq : hasT L f with
  | false => simp
  | true =>
    by_cases hb : a = f.b
    · rw [← hb, e1, g1, g2, hq]
      by_cases hw : (getT L f).why = 3
      · rw [if_neg (by decide), if_neg (by rw [hw]; omega), if_pos rfl]
      · rw [if_neg (by decide), if_neg (fun h => hw h.1), if_pos rfl]
    · have e2 : srcT f.b (oneS a L O) = none := by simp [oneS, srcT, hb]
      rw [e2]
      simp [hasP]
theorem get_idx (hI : TInv L O) {f : Fct} (h : hasT L f = true) : ∃ k, ∃ hk : k < L.length, plc L f = k ∧ L[k].f = f ∧ getT L f = L[k] := by
  obtain ⟨hp, h1, hk, h2⟩ := hI.place h
  refine ⟨_, hk, h1, h2, ?_⟩
  rw [getT, if_pos h, h1, Int.toNat_natCast, List.getD_eq_getElem?_getD, List.getElem?_eq_getElem hk]; rfl
theorem has_take (hI : TInv L O) {g : Fct} {i : Nat} (h : hasT (L.take i) g = true) : hasT L g = true ∧ plc L g < i := by
  obtain ⟨k, hk, hf⟩ := hasT_iff.1 h
  rw [List.length_take] at hk
  rw [List.getElem_take] at hf
  have hk2 : k < L.length := by omega
  refine ⟨hasT_iff.2 ⟨k, hk2, hf⟩, ?_⟩
  rw [plc_at hk2 hf fun i hi h1 => hI.uniq hi hk2 (h1.trans hf.symm)]
  omega
theorem fold_one {n : Nat} {P : Fct → Prop}
    (ih : ∀ (f : Fct) (o : List Ntr) (d : List Fct), hasT L f = true → plc L f < n → Done L o → (∀ g, g ∈ d ↔ g ∈ o.map (·.f) ∨ P g) → (∀ g, P g → plc L f < plc L g) →
      ∃ e d', addP (oneS a L O) n a f (o, d) = some (o ++ e, d') ∧ Done L (o ++ e) ∧ (∀ g, g ∈ d' ↔ g ∈ (o ++ e).map (·.f) ∨ P g) ∧ (∀ y ∈ e, plc L y.f ≤ plc L f) ∧ f ∈ (o ++ e).map (·.f)) :
    ∀ (l : List Fct) (o : List Ntr) (d : List Fct), (∀ g ∈ l, hasT L g = true ∧ plc L g < n ∧ ∀ h, P h → plc L g < plc L h) → Done L o → (∀ g, g ∈ d ↔ g ∈ o.map (·.f) ∨ P g) →
      ∃ e d', l.foldlM (fun s g => addP (oneS a L O) n a g s) (o, d) = some (o ++ e, d') ∧ Done L (o ++ e) ∧ (∀ g, g ∈ d' ↔ g ∈ (o ++ e).map (·.f) ∨ P g) ∧ (∀ y ∈ e, ∃ g ∈ l, plc L y.f ≤ plc L g) ∧ ∀ g ∈ l, g ∈ (o ++ e).map (·.f)
  | [], o, d, _, hD, hi => ⟨[], d, by simp, by simpa using hD, by simpa using hi, by simp, by simp⟩
  | f :: l, o, d, hl, hD, hi => by
    obtain ⟨h1, h2, h3⟩ := hl f (by simp)
    obtain ⟨e, d1, k1, k2, k3, k4, k5⟩ := ih f o d h1 h2 hD hi h3
    obtain ⟨e2, d2, m1, m2, m3, m4, m5⟩ := fold_one ih l (o ++ e) d1 (fun g hg => hl g (by simp [hg])) k2 k3
    rw [List.append_assoc] at m1 m2 m3 m5
    refine ⟨e ++ e2, d2, ?_, m2, m3, ?_, ?_⟩
    · rw [List.foldlM_cons, k1]; exact m1
    · intro y hy
      rcases List.mem_append.1 hy with hy | hy
      · exact ⟨f, by simp, k4 y hy⟩
      · obtain ⟨g, hg, h⟩ := m4 y hy
        exact ⟨g, by simp [hg], h⟩
    · intro g hg
      rcases List.mem_cons.1 hg with rfl | hg
      · rw [← List.append_assoc, List.map_append]; exact List.mem_append_left _ k5
      · exact m5 g hg
theorem add_one {m : Nat} (hT : TOk (L, O) m) : ∀ (n : Nat) (P : Fct → Prop) (f : Fct) (o : List Ntr) (d : List Fct), hasT L f = true → plc L f < n → Done L o → (∀ g, g ∈ d ↔ g ∈ o.map (·.f) ∨ P g) → (∀ g, P g → plc L f < plc L g) →
    ∃ e d', addP (oneS a L O) n a f (o, d) = some (o ++ e, d') ∧ Done L (o ++ e) ∧ (∀ g, g ∈ d' ↔ g ∈ (o ++ e).map (·.f) ∨ P g) ∧ (∀ y ∈ e, plc L y.f ≤ plc L f) ∧ f ∈ (o ++ e).map (·.f) ∧ (f ∉ d → ∃ e0, e = e0 ++ [getT L f])
  | 0, _, f, _, _, h, hn, _, _, _ => by
    have := plc_iff h; omega
  | n + 1, P, f, o, d, h, hn, hD, hi, hP => by
    obtain ⟨k, hk, hp, hf, hg⟩ := get_idx hT.inv h
    have hor := hT.ord k hk
    simp only at hor
    rw [← hg] at hor hf
    have hr : reasonP (oneS a L O) a f = (getT L f, a, true) := by rw [reason_one fun i hi => (hT.ord i hi).1, if_pos h]
    rw [addP, hr]
    by_cases hm : f ∈ d
    · rw [if_pos hm]
      have hfo : f ∈ o.map (·.f) := by
        rcases (hi f).1 hm with h1 | h1
        · exact h1
        · have := hP f h1; omega
      exact ⟨[], d, by simp, by simpa using hD, by simpa using hi, by simp, by simpa using hfo, fun h1 => absurd hm h1⟩
    · have hfo : f ∉ o.map (·.f) := fun h1 => hm ((hi f).2 (.inl h1))
      have hb : bodyP (getT L f) = (getT L f).body := by
        rw [bodyP]; split
        · rfl
        · exact (hor.1.resolve_left ‹_›).symm
      have hlt : ∀ g ∈ (getT L f).body, hasT L g = true ∧ plc L g < plc L f := fun g hg => by
        have := has_take hT.inv (hor.2 g hg)
        rw [hp]; exact this
      rw [if_neg hm, if_neg (by simp), hb]
      obtain ⟨e, d', k1, k2, k3, k4, k5⟩ := fold_one (P := fun g => P g ∨ g = f) (n := n)
        (fun g o d a1 a2 a3 a4 a5 => by
          obtain ⟨e, d', b1, b2, b3, b4, b5, _⟩ := add_one hT n (fun g => P g ∨ g = f) g o d a1 a2 a3 a4 a5
          exact ⟨e, d', b1, b2, b3, b4, b5⟩)
        (getT L f).body o (insFc d f) (fun g hg => by
          have := hlt g hg
          refine ⟨this.1, by omega, fun h1 h2 => ?_⟩
          rcases h2 with h2 | rfl
          · have := hP h1 h2; omega
          · omega) hD (fun g => by rw [insFc_mem, hi g, or_assoc])
      have hne : f ∉ (o ++ e).map (·.f) := by
        intro h1
        rw [List.map_append, List.mem_append] at h1
        rcases h1 with h1 | h1
        · exact hfo h1
        · obtain ⟨y, hy, hyf⟩ := List.mem_map.1 h1
          obtain ⟨g, hg, hle⟩ := k4 y hy
          have := (hlt g hg).2
          rw [hyf] at hle; omega
      rw [k1]
      refine ⟨e ++ [getT L f], d', by simp, ?_, ?_, ?_, ?_, fun _ => ⟨e, rfl⟩⟩
      · rw [← List.append_assoc]
        exact k2.snoc (by rw [hf]; exact hne) (by rw [hf]; exact ⟨h, rfl⟩) k5
      · intro g
        rw [k3 g]
        simp only [List.map_append, List.mem_append, List.map_cons, List.map_nil, List.mem_singleton, hf]
        constructor
        · rintro ((h1 | h1) | h1 | h1)
          · exact .inl (.inl h1)
          · exact .inl (.inr (.inl h1))
          · exact .inr h1
          · exact .inl (.inr (.inr h1))
        · rintro ((h1 | h1 | h1) | h1)
          · exact .inl (.inl h1)
          · exact .inl (.inr h1)
          · exact .inr (.inr h1)
          · exact .inr (.inl h1)
      · intro y hy
        rcases List.mem_append.1 hy with hy | hy
        · obtain ⟨g, hg, hle⟩ := k4 y hy
          have := (hlt g hg).2
          omega
        · rw [List.mem_singleton] at hy; subst hy; rw [hf]; exact Int.le_refl _
      · simp [hf]
theorem plc_lt {f : Fct} (hI : TInv L O) (h : hasT L f = true) : plc L f < L.length := by
  obtain ⟨k, hk, hp, _⟩ := get_idx hI h
  omega
theorem facts_one : facts (oneS a L O) = L.map (·.f) := by simp [facts, oneS]
/-- What is made of one trail: nothing, if the fact is not there, and else the steps, its own the last. -/
theorem make_one {m : Nat} (hT : TOk (L, O) m) (f : Fct) : (hasT L f = false ∧ makeL (oneS a L O) a f = [] ∧ makeE (oneS a L O) a f = 152) ∨
    (hasT L f = true ∧ makeE (oneS a L O) a f = 0 ∧ Done L (makeL (oneS a L O) a f) ∧ ∃ e0, makeL (oneS a L O) a f = e0 ++ [getT L f]) := by
  have hr := reason_one (a := a) (O := O) (fun i hi => (hT.ord i hi).1) f
  cases hq : hasT L f with
  | false =>
    rw [hq] at hr
    have : addP (oneS a L O) ((facts (oneS a L O)).length + 1) a f ([], []) = none := by
      rw [addP, hr]; simp
    exact .inl ⟨rfl, by rw [makeL, this], by rw [makeE, this]; rfl⟩
  | true =>
    obtain ⟨e, d', k1, k2, _, _, _, k6⟩ := add_one (a := a) hT ((facts (oneS a L O)).length + 1) (fun _ => False) f [] [] hq (by
      have : plc L f < L.length := plc_lt hT.inv hq
      rw [facts_one, List.length_map]; omega) Done.nil (by simp) (by simp)
    obtain ⟨e0, he⟩ := k6 (by simp)
    rw [List.nil_append] at k1 k2
    exact .inr ⟨rfl, by rw [makeE, k1]; rfl, by rw [makeL, k1]; exact k2, e0, by rw [makeL, k1]; exact he⟩
end
end Go.Proofs.Ytdbicadncccpoaa

set_option linter.unusedVariables false
set_option linter.unusedSimpArgs false
set_option maxRecDepth 100000
namespace Go.Proofs.Ytdbicadncccpoaa
open Go Go.ChangeShapes Go.WideShapes
/-! The statement's sources. -/
def soSt (K : List Knw) (i : Nat) : List (Nat × AV) := [(0, .d (.sl 2 K.length (flatE knE K))), (4, .sl (.own 0) 2 i (flatE srcE ((K.take i).map srcK))), (5, .sl (.own 1) 2 i (flatE rsE ((K.take i).map srcK))), (6, .d (.c (.int .i64 i)))]
def soRe (i : Nat) : Rs := [some (.tok (2 * i)), some (.tok (2 * i))]
def siSt (K : List Knw) (i k : Nat) : List (Nat × AV) := [(0, .d (.sl 2 K.length (flatE knE K))), (4, .sl (.own 0) 2 i (flatE srcE ((K.take i).map srcK))), (5, .sl (.own 1) 2 i (flatE rsE ((K.take i).map srcK))), (6, .d (.c (.int .i64 i))), (7, .ptr 2 0), (8, .ptr 3 0), (9, .d (.c (.int .i64 k)))]
def siRe (i : Nat) (p : List Ntr × List Nat) : Rs := [some (.tok (2 * i)), some (.tok (2 * i)), some (.obj (tpC p.1 p.2)), some (.obj [.sl (.own 4) 39 p.1.length (flE p.1)]), some (.tok (flE p.1).length)]
theorem leL_named {L : List Ntr} {x : Ntr} (h : 1 ≤ x.why ∧ x.why ≤ 3) : leL L x = rL L x := by rw [leL, if_pos (by rw [named, decide_eq_true_eq]; exact h)]
theorem leL_not {L : List Ntr} {x : Ntr} (h : ¬ (1 ≤ x.why ∧ x.why ≤ 3)) : leL L x = L := by rw [leL, if_neg (by rw [named, decide_eq_true_eq]; exact h)]
set_option maxHeartbeats 800000 in
theorem sources_ac (K : List Knw) (hK : K.length ≤ 300) (hKs : ∀ k ∈ K, k.l.length ≤ 300 ∧ ∀ x ∈ k.l, okE x) : AC Try.prog noG 21 [.d (.sl 2 K.length (flatE knE K))] []
    (fun v r' => v = .tup [.d (.sl 2 K.length (flatE srcE (K.map srcK))), .d (.sl 2 K.length (flatE rsE (K.map srcK)))] ∧ r' = []) := by
  refine AC.fit ?_
  refine AC_of_R (N := 77) (res := [.tmp 2, .tmp 3]) ty_ok Try.call21 Try.func21 rfl rfl rfl (Nat.le_of_ble_eq_true rfl) ?_
  refine rn0 ?_
  refine HC_loopR (soSt K) soRe (fun i => i ≤ K.length) (fun i => K.length - i) 0 [0, 1] [0, 0] (Nat.zero_le _) ?_ ?_
  · exact ft1 (jn @soSt.eq_1 (jn @soRe.eq_1 (jn @flatE_nil @List.take_zero.{0})))
  intro i hi1
  refine HC_of_R ty_ok ?_
  by_cases hlt : i < K.length
  · have hi : (i : Int) < K.length := by omega
    have hd := flatE_drop knE_len K i hlt
    have hle := flatE_len knE_len K
    have hk := hKs K[i] (List.getElem_mem hlt)
    have e1 : flatE srcE ((K.take (i + 1)).map srcK) = flatE srcE ((K.take i).map srcK) ++ srcE (srcK K[i]) := by
      rw [List.take_succ_eq_append_getElem hlt, List.map_append, flatE_app]; simp [flatE]
    have e2 : flatE rsE ((K.take (i + 1)).map srcK) = flatE rsE ((K.take i).map srcK) ++ rsE (srcK K[i]) := by
      rw [List.take_succ_eq_append_getElem hlt, List.map_append, flatE_app]; simp [flatE]
    have l1 : (flatE srcE ((K.take i).map srcK)).length = 2 * i := by rw [flatE_len srcE_len, List.length_map, List.length_take]; omega
    have l2 : (flatE rsE ((K.take i).map srcK)).length = 2 * i := by rw [flatE_len rsE_len, List.length_map, List.length_take]; omega
    generalize K[i] = kn at *
    have hok := hk.2
    simp only [knE, List.cons_append, List.nil_append] at hd
    refine rn1 (jn @soSt.eq_1 (jn @soRe.eq_1 (jn @hi (jn @hd @hle)))) ?_
    refine HO_callX ty_ok [] tnew_ac (trivial) rfl ?_
    rintro v r' ⟨rfl, rfl⟩ _
    refine rn1 (jn @tr.eq_1 @tpC.eq_1) ?_
    refine HC_loopR (fun z : Nat × (List Ntr × List Nat) => siSt K i z.1) (fun z => siRe i z.2) (fun z => z.1 ≤ kn.l.length ∧ (kn.l.take z.1).foldl stT ([], []) = z.2) (fun z => kn.l.length - z.1) (0, ([], [])) [0, 1, 2, 3, 4] [0] ⟨Nat.zero_le _, rfl⟩ ?_ ?_
    · exact ft1 (jn @siSt.eq_1 (jn @siRe.eq_1 @tpC.eq_1))
    rintro ⟨k, L, O⟩ ⟨hk1, hk2⟩
    simp only at hk1 hk2
    have hT0 := fold_ok (kn.l.take k) ([], []) 0 TOk.nil fun x hx => hok x (List.mem_of_mem_take hx)
    rw [hk2] at hT0
    have hT := hT0.mono (m := 300) (by rw [List.length_take]; have := hk.1; omega)
    have hL : okL L := hT.okL (by decide)
    have hl3 : L.length ≤ 300 := hT.len
    by_cases hkl : k < kn.l.length
    · refine HC_of_R ty_ok ?_
      have hkk : (k : Int) < kn.l.length := by omega
      have hkL : okL kn.l := ⟨by have := hk.1; omega, hok⟩
      have hd2 := flE_drop hkL k hkl
      have hle2 := flE_len hkL
      have hx := hok kn.l[k] (List.getElem_mem hkl)
      have hs := fold_snoc hkl
      rw [hk2] at hs
      generalize kn.l[k] = x at *
      obtain ⟨t1, t2, t3, t4, t5, t6⟩ := tg32 x.tg hx.1
      have htk : (bD x.tg ++ flE (kn.l.drop (k + 1))).take 32 = bD x.tg := by rw [← t2]; exact List.take_left
      have ke := lenter_ac L O hL hT.inv (by omega) x hx
      have kr := renter_ac L hL (by omega) x hx
      simp only [entE, fctE, List.cons_append, List.nil_append] at hd2 ke kr
      have hln := leL_named (L := L) (x := x)
      have hlo := leL_not (L := L) (x := x)
      refine rn1 (jn @siSt.eq_1 (jn @siRe.eq_1 (jn @tpC.eq_1 (jn @hi (jn @hd (jn @hle (jn @hkk (jn @hd2 (jn @hle2 (jn @htk (jn @t1 (jn @t2 (jn @t3 (jn @t4 (jn @t5 (jn @t6 @tA_allD)))))))))))))))) ?_
      (repeat (refine And.intro (by omega) ?_))
      refine HO_callX ty_ok [2] ke (tr_hand _ _ _ _ rfl) (tr_wf _ _) ?_
      rintro v r' ⟨rfl, rfl⟩ _
      by_cases hw1 : x.why ≥ 1
      · by_cases hw3 : x.why ≤ 3
        · refine rn1 (jn @tr.eq_1 (jn @tpC.eq_1 (jn @hw1 (jn @hw3 (jn @t1 (jn @t2 (jn @t3 (jn @t4 (jn @t5 (jn @t6 @tA_allD)))))))))) ?_
          refine HO_callX ty_ok [3, 4] kr (tl_hand _ _ _ _ rfl rfl) (tl_wf _) ?_
          rintro v r' ⟨rfl, rfl⟩ _
          rw [← hln ⟨hw1, hw3⟩]
          refine rn1 @tl.eq_1 ?_
          (repeat (refine And.intro (by omega) ?_))
          refine ⟨(k + 1, stT (L, O) x), ⟨by simp only; omega, hs⟩, by simp only; omega, [0, 1, 2, 3, 4], [], ?_⟩
          exact ft1 (jn @stT.eq_1 (jn @siSt.eq_1 (jn @siRe.eq_1 @tpC.eq_1)))
        · have e := hlo fun h => hw3 h.2
          refine rn1 (jn @tr.eq_1 (jn @tpC.eq_1 (jn @hw1 (jn @hw3 (jn @t1 (jn @t2 (jn @t3 (jn @t4 (jn @t5 (jn @t6 @tA_allD)))))))))) ?_
          (repeat (refine And.intro (by omega) ?_))
          refine ⟨(k + 1, stT (L, O) x), ⟨by simp only; omega, hs⟩, by simp only; omega, [0, 1, 2, 3, 4], [], ?_⟩
          exact ft1 (jn @e (jn @stT.eq_1 (jn @siSt.eq_1 (jn @siRe.eq_1 @tpC.eq_1))))
      · have e := hlo fun h => hw1 h.1
        refine rn1 (jn @tr.eq_1 (jn @tpC.eq_1 (jn @hw1 (jn @t1 (jn @t2 (jn @t3 (jn @t4 (jn @t5 (jn @t6 @tA_allD))))))))) ?_
        (repeat (refine And.intro (by omega) ?_))
        refine ⟨(k + 1, stT (L, O) x), ⟨by simp only; omega, hs⟩, by simp only; omega, [0, 1, 2, 3, 4], [], ?_⟩
        exact ft1 (jn @e (jn @stT.eq_1 (jn @siSt.eq_1 (jn @siRe.eq_1 @tpC.eq_1))))
    · have hkk : ¬ (k : Int) < kn.l.length := by omega
      have hT2 : trailOf kn.l = (L, O) := by rw [← hk2, List.take_of_length_le (by omega)]; rfl
      have e3 : srcE (srcK kn) = [.c (.string kn.who), .p (trP L O)] := by simp only [srcK, srcE, hT2]; rfl
      have e4 : rsE (srcK kn) = [.c (.string kn.who), .sl 39 L.length (flE L)] := by simp only [srcK, rsE, hT2]; rfl
      rw [e3] at e1
      rw [e4] at e2
      simp only [siSt, siRe, tpC]
      refine HC_layR 2 (l := tpC L O) (ds := trP L O) rfl rfl ?_
      simp only [fzL, fzA, fzR, fzRes, siSt, siRe, tpC, List.set_cons_zero, List.set_cons_succ, List.map_cons, List.map_nil, ↓reduceIte, Nat.reduceEqDiff, List.drop_zero]
      refine HC_of_R ty_ok ?_
      refine rn1 (jn @hi (jn @hd (jn @hle (jn @hkk (jn @l1 @l2))))) ?_
      (repeat (refine And.intro (by omega) ?_))
      refine HC_plan [] ty_ok mix (by kernel_rfl) ?_
      refine rn1 (jn @hi (jn @hd (jn @hle (jn @l1 @l2)))) ?_
      (repeat (refine And.intro (by omega) ?_))
      refine ⟨i + 1, by omega, by omega, [0, 1], [], ?_⟩
      simp only [soSt, soRe, e1, e2, show 2 * (i + 1) = 2 * i + 2 by omega]
      exact ft1 @soSt.eq_1
  · have hi : ¬ (i : Int) < K.length := by omega
    have e : i = K.length := by omega
    subst e
    have e3 : List.take K.length K = K := List.take_length
    refine rn1 (jn @soSt.eq_1 (jn @soRe.eq_1 (jn @hi @e3))) ?_
    exact fv0 [] []
end Go.Proofs.Ytdbicadncccpoaa

set_option linter.unusedVariables false
set_option linter.unusedSimpArgs false
set_option maxRecDepth 100000
namespace Go.Proofs.Ytdbicadncccpoaa
open Go Go.ChangeShapes Go.WideShapes
/-! Openings of somebody's entries. -/
end Go.Proofs.Ytdbicadncccpoaa
