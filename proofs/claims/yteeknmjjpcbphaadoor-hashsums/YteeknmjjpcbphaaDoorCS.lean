/- The frame of these proofs, part S: what a call does to the caller's names; how a contract is shown. -/
import Derived.Test.YteeknmjjpcbphaaDoorCR
set_option linter.unusedVariables false
set_option linter.unusedSimpArgs false
namespace Go.Proofs.YteeknmjjpcbphaaDoor
open Go

theorem putAll_length (g : Nat → Nat) : ∀ (ts : List Nat) (rc r' : Rs), ts.length ≤ r'.length → (putAll g rc ts r').length = rc.length + (r'.length - ts.length)
  | [], rc, r', _ => by simp [putAll]
  | t :: ts, rc, [], h => by simp at h
  | t :: ts, rc, x :: r', h => by
    simp only [putAll]
    rw [putAll_length g ts _ r' (by simpa using h)]
    simp
theorem putAll_other (g : Nat → Nat) : ∀ (ts : List Nat) (rc r' : Rs), ts.length ≤ r'.length → ∀ i, i < rc.length → i ∉ ts → (putAll g rc ts r')[i]? = rc[i]?
  | [], rc, r', _, i, hi, _ => by simp only [putAll]; rw [List.getElem?_append_left hi]
  | t :: ts, rc, [], h, _, _, _ => by simp at h
  | t :: ts, rc, x :: r', h, i, hi, hn => by
    simp only [putAll]
    simp only [List.mem_cons, not_or] at hn
    rw [putAll_other g ts _ r' (by simpa using h) i (by simpa using hi) hn.2, List.getElem?_set_ne (fun e => hn.1 e.symm)]
theorem putAll_at (g : Nat → Nat) : ∀ (ts : List Nat) (rc r' : Rs), ts.length ≤ r'.length → ts.Nodup → (∀ t ∈ ts, t < rc.length) → ∀ (j t : Nat), ts[j]? = some t → (putAll g rc ts r')[t]? = (r'[j]?).map (Option.map (renRes g))
  | [], rc, r', _, _, _, j, t, h => by simp at h
  | t0 :: ts, rc, [], h, _, _, _, _, _ => by simp at h
  | t0 :: ts, rc, x :: r', h, hnd, hlt, j, t, hj => by
    simp only [putAll]
    simp only [List.nodup_cons] at hnd
    cases j with
    | zero =>
      simp at hj
      subst hj
      rw [putAll_other g ts _ r' (by simpa using h) t0 (by simpa using hlt t0 (by simp)) hnd.1]
      have := hlt t0 (by simp)
      simp [List.getElem?_set, this]
    | succ j =>
      simp at hj
      rw [putAll_at g ts _ r' (by simpa using h) hnd.2 (fun t ht => by simpa using hlt t (by simp [ht])) j t hj]
      simp
theorem putAll_new (g : Nat → Nat) : ∀ (ts : List Nat) (rc r' : Rs), ts.length ≤ r'.length → ∀ k, (putAll g rc ts r')[rc.length + k]? = (r'[ts.length + k]?).map (Option.map (renRes g))
  | [], rc, r', _, k => by
    simp only [putAll]
    rw [List.getElem?_append_right (by omega), Nat.add_sub_cancel_left]
    simp
  | t :: ts, rc, [], h, _ => by simp at h
  | t :: ts, rc, x :: r', h, k => by
    simp only [putAll]
    have := putAll_new g ts (rc.set t (x.map (renRes g))) r' (by simpa using h) k
    simp only [List.length_set] at this
    rw [this]
    simp [Nat.add_right_comm]

/-- The blocks behind the call. -/
def blAfter (ts : List Nat) (n : Nat) (bl bl' : Nat → Option Nat) (i : Nat) : Option Nat :=
  if i < n then (if i ∈ ts then bl' (ts.idxOf i) else bl i) else bl' (ts.length + (i - n))
theorem idxOf_get : ∀ {ts : List Nat} {j t : Nat}, ts.Nodup → ts[j]? = some t → ts.idxOf t = j
  | [], j, t, _, h => by simp at h
  | a :: ts, j, t, hnd, h => by
    simp only [List.nodup_cons] at hnd
    cases j with
    | zero => simp at h; subst h; simp [List.idxOf_cons]
    | succ j =>
      simp at h
      have hm : t ∈ ts := List.mem_of_getElem? h
      have hne : a ≠ t := fun e => hnd.1 (e ▸ hm)
      have hb : (a == t) = false := by simpa using hne
      simp [List.idxOf_cons, hb, idxOf_get hnd.2 h]
theorem nm_lt {ts : List Nat} {n j : Nat} (h : j < ts.length) : ts[j]? = some (nm ts n j) := by
  simp [nm, List.getD_eq_getElem?_getD, List.getElem?_eq_getElem h]
theorem nm_ge {ts : List Nat} {n j : Nat} (h : ts.length ≤ j) : nm ts n j = n + (j - ts.length) := by
  simp [nm, List.getD_eq_getElem?_getD, List.getElem?_eq_none h]
theorem blAfter_nm {ts : List Nat} {n j : Nat} {bl bl' : Nat → Option Nat} (hnd : ts.Nodup) (hlt : ∀ t ∈ ts, t < n) : blAfter ts n bl bl' (nm ts n j) = bl' j := by
  by_cases hj : j < ts.length
  · have h := nm_lt (n := n) hj
    have hm : nm ts n j ∈ ts := List.mem_of_getElem? h
    unfold blAfter
    rw [if_pos (hlt _ hm), if_pos hm, idxOf_get hnd h]
  · rw [nm_ge (by omega)]
    unfold blAfter
    rw [if_neg (by omega)]
    congr 1
    omega

theorem call_core {P : Program} {G : Nat → List D} {f : FuncId} {args : List AV} {r : Rs} {O : AV → Rs → Prop} (h : AC P G f args r O) {E : Env} {rc : Rs} {w : World} {vals : Array Value} {ts : List Nat}
    (hnd : ts.Nodup) (hlt : ∀ t ∈ ts, t < rc.length) (hG : Good G E rc w) (hargs : RAL E rc w (renL (nm ts rc.length) args) vals.toList) (hwf : wfL r.length args = true) (hlen : r.length = ts.length)
    (hr : ∀ (j : Nat) (x : Res), r[j]? = some (some x) → rc[nm ts rc.length j]? = some (some (renRes (nm ts rc.length) x))) (hwr : wfRs r.length r = true) :
    Calls P f vals w fun e w' => ∃ v x r' E'', e = .returned x ∧ O v r' ∧ r.length ≤ r'.length ∧ RA E'' (putAll (nm ts rc.length) rc ts r') w' (ren (nm ts rc.length) v) x ∧ Good G E'' (putAll (nm ts rc.length) rc ts r') w' ∧
      Step E rc w E'' (putAll (nm ts rc.length) rc ts r') w' ∧ (r = [] → Keeps w w') := by
  have hB : AliasB (nm ts rc.length) ⟨E.T, fun j => E.bl (nm ts rc.length j)⟩ r E rc := ⟨rfl, fun i _ => rfl, hr⟩
  have hnlt : ∀ j, j < r.length → nm ts rc.length j < rc.length := fun j hj => hlt _ (List.mem_of_getElem? (nm_lt (by omega)))
  have hGc : Good G ⟨E.T, fun j => E.bl (nm ts rc.length j)⟩ r w := by
    refine ⟨fun i k b hi hb => hG.tok _ k b (hr i _ hi) hb, fun i l hi => ?_, fun i l hi => ?_, fun i j x y b hi hj hbi hbj => ?_, hG.fresh, hG.glob⟩
    · obtain ⟨b, hb, h1, vs, e, h2, h3, h4⟩ := hG.obj _ _ (hr i _ hi)
      exact ⟨b, hb, h1, vs, e, h2, RAL_unren hB l _ (wfRs_at hwr hi) h3, h4⟩
    · obtain ⟨b, hb, h1, h2⟩ := hG.map _ _ (hr i _ hi)
      exact ⟨b, hb, h1, h2⟩
    · have := hG.one _ _ _ _ b (hr i _ hi) (hr j _ hj) hbi hbj
      have hi' := (List.getElem?_eq_some_iff.1 hi).1
      have hj' := (List.getElem?_eq_some_iff.1 hj).1
      have h1 := idxOf_get hnd (nm_lt (n := rc.length) (by omega : i < ts.length))
      have h2 := idxOf_get hnd (nm_lt (n := rc.length) (by omega : j < ts.length))
      rw [this] at h1
      omega
  refine (h.2 _ w vals hGc (RAL_unren hB args _ hwf hargs)).mono fun e w' hq => ?_
  obtain ⟨v, x, r', E', rfl, hO, hv, hG', hS⟩ := hq
  have hle : ts.length ≤ r'.length := by have := hS.names.len; omega
  have hplen := putAll_length (nm ts rc.length) ts rc r' hle
  -- what a name of the caller's is behind the call
  have look : ∀ i, (putAll (nm ts rc.length) rc ts r')[i]? = if i < rc.length then (if i ∈ ts then (r'[ts.idxOf i]?).map (Option.map (renRes (nm ts rc.length))) else rc[i]?) else (r'[ts.length + (i - rc.length)]?).map (Option.map (renRes (nm ts rc.length))) := by
    intro i
    split
    · rename_i hi
      split
      · rename_i hm
        have hidx : ts.idxOf i < ts.length := List.idxOf_lt_length_iff.2 hm
        exact putAll_at _ ts rc r' hle hnd hlt _ _ (by rw [List.getElem?_eq_getElem hidx, List.getElem_idxOf hidx])
      · rename_i hm
        exact putAll_other _ ts rc r' hle i hi hm
    · rename_i hi
      have := putAll_new (nm ts rc.length) ts rc r' hle (i - rc.length)
      rw [show rc.length + (i - rc.length) = i from by omega] at this
      exact this
  have lookn : ∀ j, (putAll (nm ts rc.length) rc ts r')[nm ts rc.length j]? = (r'[j]?).map (Option.map (renRes (nm ts rc.length))) := by
    intro j
    by_cases hj : j < ts.length
    · exact putAll_at _ ts rc r' hle hnd hlt _ _ (nm_lt hj)
    · rw [nm_ge (by omega)]
      have := putAll_new (nm ts rc.length) ts rc r' hle (j - ts.length)
      rw [show ts.length + (j - ts.length) = j from by omega] at this
      exact this
  have hA : Alias (nm ts rc.length) E' r' ⟨E'.T, blAfter ts rc.length E.bl E'.bl⟩ (putAll (nm ts rc.length) rc ts r') := by
    refine ⟨rfl, fun i hi => (blAfter_nm hnd hlt).symm, fun i hi => ?_, fun i y hi hy => ?_, fun i x hx => ?_⟩
    · rw [hplen]
      by_cases hj : i < ts.length
      · have := hlt _ (List.mem_of_getElem? (nm_lt (n := rc.length) hj)); omega
      · rw [nm_ge (by omega)]; omega
    · rw [lookn, List.getElem?_eq_getElem hi] at hy
      simp only [Option.map_some, Option.some.injEq, Option.map_eq_some_iff] at hy
      obtain ⟨z, hz, rfl⟩ := hy
      exact ⟨z, by rw [List.getElem?_eq_getElem hi, hz], rfl⟩
    · rw [lookn, hx]; rfl
  -- a live name is one of the callee's, or one that the callee never saw
  have split : ∀ i y, (putAll (nm ts rc.length) rc ts r')[i]? = some (some y) → (∃ j x, nm ts rc.length j = i ∧ r'[j]? = some (some x) ∧ y = renRes (nm ts rc.length) x ∧ blAfter ts rc.length E.bl E'.bl i = E'.bl j) ∨
      (i < rc.length ∧ i ∉ ts ∧ rc[i]? = some (some y) ∧ blAfter ts rc.length E.bl E'.bl i = E.bl i) := by
    intro i y hy
    by_cases hi : i < rc.length
    · by_cases hm : i ∈ ts
      · left
        rw [look, if_pos hi, if_pos hm] at hy
        simp only [Option.map_eq_some_iff] at hy
        obtain ⟨z, hz, z2, rfl, rfl⟩ := hy
        have hidx : ts.idxOf i < ts.length := List.idxOf_lt_length_iff.2 hm
        have hnm : nm ts rc.length (ts.idxOf i) = i := by
          have h1 := nm_lt (n := rc.length) hidx
          rw [List.getElem?_eq_getElem hidx, List.getElem_idxOf hidx] at h1
          injection h1 with h1; exact h1.symm
        refine ⟨ts.idxOf i, z2, hnm, hz, rfl, ?_⟩
        conv => lhs; rw [← hnm]
        exact blAfter_nm hnd hlt
      · right
        rw [look, if_pos hi, if_neg hm] at hy
        exact ⟨hi, hm, hy, by unfold blAfter; rw [if_pos hi, if_neg hm]⟩
    · left
      rw [look, if_neg hi] at hy
      simp only [Option.map_eq_some_iff] at hy
      obtain ⟨z, hz, z2, rfl, rfl⟩ := hy
      have hnm : nm ts rc.length (ts.length + (i - rc.length)) = i := by rw [nm_ge (by omega)]; omega
      refine ⟨_, z2, hnm, hz, rfl, ?_⟩
      conv => lhs; rw [← hnm]
      exact blAfter_nm hnd hlt
  have ownc : ∀ b, Own ⟨E.T, fun j => E.bl (nm ts rc.length j)⟩ r b → Own E rc b := fun b ⟨i, x, hi, hb⟩ => ⟨_, _, hr i x hi, hb⟩
  -- blocks of names that the callee never saw are not the callee's own
  have foreign : ∀ i y b, i < rc.length → i ∉ ts → rc[i]? = some (some y) → E.bl i = some b → ¬ Own ⟨E.T, fun j => E.bl (nm ts rc.length j)⟩ r b := by
    intro i y b hi hm hy hb ⟨j, x, hj, hbj⟩
    have := hG.one i _ _ _ b hy (hr j x hj) hb hbj
    have hjl := (List.getElem?_eq_some_iff.1 hj).1
    exact hm (this ▸ List.mem_of_getElem? (nm_lt (n := rc.length) (by omega)))
  have hSt : Step E rc w ⟨E'.T, blAfter ts rc.length E.bl E'.bl⟩ (putAll (nm ts rc.length) rc ts r') w' := by
    refine ⟨hS.os, hS.tape, hS.output, hS.size, fun b hb hn => hS.block b hb (fun ho => hn (ownc b ho)), fun b ho => ?_, hS.lasts, hS.shape, ⟨by rw [hplen]; omega, fun i k' hi hk => ?_, fun i l' hi hk => ?_, fun i l' hi hk => ?_⟩⟩
    · obtain ⟨i, y, hy, hb⟩ := ho
      rcases split i y hy with ⟨j, x, hnm, hj, _, he⟩ | ⟨hi, _, hy, he⟩
      · rw [show (Env.bl _ i) = _ from he] at hb
        rcases hS.own b ⟨j, x, hj, hb⟩ with h1 | h1
        · exact .inl (ownc b h1)
        · exact .inr h1
      · rw [show (Env.bl _ i) = _ from he] at hb
        exact .inl ⟨i, y, hy, hb⟩
    · rcases split i _ hk with ⟨j, x, hnm, hj, hx, he⟩ | ⟨_, _, hy, he⟩
      · have hjl : j < r.length := by
          rcases Nat.lt_or_ge j r.length with h1 | h1
          · exact h1
          · rw [nm_ge (by omega)] at hnm; omega
        cases x with
        | tok k2 =>
          simp only [renRes] at hx; injection hx with hx; subst hx
          obtain ⟨k3, h3, h4, h5⟩ := hS.names.tok j _ hjl hj
          refine ⟨k3, by rw [← hnm]; exact hr j _ h3, h4, fun hk => ?_⟩
          rw [show (Env.bl _ i) = _ from he, h5 hk]
          show E.bl (nm ts rc.length j) = E.bl i
          rw [hnm]
        | obj l => cases hx
        | map l => cases hx
      · exact ⟨k', hy, Nat.le_refl _, fun _ => he⟩
    · rcases split i _ hk with ⟨j, x, hnm, hj, hx, he⟩ | ⟨_, _, hy, he⟩
      · have hjl : j < r.length := by
          rcases Nat.lt_or_ge j r.length with h1 | h1
          · exact h1
          · rw [nm_ge (by omega)] at hnm; omega
        cases x with
        | obj l2 =>
          simp only [renRes] at hx; injection hx with hx; subst hx
          obtain ⟨l3, h3, h4, h5⟩ := hS.names.obj j _ hjl hj
          refine ⟨renL (nm ts rc.length) l3, by rw [← hnm]; exact hr j _ h3, by rw [renL_length, renL_length]; exact h4, ?_⟩
          rw [show (Env.bl _ i) = _ from he, h5]
          show E.bl (nm ts rc.length j) = E.bl i
          rw [hnm]
        | tok l => cases hx
        | map l => cases hx
      · exact ⟨l', hy, rfl, he⟩
    · rcases split i _ hk with ⟨j, x, hnm, hj, hx, he⟩ | ⟨_, _, hy, he⟩
      · have hjl : j < r.length := by
          rcases Nat.lt_or_ge j r.length with h1 | h1
          · exact h1
          · rw [nm_ge (by omega)] at hnm; omega
        cases x with
        | map l2 =>
          simp only [renRes] at hx; injection hx with hx; subst hx
          obtain ⟨l3, h3, h5⟩ := hS.names.map j _ hjl hj
          refine ⟨l3, by rw [← hnm]; exact hr j _ h3, ?_⟩
          rw [show (Env.bl _ i) = _ from he, h5]
          show E.bl (nm ts rc.length j) = E.bl i
          rw [hnm]
        | tok l => cases hx
        | obj l => cases hx
      · exact ⟨l', hy, he⟩
  have hkp : r = [] → Keeps w w' := by
    rintro rfl
    exact ⟨hS.size, fun b hb => (hS.block b hb (by rintro ⟨i, y, hi, _⟩; simp at hi)).1⟩
  refine ⟨v, x, r', _, rfl, hO, by omega, RA_ren hA v x hv, ?_, hSt, hkp⟩
  refine ⟨fun i k b hi hb => ?_, fun i l hi => ?_, fun i l hi => ?_, fun i i2 y y2 b hi hi2 hb hb2 => ?_, hG'.fresh, hG'.glob⟩
  · rcases split i _ hi with ⟨j, x, hnm, hj, hx, he⟩ | ⟨hil, hm, hy, he⟩
    · cases x with
      | tok k2 =>
        simp only [renRes] at hx; injection hx with hx; subst hx
        rw [show (Env.bl _ i) = _ from he] at hb
        exact hG'.tok j _ b hj hb
      | obj l => cases hx
      | map l => cases hx
    · rw [show (Env.bl _ i) = _ from he] at hb
      have hfo := foreign i _ b hil hm hy hb
      obtain ⟨h1, cur, e, h2, h3⟩ := hG.tok i k b hy hb
      have hb2 := hS.block b (hG.lt hy hb) hfo
      exact ⟨hb2.2.trans h1, cur, e, hb2.1.trans h2, h3⟩
  · rcases split i _ hi with ⟨j, x, hnm, hj, hx, he⟩ | ⟨hil, hm, hy, he⟩
    · cases x with
      | obj l2 =>
        simp only [renRes] at hx; injection hx with hx; subst hx
        obtain ⟨b, hb, h1, vs, e, h2, h3, h4⟩ := hG'.obj j _ hj
        exact ⟨b, he.trans hb, h1, vs, e, h2, RAL_ren hA _ _ h3, h4⟩
      | tok l => cases hx
      | map l => cases hx
    · obtain ⟨b, hb, h1, vs, e, h2, h3, h4⟩ := hG.obj i l hy
      have hfo := foreign i _ b hil hm hy hb
      have hb2 := hS.block b (hG.lt hy hb) hfo
      exact ⟨b, he.trans hb, hb2.2.trans h1, vs, e, hb2.1.trans h2, h3.step hSt, h4⟩
  · rcases split i _ hi with ⟨j, x, hnm, hj, hx, he⟩ | ⟨hil, hm, hy, he⟩
    · cases x with
      | map l2 =>
        simp only [renRes] at hx; injection hx with hx; subst hx
        obtain ⟨b, hb, h1, h2⟩ := hG'.map j _ hj
        exact ⟨b, he.trans hb, h1, h2⟩
      | tok l => cases hx
      | obj l => cases hx
    · obtain ⟨b, hb, h1, h2⟩ := hG.map i l hy
      have hfo := foreign i _ b hil hm hy hb
      have hb2 := hS.block b (hG.lt hy hb) hfo
      exact ⟨b, he.trans hb, hb2.2.trans h1, h2.lasts (T' := E.T) hb2.1 hSt.lasts⟩
  · rcases split i _ hi with ⟨j, x, hnm, hj, hx, he⟩ | ⟨hil, hm, hy, he⟩ <;> rcases split i2 _ hi2 with ⟨j2, x2, hnm2, hj2, hx2, he2⟩ | ⟨hil2, hm2, hy2, he2⟩
    · rw [show (Env.bl _ i) = _ from he] at hb
      rw [show (Env.bl _ i2) = _ from he2] at hb2
      have := hG'.one j j2 _ _ b hj hj2 hb hb2
      rw [← hnm, ← hnm2, this]
    · rw [show (Env.bl _ i) = _ from he] at hb
      rw [show (Env.bl _ i2) = _ from he2] at hb2
      have hfo := foreign i2 _ b hil2 hm2 hy2 hb2
      rcases hS.own b ⟨j, x, hj, hb⟩ with h1 | h1
      · exact absurd h1 hfo
      · have := hG.lt hy2 hb2; omega
    · rw [show (Env.bl _ i) = _ from he] at hb
      rw [show (Env.bl _ i2) = _ from he2] at hb2
      have hfo := foreign i _ b hil hm hy hb
      rcases hS.own b ⟨j2, x2, hj2, hb2⟩ with h1 | h1
      · exact absurd h1 hfo
      · have := hG.lt hy hb; omega
    · rw [show (Env.bl _ i) = _ from he] at hb
      rw [show (Env.bl _ i2) = _ from he2] at hb2
      exact hG.one i i2 _ _ b hy hy2 hb hb2

/-! ### Entering a function, and leaving it -/
def mkL : Nat → List AV → List (Nat × AV)
  | _, [] => []
  | i, a :: l => (i, a) :: mkL (i + 1) l
def initSt (args : List AV) (r : Rs) : St := ⟨fun _ => .top, mkL 0 args, r⟩
theorem lk_mkL (b : Nat → AV) : ∀ (l : List AV) (k i : Nat), lk (mkL k l) b i = if k ≤ i ∧ i < k + l.length then l.getD (i - k) .top else b i
  | [], k, i => by simp [mkL, lk]; omega
  | a :: l, k, i => by
    simp only [mkL, lk]
    by_cases hik : i = k
    · subst hik
      simp
    · rw [if_neg hik, lk_mkL b l (k + 1) i]
      simp only [List.length_cons]
      by_cases h : k + 1 ≤ i ∧ i < k + 1 + l.length
      · rw [if_pos h, if_pos (by omega)]
        rw [show i - k = (i - (k + 1)) + 1 from by omega]
        simp
      · rw [if_neg h, if_neg (by omega)]
def resOne (ti : Ti) (σ : St) : ResultVar → Option AV
  | .tmp t => some (σ.get t)
  | .cell a t => evLoad ti σ.r t (σ.get a)
def resAll (ti : Ti) (σ : St) : List ResultVar → Option (List AV)
  | [] => some []
  | v :: l => match resOne ti σ v, resAll ti σ l with
    | some a, some as => some (a :: as)
    | _, _ => none
def resTup : List AV → AV
  | [a] => a
  | l => .tup l
def resA (ti : Ti) (σ : St) (l : List ResultVar) : Option AV := (resAll ti σ l).map resTup
section
variable {P : Program} {ti : Ti} {G : Nat → List D} {N : Nat}
def resSem (tmps : Array Value) : ResultVar → Sem Value
  | .tmp t => pure (tmps.getD t undef)
  | .cell p t => do loadVar t (← asAddr (tmps.getD p undef))
theorem results_eq (fn : Func) (tmps : Array Value) : results fn tmps = (do
    let vs ← fn.results.toList.mapM (resSem tmps)
    pure (if h : vs.toArray.size = 1 then vs.toArray[0] else .tuple vs.toArray)) := by
  have h : (fun v : ResultVar => (match v with
      | .tmp t => pure (tmps.getD t undef)
      | .cell a t => do loadVar t (← asAddr (tmps.getD a undef)) : Sem Value)) = resSem tmps := by
    funext v; cases v <;> rfl
  unfold results
  rw [Array.mapM_eq_mapM_toList]
  show (do
    let vs ← (fn.results.toList.mapM (fun v : ResultVar => (match v with
      | .tmp t => pure (tmps.getD t undef)
      | .cell a t => do loadVar t (← asAddr (tmps.getD a undef)) : Sem Value))) >>= fun l => pure l.toArray
    pure (if h : vs.size = 1 then vs[0] else .tuple vs)) = _
  rw [h]
  simp only [bind_assoc, pure_bind]
theorem resOne_sound (hti : TiOK P ti) {E : Env} {σ : St} {a : Act} {w : World} (h : Rel G N E σ a w) {v : ResultVar} {x : AV} (e : resOne ti σ v = some x) :
    ∃ z, (resSem a.tmps v).run P w = .ok z w ∧ RA E σ.r w x z := by
  cases v with
  | tmp t => simp only [resOne] at e; injection e with e; subst e; exact ⟨_, rfl, h.slot t⟩
  | cell p t =>
    simp only [resOne] at e
    obtain ⟨z, hz, hr⟩ := evLoad_sound (P := P) hti h.good (h.slot p) e
    refine ⟨z, ?_, hr⟩
    have hp := h.slot p
    have hptr : ∃ ad, a.tmps.getD p undef = .pointer (some ad) := by
      unfold evLoad at e
      split at e
      · split at e
        · rename_i xs hxs
          rw [hxs] at hp
          simp only [RA] at hp
          obtain ⟨ad, hp, _⟩ := hp
          exact ⟨ad, hp⟩
        · rename_i o off ho
          split at e
          · rename_i l hl
            rw [ho] at hp
            simp only [RA] at hp
            obtain ⟨b, _, hp⟩ := hp.2 l (objOf_some hl)
            exact ⟨_, hp⟩
          · cases e
        · cases e
      · cases e
    obtain ⟨ad, hptr⟩ := hptr
    show (do loadVar t (← asAddr (a.tmps.getD p undef)) : Sem Value).run P w = _
    rw [hptr] at hz ⊢
    simpa [Instr.loadAt, Instr.sureAddr, asAddr] using hz w (Keeps.refl w)
theorem resAll_sound (hti : TiOK P ti) {E : Env} {σ : St} {a : Act} {w : World} (h : Rel G N E σ a w) : ∀ (l : List ResultVar) (as : List AV), resAll ti σ l = some as → ∃ zs : List Value,
    (l.mapM (resSem a.tmps)).run P w = .ok zs w ∧ RAL E σ.r w as zs
  | [], as, e => by simp only [resAll] at e; injection e with e; subst e; exact ⟨[], by simp, by simp [RAL]⟩
  | v :: l, as, e => by
    simp only [resAll] at e
    split at e
    · rename_i x xs hx hxs
      injection e with e; subst e
      obtain ⟨z, hz, hr⟩ := resOne_sound hti h hx
      obtain ⟨zs, hzs, hrs⟩ := resAll_sound hti h l xs hxs
      refine ⟨z :: zs, ?_, by simp only [RAL]; exact ⟨z, zs, rfl, hr, hrs⟩⟩
      rw [List.mapM_cons]
      simp only [Sem.run_bind, hz, Result.andThen_ok, hzs, Sem.run_pure]
    · cases e
theorem results_sound (hti : TiOK P ti) {E : Env} {σ : St} {a : Act} {w : World} (h : Rel G N E σ a w) {fn : Func} {x : AV} (e : resA ti σ fn.results.toList = some x) : ∃ z, (results fn a.tmps).run P w = .ok z w ∧ RA E σ.r w x z := by
  simp only [resA, Option.map_eq_some_iff] at e
  obtain ⟨as, has, rfl⟩ := e
  obtain ⟨zs, hzs, hr⟩ := resAll_sound hti h _ as has
  have hl := RAL_length _ _ hr
  refine ⟨if h : zs.toArray.size = 1 then zs.toArray[0] else .tuple zs.toArray, ?_, ?_⟩
  · rw [results_eq]
    simp only [Sem.run_bind, hzs, Result.andThen_ok, Sem.run_pure]
  · by_cases h1 : zs.toArray.size = 1
    · rw [dif_pos h1]
      have h1' : zs.length = 1 := by simpa using h1
      match zs, as, h1', hl, hr with
      | [z], [x], _, _, hr =>
        simp only [RAL] at hr
        obtain ⟨v, rest, he, hv, _⟩ := hr
        injection he with he
        subst he
        exact hv
    · rw [dif_neg h1]
      have h1' : zs.length ≠ 1 := by simpa using h1
      have : resTup as = .tup as := by
        match as, hl with
        | [], _ => rfl
        | [x], hl => simp at hl; omega
        | x :: y :: l, _ => rfl
      rw [this]
      simp only [RA]
      exact ⟨_, rfl, by simpa using hr⟩
/-- What a function's end is to show. -/
def retK (ti : Ti) (res : List ResultVar) (O : AV → Rs → Prop) : Kt
  | .ret, σ => bindP (resA ti σ res) fun v => O v σ.r
  | .normal, σ => bindP (resA ti σ res) fun v => O v σ.r
  | _, _ => False
theorem AC_intro (hti : TiOK P ti) {f : FuncId} {fn : Func} {c : Code} {args : List AV} {r : Rs} {O : AV → Rs → Prop} (hcall : ∀ (as : Array Value) (w : World), (callFunc f as).run P w = .ok (.enter f as) w) (hf : P.funcs[f]? = some fn) (hb : fn.body = some c)
    (hn : args.length ≤ fn.ntmps) (h : Holds P G fn.ntmps c (retK ti fn.results.toList O) (initSt args r)) : AC P G f args r O := by
  refine ⟨hcall, fun E w vals hG hA => calls_of_wp hf hb ?_⟩
  have hl := RAL_length _ _ hA
  simp only [Array.length_toList] at hl
  have hR : Rel G fn.ntmps E (initSt args r) { tmps := vals ++ Array.replicate (fn.ntmps - vals.size) undef, defers := [] } w := by
    refine ⟨by simp; omega, fun i => ?_, hG, rfl⟩
    show RA E r w (lk (mkL 0 args) (fun _ => .top) i) _
    rw [lk_mkL]
    split
    · rename_i hi
      have hi' : i < args.length := by omega
      obtain ⟨v, hv, hr⟩ := RAL_get _ _ hA i _ (List.getElem?_eq_getElem hi')
      have hx : (vals ++ Array.replicate (fn.ntmps - vals.size) undef).getD i undef = v := by
        rw [Array.getD_eq_getD_getElem?, Array.getElem?_append_left (by omega)]
        have : vals[i]? = some v := by simpa using hv
        rw [this]; rfl
      show RA E r w _ ((vals ++ Array.replicate (fn.ntmps - vals.size) undef).getD i undef)
      rw [hx]
      simp only [Nat.sub_zero, List.getD_eq_getElem?_getD, List.getElem?_eq_getElem hi', Option.getD_some]
      exact hr
    · simp [RA]
  refine wp_mono (h E r w E _ w hR (Step.refl _ _ _)) fun e a' w' hq => ?_
  obtain ⟨σ, E', hk, hR', hS⟩ := hq
  have fin : bindP (resA ti σ fn.results.toList) (fun v => O v σ.r) → a'.defers = [] ∧ ∃ v, (results fn a'.tmps).run P w' = .ok v w' ∧ ∃ v_1 x r' E', Ending.returned v = .returned x ∧ O v_1 r' ∧ RA E' r' w' v_1 x ∧ Good G E' r' w' ∧ Step E r w E' r' w' := by
    intro hb
    obtain ⟨v, hv, hO⟩ := bindP_elim hb
    obtain ⟨z, hz, hr⟩ := results_sound hti hR' hv
    exact ⟨hR'.defers, z, hz, v, z, σ.r, E', rfl, hO, hr, hR'.good, hS⟩
  cases e with
  | normal => exact fin hk
  | ret => exact fin hk
  | exit id => exact hk.elim
  | goto l => exact hk.elim
  | panic ch => exact hk.elim
  | outgrown => exact hk.elim

/-! ### A call -/
/-- Which function is called, with what. -/
def calleeOf (ρ : Operand → AV) (c : Call) : Option (FuncId × List AV) :=
  match c.callee with
  | .value x => match ρ x with
    | .fn (.func f) first cap => some (f, first ++ c.args.toList.map ρ ++ cap)
    | _ => none
  | _ => none
def WkAs : List AV → List AV → Prop
  | [], [] => True
  | a :: as, b :: bs => WeakA a b ∧ WkAs as bs
  | _, _ => False
theorem WkAs_sound {E : Env} {r : Rs} {w : World} : ∀ {as bs : List AV} {vs : List Value}, WkAs as bs → RAL E r w as vs → RAL E r w bs vs
  | [], [], vs, _, h => h
  | a :: as, b :: bs, vs, hw, h => by
    simp only [WkAs] at hw
    simp only [RAL] at h ⊢
    obtain ⟨v, rest, rfl, h1, h2⟩ := h
    exact ⟨v, rest, rfl, hw.1.sound h1, WkAs_sound hw.2 h2⟩
  | [], b :: bs, _, hw, _ => hw.elim
  | a :: as, [], _, hw, _ => hw.elim
/-- What is handed over of the call's own fits the contract. -/
def HandOK (g : Nat → Nat) (rc : Rs) : Rs → List Nat → Prop
  | [], [] => True
  | x :: r, t :: ts => (∀ y, x = some y → rc[t]? = some (some (renRes g y))) ∧ HandOK g rc r ts
  | _, _ => False
theorem HandOK_at {g : Nat → Nat} {rc : Rs} : ∀ {r : Rs} {ts : List Nat}, HandOK g rc r ts → r.length = ts.length ∧ ∀ (j : Nat) (x : Res) (t : Nat), r[j]? = some (some x) → ts[j]? = some t → rc[t]? = some (some (renRes g x))
  | [], [], _ => ⟨rfl, fun j x t h => by simp at h⟩
  | y :: r, t0 :: ts, h => by
    simp only [HandOK] at h
    obtain ⟨k1, k2⟩ := HandOK_at h.2
    refine ⟨by simp [k1], fun j x t hj ht => ?_⟩
    cases j with
    | zero => simp at hj ht; subst ht; exact h.1 x hj
    | succ j => exact k2 j x t (by simpa using hj) (by simpa using ht)
  | [], t :: ts, h => h.elim
  | x :: r, [], h => h.elim
theorem callee_run {α : Operand → Value} {ρ : Operand → AV} {E : Env} {r : Rs} {w : World} (hev : ∀ x, RA E r w (ρ x) (α x)) {o : Oper} {c : Call} (ho : o.op = .call c) {f : FuncId} {as : List AV} (e : calleeOf ρ c = some (f, as))
    (hcall : ∀ (as : Array Value) (w : World), (callFunc f as).run P w = .ok (.enter f as) w) : ∃ vals : Array Value, (execOp α o).run P w = .ok (.enter f vals) w ∧ RAL E r w as vals.toList := by
  unfold calleeOf at e
  split at e
  · rename_i x hx
    split at e
    · rename_i f' first cap hf
      simp only [Option.some.injEq, Prod.mk.injEq] at e
      obtain ⟨rfl, rfl⟩ := e
      have h := hev x
      rw [hf] at h
      simp only [RA] at h
      obtain ⟨vs, us, hp, h1, h2⟩ := h
      refine ⟨vs ++ c.args.map α ++ us, by simp [execOp, ho, resolve, hx, hp, Deferred.ofValue, invoke, hcall], ?_⟩
      simp only [Array.toList_append, Array.toList_map]
      exact RAL_append _ _ _ _ (RAL_append _ _ _ _ h1 (RAL_ev hev _)) h2
    · cases e
  · cases e
theorem HL_call {ops : Array Oper} {o : Oper} {rest : List Oper} {K : Kt} {σ : St} {f : FuncId} {as args : List AV} {r : Rs} {O : AV → Rs → Prop} {c : Call} (ts : List Nat) (h : AC P G f args r O) (hd : dstOK N o = true) (hg : gd ops σ o = some true) (ho : o.op = .call c)
    (hc : calleeOf (σ.ev G) c = some (f, as)) (hnd : ts.Nodup) (hlt : ∀ t ∈ ts, t < σ.r.length) (hw : WkAs as (renL (nm ts σ.r.length) args)) (hwf : wfL r.length args = true) (hh : HandOK (nm ts σ.r.length) σ.r r ts) (hwr : wfRs r.length r = true)
    (hk : ∀ v r', O v r' → r.length ≤ r'.length → HL P G N ops rest K (σ.putR o.dst (ren (nm ts σ.r.length) v) (putAll (nm ts σ.r.length) σ.r ts r'))) : HL P G N ops (o :: rest) K σ := by
  intro E0 r0 w0 E a w hR hS
  unfold wpList
  rw [if_pos (gd_sound hR hg)]
  left
  obtain ⟨vals, hrun, hral⟩ := callee_run (P := P) (fun x => ev_sound hR x) ho hc h.1
  unfold Oper.wp
  rw [hrun, Oper.upon_enter]
  obtain ⟨hl, hh⟩ := HandOK_at hh
  refine (call_core h hnd hlt hR.good (WkAs_sound hw hral) hwf hl (fun j x hj => hh j x _ hj (nm_lt (by have := (List.getElem?_eq_some_iff.1 hj).1; omega))) hwr).mono fun e w' hq => ?_
  obtain ⟨v, x, r', E', rfl, hO, hle, hra, hgood, hst, _⟩ := hq
  have hrel := hR.putO hst hgood hd hra
  rw [putR_eq] at hrel
  exact hk v r' hO hle E0 r0 w0 E' _ w' hrel (hS.trans hst)
end
end Go.Proofs.YteeknmjjpcbphaaDoor
