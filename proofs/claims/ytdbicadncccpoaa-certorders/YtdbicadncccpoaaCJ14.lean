/- Parts of the proof: CRGet, CHas, CRLaw, CRAdd. -/
import Derived.Test.YtdbicadncccpoaaCJ13
import Derived.Test.YtdbicadncccpoaaCJ7
import Derived.Test.YtdbicadncccpoaaCJ5
set_option linter.unusedVariables false
set_option linter.unusedSimpArgs false
set_option maxRecDepth 100000
namespace Go.Proofs.Ytdbicadncccpoaa
open Go Go.ChangeShapes Go.WideShapes
/-! The document's get: a fact's entry in a source's list. -/
def lst : Option (List Ntr × List Nat) → List Ntr
  | none => []
  | some (L, _) => L
def rsE (s : Srce) : List D := [.c (.string s.who), .sl 39 (lst s.t).length (flE (lst s.t))]
theorem rsE_len (s : Srce) : (rsE s).length = 2 := rfl
theorem hasP_lst (p : Option (List Ntr × List Nat)) (f : Fct) : hasP p f = hasT (lst p) f := by
  cases p with
  | none => rfl
  | some q => obtain ⟨L, O⟩ := q; rfl
theorem getP_lst (p : Option (List Ntr × List Nat)) (f : Fct) : getP p f = getT (lst p) f := by
  cases p with
  | none => rfl
  | some q => obtain ⟨L, O⟩ := q; rfl
theorem okL_lst {p : Option (List Ntr × List Nat)} (h : okP p) : okL (lst p) := by
  cases p with
  | none => exact ⟨by decide, by simp [lst]⟩
  | some q => obtain ⟨L, O⟩ := q; exact h.1
theorem get_at {L : List Ntr} {f : Fct} {i : Nat} (h : i < L.length) (hn : ∀ j (hj : j < L.length), j < i → L[j].f ≠ f) (hf : L[i].f = f) : getT L f = L[i] ∧ hasT L f = true := by
  have h1 := plc_first h hn hf
  have h2 : hasT L f = true := hasT_iff.2 ⟨i, h, hf⟩
  refine ⟨?_, h2⟩
  rw [getT, if_pos h2, h1, Int.toNat_natCast, List.getD_eq_getElem?_getD, List.getElem?_eq_getElem h]; rfl
theorem get_no {L : List Ntr} {f : Fct} (h : hasT L f = false) : getT L f = zE := by rw [getT, h]; rfl
def rgS1 (S : List Srce) (who : ByteArray) (i : Nat) : List (Nat × AV) := [(0, .d (.sl 2 S.length (flatE rsE S))), (1, .d (.c (.string who))), (5, .ptr 0 0), (6, .ptr 1 0), (8, .d (.c (.int .i64 i)))]
def rgS2 (S : List Srce) (who : ByteArray) (i k : Nat) : List (Nat × AV) := [(0, .d (.sl 2 S.length (flatE rsE S))), (5, .ptr 0 0), (6, .ptr 1 0), (8, .d (.c (.int .i64 i))), (9, .d (.c (.int .i64 k)))]
set_option maxHeartbeats 800000 in
theorem rget_ac (S : List Srce) (hS : okS S) (who : ByteArray) (f : Fct) (hf : f.l.length ≤ 140737488352000) : AC Try.prog noG 90 [.d (.sl 2 S.length (flatE rsE S)), .d (.c (.string who)), .d (.agg (fctE f))] [] (fun v r' => v = .tup [.d (.agg (entE (getP (srcT who S) f))), .d (.c (.bool (hasP (srcT who S) f)))] ∧ r' = []) := by
  refine AC.fit ?_
  refine AC_of_R (N := 55) (res := [.cell 6 66, .tmp 7]) ty_ok Try.call90 Try.func90 rfl rfl rfl (Nat.le_of_ble_eq_true rfl) ?_
  have hz : ([UInt8.ofNat 0, UInt8.ofNat 0, UInt8.ofNat 0, UInt8.ofNat 0, UInt8.ofNat 0, UInt8.ofNat 0, UInt8.ofNat 0, UInt8.ofNat 0, UInt8.ofNat 0, UInt8.ofNat 0, UInt8.ofNat 0, UInt8.ofNat 0, UInt8.ofNat 0, UInt8.ofNat 0, UInt8.ofNat 0, UInt8.ofNat 0, UInt8.ofNat 0, UInt8.ofNat 0, UInt8.ofNat 0, UInt8.ofNat 0, UInt8.ofNat 0, UInt8.ofNat 0, UInt8.ofNat 0, UInt8.ofNat 0, UInt8.ofNat 0, UInt8.ofNat 0, UInt8.ofNat 0, UInt8.ofNat 0, UInt8.ofNat 0, UInt8.ofNat 0, UInt8.ofNat 0, UInt8.ofNat 0] : List UInt8) = tgz := rfl
  obtain ⟨z1, z2, z3, z4, z5, z6⟩ := tg32 tgz rfl
  have z7 : (tA tgz).drop 32 = [] := List.drop_of_length_le (by omega)
  have hz9 : (List.replicate 32 (0 : UInt8)) = tgz := rfl
  have hSl := hS.1
  refine rn1 (jn @fctE.eq_1 (jn @hz (jn @z1 (jn @z2 (jn @z3 (jn @z4 (jn @z5 (jn @z6 @tA_allD)))))))) ?_
  refine HC_loopR (fun i : Nat => rgS1 S who i) (fun _ => [fB f, zB]) (fun i => i ≤ S.length ∧ srcT who (S.drop i) = srcT who S) (fun i => S.length - i) 0 [0, 1] [] ⟨by omega, by rw [List.drop_zero]⟩ ?_ ?_
  · exact ft1 (jn @rgS1.eq_1 (jn @fB.eq_1 (jn @zB.eq_1 @tA_wf)))
  intro i ⟨hi1, hi2⟩
  refine HC_of_R ty_ok ?_
  by_cases hlt : i < S.length
  · have hi : (i : Int) < S.length := by omega
    have hd := flatE_drop rsE_len S i hlt
    have hle := flatE_len rsE_len S
    have hop := hS.2 S[i] (List.getElem_mem hlt)
    rw [List.drop_eq_getElem_cons hlt, srcT] at hi2
    generalize S[i] = s at *
    simp only [rsE, List.cons_append, List.nil_append] at hd
    by_cases hw : s.who = who
    · rw [if_pos hw] at hi2
      rw [← hi2, hasP_lst, getP_lst]
      have hL := okL_lst hop
      generalize lst s.t = L at *
      have hl1 := hL.1
      have hle2 := flE_len hL
      refine rn1 (jn @rgS1.eq_1 (jn @fB.eq_1 (jn @zB.eq_1 (jn @hi (jn @hd (jn @hle (jn @hw (jn @z1 (jn @z2 (jn @z3 (jn @z4 (jn @z5 (jn @z6 @tA_allD))))))))))))) ?_
      (repeat (refine And.intro (by omega) ?_))
      refine HC_loopR (fun k : Nat => rgS2 S who i k) (fun _ => [fB f, zB]) (fun k => k ≤ L.length ∧ ∀ j (hj : j < L.length), j < k → L[j].f ≠ f) (fun k => L.length - k) 0 [0, 1] [] ⟨by omega, by intro j hj h; omega⟩ ?_ ?_
      · exact ft1 (jn @rgS2.eq_1 (jn @fB.eq_1 (jn @zB.eq_1 @tA_wf)))
      intro k ⟨hk1, hno⟩
      refine HC_of_R ty_ok ?_
      by_cases hkl : k < L.length
      · have hk : (k : Int) < L.length := by omega
        have hd3 := flE_drop hL k hkl
        have hox := hL.2 L[k] (List.getElem_mem hkl)
        have kg := rord_ac L[k].f f (Nat.le_trans hox.2.1 (by decide)) hf
        have hgt := get_at hkl hno
        have hmore : L[k].f ≠ f → ∀ j (hj : j < L.length), j < k + 1 → L[j].f ≠ f := by
          intro hne j hj hlt2
          rcases Nat.lt_or_ge j k with h | h
          · exact hno j hj h
          · have : j = k := by omega
            subst this; exact hne
        generalize L[k] = x at *
        obtain ⟨t1, t2, t3, t4, t5, t6⟩ := tg32 x.tg hox.1
        have htk : (bD x.tg ++ flE (L.drop (k + 1))).take 32 = bD x.tg := by rw [← t2]; exact List.take_left
        simp only [entE, fctE, List.cons_append, List.nil_append] at hd3 kg
        refine rn1 (jn @rgS2.eq_1 (jn @fB.eq_1 (jn @zB.eq_1 (jn @hi (jn @hd (jn @hle (jn @hk (jn @z1 (jn @z2 (jn @z3 (jn @z4 (jn @z5 (jn @z6 @tA_allD))))))))))))) ?_
        (repeat (refine And.intro (by omega) ?_))
        refine HC_plan [] ty_ok mix (by kernel_rfl) ?_
        refine rn1 (jn @hi (jn @hd (jn @hle (jn @hk (jn @hd3 @hle2))))) ?_
        (repeat (refine And.intro (by omega) ?_))
        refine HO_pureA ty_ok kg ?_
        by_cases he : x.f = f
        · rw [ordC_zero.2 he, (hgt he).1, (hgt he).2]
          refine rn1 (jn @hi (jn @hd (jn @hle (jn @hk (jn @hd3 (jn @hle2 (jn @htk (jn @z7 (jn @z1 (jn @z2 (jn @z3 (jn @z4 (jn @z5 (jn @z6 (jn @t1 (jn @t2 (jn @t3 (jn @t4 (jn @t5 (jn @t6 @tA_allD)))))))))))))))))))) ?_
          (repeat (refine And.intro (by omega) ?_))
          simp only [entE, fctE, List.cons_append, List.nil_append]
          exact fv0 [] []
        · have h0 : ¬ ordC x.f f = 0 := fun h => he (ordC_zero.1 h)
          refine rn1 @h0 ?_
          (repeat (refine And.intro (by omega) ?_))
          refine ⟨k + 1, ⟨by omega, hmore he⟩, by omega, [0, 1], [], ?_⟩
          exact ft1 (jn @rgS2.eq_1 (jn @fB.eq_1 (jn @zB.eq_1 @tA_wf)))
      · have hk : ¬ (k : Int) < L.length := by omega
        have hn := plc_nothing (fun j hj => hno j hj (by omega))
        rw [hn.2, get_no hn.2]
        refine rn1 (jn @rgS2.eq_1 (jn @fB.eq_1 (jn @zB.eq_1 (jn @hi (jn @hd (jn @hle (jn @hk (jn @hz (jn @z1 (jn @z2 (jn @z3 (jn @z4 (jn @z5 (jn @z6 (jn @z7 @tA_allD))))))))))))))) ?_
        (repeat (refine And.intro (by omega) ?_))
        simp only [entE, fctE, zE, zE.zF0, flatE_nil, List.cons_append, List.nil_append, List.length_nil, hz9]
        exact fv0 [] []
    · rw [if_neg hw] at hi2
      refine rn1 (jn @rgS1.eq_1 (jn @fB.eq_1 (jn @zB.eq_1 (jn @hi (jn @hd (jn @hle (jn @hw (jn @z1 (jn @z2 (jn @z3 (jn @z4 (jn @z5 (jn @z6 @tA_allD))))))))))))) ?_
      (repeat (refine And.intro (by omega) ?_))
      refine ⟨i + 1, ⟨by omega, hi2⟩, by omega, [0, 1], [], ?_⟩
      exact ft1 (jn @rgS1.eq_1 (jn @fB.eq_1 (jn @zB.eq_1 @tA_wf)))
  · have hi : ¬ (i : Int) < S.length := by omega
    rw [List.drop_of_length_le (by omega), srcT] at hi2
    rw [← hi2]
    refine rn1 (jn @rgS1.eq_1 (jn @fB.eq_1 (jn @zB.eq_1 (jn @hi (jn @hz (jn @z1 (jn @z2 (jn @z3 (jn @z4 (jn @z5 (jn @z6 (jn @z7 @tA_allD)))))))))))) ?_
    simp only [hasP, getP, entE, fctE, zE, zE.zF0, flatE_nil, List.cons_append, List.nil_append, List.length_nil, hz9]
    exact fv0 [] []
end Go.Proofs.Ytdbicadncccpoaa

set_option linter.unusedVariables false
set_option linter.unusedSimpArgs false
set_option maxRecDepth 100000
namespace Go.Proofs.Ytdbicadncccpoaa
open Go Go.ChangeShapes Go.WideShapes
/-! The document's Has. -/
def hsSt (l : List Fct) (i : Nat) : List (Nat × AV) := [(0, .d (.sl 4 l.length (flatE fctE l))), (3, .ptr 0 0), (5, .d (.c (.int .i64 i)))]
def hsRe (f : Fct) : Rs := [some (.obj [.d (.c (.string f.a)), .d (.c (.string f.b)), .d (.c (.string f.p)), .d (.sl 3 f.l.length (flatE cstE f.l))])]
set_option maxHeartbeats 400000 in
theorem has_ac (l : List Fct) (hl : l.length ≤ 140737488352000) (hs : ∀ g ∈ l, g.l.length ≤ 140737488352000) (f : Fct) (hf : f.l.length ≤ 140737488352000) : AC Try.prog noG 28 [.d (.sl 4 l.length (flatE fctE l)), .d (.agg (fctE f))] [] (fun v r' => v = .d (.c (.bool (decide (f ∈ l)))) ∧ r' = []) := by
  refine AC.fit ?_
  refine AC_of_R (N := 19) (res := [.tmp 4]) ty_ok Try.call28 Try.func28 rfl rfl rfl (Nat.le_of_ble_eq_true rfl) ?_
  refine rn1 @fctE.eq_1 ?_
  refine HC_loopR (fun i : Nat => hsSt l i) (fun _ => hsRe f) (fun i => i ≤ l.length ∧ f ∉ l.take i) (fun i => l.length - i) 0 [0] [] ⟨by omega, by simp⟩ ?_ ?_
  · exact ft1 (jn @hsSt.eq_1 @hsRe.eq_1)
  intro i ⟨hi1, hno⟩
  refine HC_of_R ty_ok ?_
  by_cases hlt : i < l.length
  · have hi : (i : Int) < l.length := by omega
    have hd := flatE_drop fctE_len l i hlt
    have hle := flatE_len fctE_len l
    have hmem := List.getElem_mem hlt
    have kg := rord_ac l[i] f (hs _ hmem) hf
    have htk := List.take_succ_eq_append_getElem hlt
    generalize l[i] = g at *
    simp only [fctE, List.cons_append, List.nil_append] at hd kg
    refine rn1 (jn @hsSt.eq_1 (jn @hsRe.eq_1 @hi)) ?_
    refine HC_plan [] ty_ok mix (by kernel_rfl) ?_
    refine rn1 (jn @hi (jn @hd @hle)) ?_
    (repeat (refine And.intro (by omega) ?_))
    refine HO_pureA ty_ok kg ?_
    by_cases he : g = f
    · have e : decide (f ∈ l) = true := decide_eq_true (he ▸ hmem)
      rw [ordC_zero.2 he, e]
      refine rn0 ?_
      exact fv0 [] []
    · have h0 : ¬ ordC g f = 0 := fun h => he (ordC_zero.1 h)
      refine rn1 @h0 ?_
      (repeat (refine And.intro (by omega) ?_))
      refine ⟨i + 1, ⟨by omega, ?_⟩, by omega, [0], [], ?_⟩
      · rw [htk, List.mem_append, List.mem_singleton]
        exact fun h => h.elim hno (fun h => he h.symm)
      · exact ft1 (jn @hsSt.eq_1 @hsRe.eq_1)
  · have hi : ¬ (i : Int) < l.length := by omega
    rw [List.take_of_length_le (by omega)] at hno
    rw [decide_eq_false hno]
    refine rn1 (jn @hsSt.eq_1 (jn @hsRe.eq_1 @hi)) ?_
    exact fv0 [] []
end Go.Proofs.Ytdbicadncccpoaa

set_option linter.unusedVariables false
set_option linter.unusedSimpArgs false
set_option maxRecDepth 100000
namespace Go.Proofs.Ytdbicadncccpoaa
open Go Go.ChangeShapes Go.WideShapes
/-! The document's maker, with no program in sight; it does what the program's does. -/
def addR (S : List Srce) : Nat → ByteArray → Fct → List Ntr × List Fct × Bool → List Ntr × List Fct × Bool
  | 0, _, _, s => (s.1, s.2.1, true)
  | n + 1, who, f, s => if s.2.2 = true ∨ f ∈ s.2.1 then s else if (reasonP S who f).2.2 = false then (s.1, s.2.1, true) else
    (((bodyP (reasonP S who f).1).foldl (fun s g => addR S n (reasonP S who f).2.1 g s) (s.1, s.2.1 ++ [f], false)).1 ++ [(reasonP S who f).1],
      ((bodyP (reasonP S who f).1).foldl (fun s g => addR S n (reasonP S who f).2.1 g s) (s.1, s.2.1 ++ [f], false)).2.1,
      ((bodyP (reasonP S who f).1).foldl (fun s g => addR S n (reasonP S who f).2.1 g s) (s.1, s.2.1 ++ [f], false)).2.2)
theorem addR_lacks {S : List Srce} {n : Nat} {who : ByteArray} {f : Fct} {s : List Ntr × List Fct × Bool} (h : s.2.2 = true) : (addR S n who f s).2.2 = true := by
  cases n with
  | zero => rfl
  | succ n => rw [addR, if_pos (.inl h)]; exact h
theorem foldR_lacks {S : List Srce} {n : Nat} {who : ByteArray} : ∀ (l : List Fct) (s : List Ntr × List Fct × Bool), s.2.2 = true → (l.foldl (fun s g => addR S n who g s) s).2.2 = true
  | [], _, h => h
  | f :: l, s, h => by
    rw [List.foldl_cons]
    exact foldR_lacks l _ (addR_lacks h)
def Agree (r : Option (List Ntr × List Fct)) (s : List Ntr × List Fct × Bool) : Prop := match r with
  | none => s.2.2 = true
  | some t => s.1 = t.1 ∧ s.2.2 = false ∧ ∀ g, g ∈ t.2 ↔ g ∈ s.2.1
theorem foldR_agree {S : List Srce} {n : Nat} {who : ByteArray} (ih : ∀ f s d, (∀ g, g ∈ d ↔ g ∈ s.2.1) → s.2.2 = false → Agree (addP S n who f (s.1, d)) (addR S n who f s)) :
    ∀ (l : List Fct) (s : List Ntr × List Fct × Bool) (d : List Fct), (∀ g, g ∈ d ↔ g ∈ s.2.1) → s.2.2 = false → Agree (l.foldlM (fun s g => addP S n who g s) (s.1, d)) (l.foldl (fun s g => addR S n who g s) s)
  | [], s, d, h, h0 => ⟨rfl, h0, h⟩
  | f :: l, s, d, h, h0 => by
    have h1 := ih f s d h h0
    rw [List.foldlM_cons, List.foldl_cons]
    cases hq : addP S n who f (s.1, d) with
    | none =>
      rw [hq] at h1
      exact foldR_lacks l _ h1
    | some t =>
      rw [hq] at h1
      obtain ⟨o, d'⟩ := t
      obtain ⟨k1, k2, k3⟩ := h1
      have := foldR_agree ih l (addR S n who f s) d' k3 k2
      rw [k1] at this
      exact this
theorem addR_agree (S : List Srce) : ∀ (n : Nat) (who : ByteArray) (f : Fct) (s : List Ntr × List Fct × Bool) (d : List Fct), (∀ g, g ∈ d ↔ g ∈ s.2.1) → s.2.2 = false → Agree (addP S n who f (s.1, d)) (addR S n who f s)
  | 0, _, _, _, _, _, _ => rfl
  | n + 1, who, f, s, d, h, h0 => by
    rw [addP, addR]
    by_cases hf : f ∈ d
    · rw [if_pos hf, if_pos (.inr ((h f).1 hf))]
      exact ⟨rfl, h0, h⟩
    · have hnl : ¬ (s.2.2 = true ∨ f ∈ s.2.1) := fun k => k.elim (fun k => by rw [h0] at k; cases k) (fun k => hf ((h f).2 k))
      rw [if_neg hf, if_neg hnl]
      by_cases hq : (reasonP S who f).2.2 = false
      · rw [if_pos hq, if_pos hq]; rfl
      · rw [if_neg hq, if_neg hq]
        have h1 := foldR_agree (S := S) (n := n) (who := (reasonP S who f).2.1) (fun g s d a b => addR_agree S n _ g s d a b) (bodyP (reasonP S who f).1) (s.1, s.2.1 ++ [f], false) (insFc d f) (by
          intro g
          rw [insFc_mem, List.mem_append, List.mem_singleton, h g]) rfl
        cases hm : (bodyP (reasonP S who f).1).foldlM (fun s g => addP S n (reasonP S who f).2.1 g s) (s.1, insFc d f) with
        | none =>
          simp only at h1
          rw [hm] at h1
          exact h1
        | some t =>
          simp only at h1
          rw [hm] at h1
          obtain ⟨k1, k2, k3⟩ := h1
          exact ⟨by simp only; rw [k1], k2, k3⟩
end Go.Proofs.Ytdbicadncccpoaa

set_option linter.unusedVariables false
set_option linter.unusedSimpArgs false
set_option maxRecDepth 100000
namespace Go.Proofs.Ytdbicadncccpoaa
open Go Go.ChangeShapes Go.WideShapes
/-! The document's maker: add. -/
def rm (S : List Srce) (s : List Ntr × List Fct × Bool) : Rs := [some (.obj [.d (.sl 2 S.length (flatE rsE S)), .sl (.own 1) 39 s.1.length (flE s.1), .sl (.own 2) 4 s.2.1.length (flatE fctE s.2.1), .d (.c (.bool s.2.2))]), some (.tok (flE s.1).length), some (.tok (flatE fctE s.2.1).length)]
structure RInv (S : List Srce) (s : List Ntr × List Fct × Bool) : Prop where
  nd : s.2.1.Nodup
  sub : ∀ g ∈ s.2.1, g ∈ facts S
  ok : ∀ x ∈ s.1, okE x
  le : s.1.length ≤ s.2.1.length
/-- What a step keeps. -/
structure GrowR (S : List Srce) (s s' : List Ntr × List Fct × Bool) : Prop where
  nd : s'.2.1.Nodup
  sub : ∀ g ∈ s'.2.1, g ∈ facts S
  ok : ∀ x ∈ s'.1, okE x
  le : s.2.1.length ≤ s'.2.1.length
  out : s'.1.length + s.2.1.length ≤ s.1.length + s'.2.1.length
theorem GrowR.trans {S : List Srce} {a b c : List Ntr × List Fct × Bool} (h : GrowR S a b) (k : GrowR S b c) : GrowR S a c := ⟨k.nd, k.sub, k.ok, Nat.le_trans h.le k.le, by have := h.out; have := k.out; omega⟩
theorem foldR_grow {S : List Srce} {g : List Ntr × List Fct × Bool → Fct → List Ntr × List Fct × Bool} (hg : ∀ s f, s.2.1.Nodup → (∀ h ∈ s.2.1, h ∈ facts S) → (∀ x ∈ s.1, okE x) → GrowR S s (g s f)) :
    ∀ (l : List Fct) (s : List Ntr × List Fct × Bool), s.2.1.Nodup → (∀ h ∈ s.2.1, h ∈ facts S) → (∀ x ∈ s.1, okE x) → GrowR S s (l.foldl g s)
  | [], s, h, k, o => ⟨h, k, o, Nat.le_refl _, Nat.le_refl _⟩
  | f :: l, s, h, k, o => by
    have g1 := hg s f h k o
    rw [List.foldl_cons]
    exact g1.trans (foldR_grow hg l _ g1.nd g1.sub g1.ok)
theorem addR_grow {S : List Srce} (hS : okS S) : ∀ (n : Nat) (who : ByteArray) (f : Fct) (s : List Ntr × List Fct × Bool), s.2.1.Nodup → (∀ h ∈ s.2.1, h ∈ facts S) → (∀ x ∈ s.1, okE x) → GrowR S s (addR S n who f s)
  | 0, _, _, s, h, k, o => ⟨h, k, o, Nat.le_refl _, Nat.le_refl _⟩
  | n + 1, who, f, s, h, k, o => by
    rw [addR]
    split
    · exact ⟨h, k, o, Nat.le_refl _, Nat.le_refl _⟩
    · rename_i hf
      split
      · exact ⟨h, k, o, Nat.le_refl _, Nat.le_refl _⟩
      · rename_i hq
        have hr := reason_ok hS who f
        have hm := hr.2 (by simpa using hq)
        have hfm : f ∉ s.2.1 := fun q => hf (.inr q)
        have g1 := foldR_grow (S := S) (g := fun s g => addR S n (reasonP S who f).2.1 g s) (fun s f a b c => addR_grow hS n _ f s a b c) (bodyP (reasonP S who f).1) (s.1, s.2.1 ++ [f], false) (by
            simp only
            rw [List.nodup_append]
            exact ⟨h, by simp, fun a ha b hb => by rw [List.mem_singleton] at hb; subst hb; exact fun he => hfm (he ▸ ha)⟩) (by
            intro g hg
            rcases List.mem_append.1 hg with hg | hg
            · exact k g hg
            · rw [List.mem_singleton] at hg; subst hg; exact hm) o
        refine ⟨g1.nd, g1.sub, fun x hx => ?_, ?_, ?_⟩
        · rcases List.mem_append.1 hx with hx | hx
          · exact g1.ok x hx
          · rw [List.mem_singleton] at hx; subst hx; exact hr.1
        · have := g1.le; simp only [List.length_append, List.length_singleton] at *; omega
        · have := g1.out; simp only [List.length_append, List.length_singleton] at *; omega
end Go.Proofs.Ytdbicadncccpoaa
