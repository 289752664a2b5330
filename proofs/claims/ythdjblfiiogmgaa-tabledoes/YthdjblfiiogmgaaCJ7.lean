/- Parts of the proof: CLEnt, CTOk, TrGath, TrClone, TbDel, TbOf. -/
import Derived.Test.YthdjblfiiogmgaaCJ6
import Derived.Test.YthdjblfiiogmgaaCJ3
import Derived.Test.YthdjblfiiogmgaaCJ5
set_option linter.unusedVariables false
set_option linter.unusedSimpArgs false
set_option maxRecDepth 100000
namespace Go.Proofs.Ythdjblfiiogmgaa
open Go Go.ChangeShapes Go.WideShapes
/-! The statement's Enter: an entry by its Why. -/
end Go.Proofs.Ythdjblfiiogmgaa

set_option linter.unusedVariables false
set_option linter.unusedSimpArgs false
set_option maxRecDepth 100000
namespace Go.Proofs.Ythdjblfiiogmgaa
open Go Go.ChangeShapes Go.WideShapes
/-! The trail of entries that were entered, with no program in sight. -/
/-- What stands in a trail came behind its body. -/
structure TOk (p : List Ntr × List Nat) (n : Nat) : Prop where
  len : p.1.length ≤ n
  ok : ∀ x ∈ p.1, okE x
  inv : TInv p.1 p.2
  ord : ∀ i (h : i < p.1.length), (p.1[i].why = 2 ∨ p.1[i].body = []) ∧ ∀ g ∈ p.1[i].body, hasT (p.1.take i) g = true
theorem TOk.nil : TOk ([], []) 0 := ⟨Nat.le_refl _, by simp, TInv.nil, by simp⟩
theorem TOk.mono {p : List Ntr × List Nat} {n m : Nat} (h : TOk p n) (hm : n ≤ m) : TOk p m := ⟨Nat.le_trans h.len hm, h.ok, h.inv, h.ord⟩
end Go.Proofs.Ythdjblfiiogmgaa

set_option linter.unusedVariables false
set_option linter.unusedSimpArgs false
set_option maxRecDepth 100000
namespace Go.Proofs.Ythdjblfiiogmgaa
open Go Go.ChangeShapes Go.WideShapes
/-! all: what a trail's All tells. -/
/-- The rows while the range goes on. -/
def hR (L : List Ntr) (O : List Nat) (q : Int) (xs : List Ntr) : Rs := tr L O ++ [some (.obj [.d (.c (.int .i64 q))]), some (.obj [.sl (.own 4) 39 xs.length (flE xs)]), some (.obj [.ptr 0 0]), some (.tok (39 * xs.length))]
end Go.Proofs.Ythdjblfiiogmgaa

set_option linter.unusedVariables false
set_option linter.unusedSimpArgs false
set_option maxRecDepth 100000
namespace Go.Proofs.Ythdjblfiiogmgaa
open Go Go.ChangeShapes Go.WideShapes
/-! Clones, laid; a trail's Clone. -/
theorem cloneF_d (n : Nat) (xs : List D) (hx : xs.length = n * 4) (h : n ≤ 1000000) :
    AC Try.prog noG 57 [.d (.sl 4 n xs)] [] (fun v r' => v = .d (.sl 4 n xs) ∧ r' = []) := by
  by_cases h0 : 0 < n
  · exact AC.nones (y := .sl 4 n xs) 0 (by simp) ((cslO_lay hx h0 (cloneF_ac n xs hx h0 h)).mono fun v r' ⟨h1, h2⟩ => ⟨h1, by simp, by rw [h2]; simp⟩)
  · have hn : n = 0 := by omega
    subst hn
    have hxs : xs = [] := List.eq_nil_of_length_eq_zero (by omega)
    subst hxs
    exact AC.dat (cloneF_0.mono fun v r' ⟨h1, _⟩ => by rw [h1]; rfl)
end Go.Proofs.Ythdjblfiiogmgaa

set_option linter.unusedVariables false
set_option linter.unusedSimpArgs false
set_option maxRecDepth 100000
namespace Go.Proofs.Ythdjblfiiogmgaa
open Go Go.ChangeShapes Go.WideShapes
/-! slices.Delete of one fact; table.Take. -/
section
variable {P : Program} {ti : Ti} {G : GR} {N : Nat} {ops : Array Oper} {M : KM} {σ : St}
theorem HO_app0C (hti : TiOK P ti) {d : Option Tmp} {x y : Operand} {t u ty e : TypeId} {ps : String} {af : Array Edge} {g : Option (Nat × Bool)} {rest : List Oper} {o off sz n c o2 off2 c2 : Nat} (hg : gd ops σ ⟨d, .call ⟨.builtin .append, #[x, y], #[t, u]⟩, ty, ps, af, g⟩ = some true)
    (hx : σ.ev G x = .csl o off sz n c) (hy : σ.ev G y = .csl o2 off2 sz 0 c2) (ht : tK ti t = .sl e) (hu : isSrc (tK ti u) = true) (hi : tI ti e = true ∧ tS ti e = sz)
    (hd : ((⟨d, .call ⟨.builtin .append, #[x, y], #[t, u]⟩, ty, ps, af, g⟩ : Oper) :: rest).all (dstOK N) = true)
    (hk : EV P ti G N ops rest M (σ.putR d (.csl o off sz n c) σ.r)) : HO P ti G N ops (⟨d, .call ⟨.builtin .append, #[x, y], #[t, u]⟩, ty, ps, af, g⟩ :: rest) M σ := by
  obtain ⟨s, bb, z, hte⟩ := tK_sl ht
  obtain ⟨ie, hee, hsz, hby, _⟩ := tI_info hti hi.1
  obtain ⟨iu, hue, hsrc⟩ := tK_src hu
  rw [hi.2] at hsz
  subst hsz
  refine HO_sem hti (fun _ : Unit => .csl o off ie.size n c) (fun _ => σ.r) (fun _ => True) hg hd rfl (fun E w a hR => ?_) rfl fun _ _ => hk
  have hG := hR.good
  obtain ⟨hut, _⟩ := hti _ _ hte
  obtain ⟨_, fe, hfe, hfs, hfb, hfz, hzs, _⟩ := hti _ _ hee
  obtain ⟨huu, _⟩ := hti _ _ hue
  have h1 := ev_sound hR x
  have h2 := ev_sound hR y
  rw [hx] at h1
  rw [hy] at h2
  have h1' := h1
  simp only [RA] at h1' h2
  obtain ⟨_, A, hxv, hnc, _⟩ := h1'
  obtain ⟨_, A2, hyv, _, _⟩ := h2
  have hlen : (Builtin.lenOf (a.eval y)).run P w = .ok 0 w := by rw [hyv]; simp [Builtin.lenOf]
  have hf1 : (Builtin.firstCells fe.size 0 (a.eval y)).run P w = .ok (([] : List Value).toArray) w := by
    rw [hyv]
    cases A2 with
    | none => simp [Builtin.firstCells]
    | some ad => exact run_firstCells_some (P := P) w fe.size 0 ad 0 _ [] (by simp) (fun j u hj => by simp at hj)
  have hrun := app_zero (P := P) (w := w) (ty := ty) hut huu hsrc hfe hnc hlen hf1 (A := A)
  rw [← hxv] at hrun
  refine ⟨(), _, w, E, trivial, ?_, h1, hG, Step.refl _ _ _, .inr (Keeps.refl w)⟩
  simp [execOp, resolve, invoke, builtin, hrun]
end
theorem src_cslE {l B : List D} {sz off n c m : Nat} {r : Rs} (h0 : 0 < n) (hm : n = m) (hB : (l.drop off).take (n * sz) = B) : srcOf (some (.obj (l.map .d)) :: r) sz (.csl 0 off sz n c) = some (m, B) := by
  subst hm
  simp only [srcOf, objOf, List.getElem?_cons_zero]
  rw [if_pos ⟨trivial, h0⟩, ← List.map_drop, ← List.map_take, allD_map, hB]; rfl
theorem dl1 {α : Type} {A B x Z : List α} {a b s : Nat} (ha : A.length = a) (hx : x.length = s) (hb : B.length = b) : ((A ++ x ++ B ++ Z).drop (a + s)).take b = B := by
  have hl : (A ++ x).length = a + s := by rw [List.length_append, ha, hx]
  rw [List.append_assoc (A ++ x), dr_app hl, tk_app hb]
theorem dl2 {α : Type} {A B x Z : List α} {a b : Nat} (ha : A.length = a) : (A ++ x ++ B ++ Z).take a ++ B ++ (A ++ x ++ B ++ Z).drop (a + b) = A ++ B ++ (x ++ B ++ Z).drop b := by
  have h1 : A ++ x ++ B ++ Z = A ++ (x ++ B ++ Z) := by simp
  rw [h1, tk_app ha, dr_app2 ha]
theorem dl3 {α : Type} {Y x Z : List α} {a s : Nat} (ha : Y.length = a) : (Y ++ Z).take a ++ x ++ (Y ++ Z).drop (a + s) = Y ++ (x ++ Z.drop s) := by
  rw [tk_app ha, dr_app2 ha, List.append_assoc]
set_option maxHeartbeats 400000 in
theorem delF_ac (p i k : Nat) (A B zs x : List D) (hA : A.length = i * 4) (hx : x.length = 4) (hB : B.length = (p - i) * 4) (hz : zs.length = k * 4) (hi : i ≤ p) (h : p ≤ 1000000) :
    AC Try.prog noG 61 [.csl 0 0 4 (p + 1) (p + 1 + k), .d (.c (.int .i64 i)), .d (.c (.int .i64 ((i : Int) + 1)))] [some (.obj ((A ++ x ++ B ++ zs).map .d))] (cslO 4 p (A ++ B)) := by
  refine AC.fit ?_
  refine AC_of_R (N := 33) (res := [.tmp 6]) tyL_ok Try.call61 Try.func61 rfl rfl rfl (Nat.le_of_ble_eq_true rfl) ?_
  have hrl : ((A ++ x ++ B ++ zs).map AV.d).length = (p + 1 + k) * 4 := by rw [List.length_map, List.length_append, List.length_append, List.length_append, hA, hB, hz, hx]; omega
  have h1 : ¬ (i : Int) = (i : Int) + 1 := by omega
  have e3 : ((i : Int) + 1).toNat = i + 1 := by omega
  refine rn1 (jn @h1 @e3) ?_
  refine ⟨by omega, ?_⟩
  refine HC_plan [] tyL_ok mix (by kernel_rfl) ?_
  refine rn1 @e3 ?_
  refine ⟨by omega, by omega, ?_⟩
  have e4 : i + (p - i) = p := by omega
  have e5 : p + 1 - p = 1 := by omega
  by_cases hip : i = p
  · subst hip
    have hB0 : B = [] := List.eq_nil_of_length_eq_zero (by rw [hB]; omega)
    subst hB0
    have e6 : i + 1 - (i + 1) = 0 := by omega
    simp only [List.append_nil] at *
    refine HO_app0C tyL_ok (e := 32) rfl rfl (by simp only [Nat.sub_self]; rfl) (by simp only [ST]) (by simp only [ST]; rfl) ⟨by simp only [ST], by simp only [ST]⟩ (by kernel_rfl) ?_
    refine rn1 @e5 ?_
    refine ⟨by omega, ?_⟩
    refine HO_clearC tyL_ok (e := 32) (sz := 4) (n := 1) (l := (A ++ x ++ zs).map .d) (l' := (A ++ (repD zFc 1 ++ (x ++ zs).drop 4)).map .d) (zl := zFc.map .d) rfl (rfl) rfl (by simp only [ST]) ⟨by simp only [ST], by simp only [ST]⟩ (by simp only [ST]; rfl) (by decide) (by decide) ?_ (by kernel_rfl) rfl ?_
    · rw [repA_map]
      simp only [← List.map_take, ← List.map_drop, ← List.map_append, Nat.zero_add, Nat.one_mul]
      rw [List.append_assoc A x zs, dl3 hA]
    refine rn0 ?_
    have hzl : (repD zFc 1 ++ List.drop 4 (x ++ zs)).length = (k + 1) * 4 := by
      rw [List.length_append, repD_len, List.length_drop, List.length_append]; simp only [zFc, List.length_cons, List.length_nil]; omega
    generalize repD zFc 1 ++ List.drop 4 (x ++ zs) = zs2 at *
    rw [show i + 1 + k = i + (k + 1) by omega]
    refine ⟨_, _, [0], [], ⟨k + 1, zs2, hzl, rfl, rfl⟩, ⟨?_, (by first | (simp only [wfSt, wfRs, wfL, wfA, wfM, wfL_append, wfL_map_d, Bool.and_true, Bool.and_self, decide_true, Nat.reduceLT, Nat.reduceAdd, List.length_cons, List.length_nil, Nat.zero_add]; done) | rfl), ?_, (by first | (simp only [wfSt, wfRs, wfL, wfA, wfM, wfL_append, wfL_map_d, Bool.and_true, Bool.and_self, decide_true, Nat.reduceLT, Nat.reduceAdd, List.length_cons, List.length_nil, Nat.zero_add]; done) | rfl), rfl, rfl⟩⟩ <;> exact fitT
  · refine HO_appC tyL_ok (e := 32) (sz := 4) (m := p - i) (ys := B) (l := (A ++ x ++ B ++ zs).map .d) (l1 := (A ++ B ++ (x ++ B ++ zs).drop ((p - i) * 4)).map .d) (l2 := fun k => (A ++ B ++ repD zFc k).map .d) (zl := zFc.map .d) rfl rfl (src_cslE (by omega) (by omega) (by rw [show (p + 1 - (i + 1)) * 4 = (p - i) * 4 by omega, show (i + 1) * 4 = i * 4 + 4 by omega]; exact dl1 hA hx hB)) rfl (by omega) (by simp only [ST]) (by simp only [ST]; rfl) ⟨by simp only [ST], by simp only [ST]⟩ (by simp only [ST]; rfl) (by decide) (by omega) (by omega) (by simp only [ST]; omega) (by kernel_rfl) rfl (fun hc => ?_) (fun k => ?_) (fun hc => ?_) (fun hc k2 => absurd hc (by omega))
    · skip
      simp only [← List.map_take, ← List.map_drop, ← List.map_append]
      rw [dl2 hA]
    · skip
      rw [repA_map]
      simp only [← List.map_take, ← List.map_drop, ← List.map_append]
      rw [show A ++ x ++ B ++ zs = A ++ (x ++ B ++ zs) by simp, tk_app hA]
    · have hZ : ((x ++ B ++ zs).drop ((p - i) * 4)).length = 4 + k * 4 := by rw [List.length_drop, List.length_append, List.length_append]; omega
      generalize (x ++ B ++ zs).drop ((p - i) * 4) = Z at *
      refine rn1 (jn @e4 @e5) ?_
      refine ⟨by omega, ?_⟩
      refine HO_clearC tyL_ok (e := 32) (sz := 4) (n := 1) (l := (A ++ B ++ Z).map .d) (l' := ((A ++ B) ++ (repD zFc 1 ++ (Z).drop 4)).map .d) (zl := zFc.map .d) rfl (rfl) rfl (by simp only [ST]) ⟨by simp only [ST], by simp only [ST]⟩ (by simp only [ST]; rfl) (by decide) (by decide) ?_ (by kernel_rfl) rfl ?_
      · rw [repA_map]
        simp only [← List.map_take, ← List.map_drop, ← List.map_append, Nat.zero_add, Nat.one_mul]
        rw [dl3 (by rw [List.length_append]; omega)]
      refine rn0 ?_
      have hzl : (repD zFc 1 ++ List.drop 4 Z).length = (k + 1) * 4 := by
        rw [List.length_append, repD_len, List.length_drop]; simp only [zFc, List.length_cons, List.length_nil]; omega
      generalize repD zFc 1 ++ List.drop 4 Z = zs2 at *
      rw [show p + 1 + k = p + (k + 1) by omega]
      refine ⟨_, _, [0], [], ⟨k + 1, zs2, hzl, rfl, rfl⟩, ⟨?_, (by first | (simp only [wfSt, wfRs, wfL, wfA, wfM, wfL_append, wfL_map_d, Bool.and_true, Bool.and_self, decide_true, Nat.reduceLT, Nat.reduceAdd, List.length_cons, List.length_nil, Nat.zero_add]; done) | rfl), ?_, (by first | (simp only [wfSt, wfRs, wfL, wfA, wfM, wfL_append, wfL_map_d, Bool.and_true, Bool.and_self, decide_true, Nat.reduceLT, Nat.reduceAdd, List.length_cons, List.length_nil, Nat.zero_add]; done) | rfl), rfl, rfl⟩⟩ <;> exact fitT
theorem cslO_lay0 {f : FuncId} {P : Program} {G : GR} {args : List AV} {r : Rs} (hr : r.length ≤ 1) (h : AC P G f args r (cslO 4 0 [])) : AC P G f args r (fun v r' => v = .d (.sl 4 0 []) ∧ r' = [none]) := by
  refine ⟨h.1, fun E w vals hG hA => (h.2 E w vals hG hA).mono fun e w' ⟨v, x, r', E', he, ⟨k, zs, hz, hv, hr'⟩, k1, k2, k3⟩ => ?_⟩
  have hW : WeakR r' [none] := ⟨by rw [hr']; simp, fun i x hx => by
    match i, hx with
    | 0, hx => simp at hx
    | i + 1, hx => simp at hx⟩
  refine ⟨.d (.sl 4 0 []), x, [none], E', he, ⟨rfl, rfl⟩, ?_, k2.weak hW rfl, k3.weak hW hr⟩
  rw [hv] at k1
  simp only [RA] at k1
  obtain ⟨_, A, rfl, hc, _⟩ := k1
  simp only [RA, RD]
  exact ⟨rfl, A, _, rfl, Nat.zero_le _, .inl trivial⟩
theorem delF_l (p i k : Nat) (A B zs x : List D) (hA : A.length = i * 4) (hx : x.length = 4) (hB : B.length = (p - i) * 4) (hz : zs.length = k * 4) (hi : i ≤ p) (h : p ≤ 1000000) :
    AC Try.prog noG 61 [.csl 0 0 4 (p + 1) (p + 1 + k), .d (.c (.int .i64 i)), .d (.c (.int .i64 ((i : Int) + 1)))] [some (.obj ((A ++ x ++ B ++ zs).map .d))] (fun v r' => v = .d (.sl 4 p (A ++ B)) ∧ r' = [none]) := by
  have k1 := delF_ac p i k A B zs x hA hx hB hz hi h
  by_cases h0 : 0 < p
  · exact cslO_lay (by rw [List.length_append]; omega) h0 k1
  · have hp : p = 0 := by omega
    subst hp
    have hA0 : A = [] := List.eq_nil_of_length_eq_zero (by omega)
    have hB0 : B = [] := List.eq_nil_of_length_eq_zero (by omega)
    subst hA0 hB0
    exact cslO_lay0 (by simp) k1
/-- A table's facts without one. -/
def tkB (L : List Fct) (f : Fct) : List Fct := if f ∈ L then L.take (posF L f) ++ L.drop (posF L f + 1) else L
def tkE (L : List Fct) (f : Fct) : Int := if f ∈ L then 0 else 152
theorem posF_in {L : List Fct} (hs : srtF L) {f : Fct} (h : f ∈ L) : ∃ hp : posF L f < L.length, L[posF L f] = f := by
  have := posF_mem hs f
  rw [decide_eq_true h] at this
  obtain ⟨hp, h0⟩ := of_decide_eq_true this.symm
  exact ⟨hp, (isOrd.zero _ _).1 h0⟩
theorem tkB_split {L : List Fct} (hs : srtF L) {f : Fct} (h : f ∈ L) : L = L.take (posF L f) ++ [f] ++ L.drop (posF L f + 1) := by
  obtain ⟨hp, he⟩ := posF_in hs h
  have h1 := List.take_append_drop (posF L f) L
  rw [List.drop_eq_getElem_cons hp, he] at h1
  rw [List.append_assoc]; exact h1.symm
set_option maxHeartbeats 400000 in
theorem btake_ac (L : List Fct) (m : Int) (hm : m ≠ 0) (hL : okB L) (f : Fct) (hf : f.l.length ≤ 140737488352000) : AC Try.prog noG 22 [.ptr 0 0, .d (.agg (fctE f))] (tbl L m) (fun v r' => v = .d (.c (.int .i64 (tkE L f))) ∧ r' = tbl (tkB L f) m) := by
  refine AC.fit ?_
  refine AC_of_R (N := 29) (res := [.tmp 4]) tyL_ok Try.call22 Try.func22 rfl rfl rfl (Nat.le_of_ble_eq_true rfl) ?_
  have k := bnone_ac L m hm
  have kf := bfind_ac L m hL f hf
  have hl := hL.len
  simp only [fctE, List.cons_append, List.nil_append] at kf
  refine rn1 (jn @tbl.eq_1 (jn @tblC.eq_1 @fctE.eq_1)) ?_
  refine HO_callX tyL_ok [0] k (tbl_hand _ _ _ _ rfl) (tbl_wf _ _) ?_
  rintro v r' ⟨rfl, rfl⟩ _
  refine rn1 (jn @tbl.eq_1 @tblC.eq_1) ?_
  refine HO_callX tyL_ok [0] kf (tbl_hand _ _ _ _ rfl) (tbl_wf _ _) ?_
  rintro v r' ⟨rfl, rfl⟩ _
  by_cases hi : f ∈ L
  · have e1 : tkE L f = 0 := by rw [tkE, if_pos hi]
    have e2 : tkB L f = L.take (posF L f) ++ L.drop (posF L f + 1) := by rw [tkB, if_pos hi]
    obtain ⟨hp, _⟩ := posF_in hL.srt hi
    have hsp := tkB_split hL.srt hi
    obtain ⟨p, hpl⟩ : ∃ p, L.length = p + 1 := ⟨L.length - 1, by omega⟩
    have hfl : flatE fctE L = flatE fctE (L.take (posF L f)) ++ fctE f ++ flatE fctE (L.drop (posF L f + 1)) := by
      conv => lhs; rw [hsp]
      rw [flatE_app, flatE_app]; simp [flatE]
    have hlen : (tkB L f).length = p := by rw [e2, List.length_append, List.length_take, List.length_drop]; omega
    have hfl2 : flatE fctE (tkB L f) = flatE fctE (L.take (posF L f)) ++ flatE fctE (L.drop (posF L f + 1)) := by rw [e2, flatE_app]
    rw [e1, decide_eq_true hi]
    refine rn1 (jn @tbl.eq_1 @tblC.eq_1) ?_
    refine HO_callX tyL_ok [] (cloneF_ac L.length (flatE fctE L) (by rw [flatE_len fctE_len]; omega) (by omega) (by omega)) (trivial) rfl ?_
    rintro v r' ⟨k, zs, hz, rfl, rfl⟩ _
    have kd := delF_l p (posF L f) k (flatE fctE (L.take (posF L f))) (flatE fctE (L.drop (posF L f + 1))) zs (fctE f) (by rw [flatE_len fctE_len, List.length_take]; omega) rfl (by rw [flatE_len fctE_len, List.length_drop]; omega) hz (by omega) (by omega)
    rw [← hfl, ← hfl2, ← hpl] at kd
    have hpw : (posF L f : Int) < 100000 := by omega
    generalize tkB L f = L2 at *
    refine rn1 @renL_map_d ?_
    refine HO_callX tyL_ok [2] kd (ob1_hand _ _ _ rfl) (ob1_wf _) ?_
    rintro v r' ⟨rfl, rfl⟩ _
    subst hlen
    refine rn0 ?_
    exact fv1 [0] [] (jn @tbl.eq_1 @tblC.eq_1)
  · have e1 : tkE L f = 152 := by rw [tkE, if_neg hi]
    have e2 : tkB L f = L := by rw [tkB, if_neg hi]
    rw [e1, e2, decide_eq_false hi]
    refine rn1 (jn @tbl.eq_1 @tblC.eq_1) ?_
    exact fv1 [0] [] (jn @tbl.eq_1 @tblC.eq_1)
end Go.Proofs.Ythdjblfiiogmgaa

set_option linter.unusedVariables false
set_option linter.unusedSimpArgs false
set_option maxRecDepth 100000
namespace Go.Proofs.Ythdjblfiiogmgaa
open Go Go.ChangeShapes Go.WideShapes
/-! table.Of. -/
def isB (w s : ByteArray) : Bool := decide (w = ⟨#[]⟩) || decide (w = s)
def ofB (a b p : ByteArray) (f : Fct) : Bool := isB a f.a && isB b f.b && isB p f.p
theorem is_ac (w s : ByteArray) : AC Try.prog noG 65 [.d (.c (.string w)), .d (.c (.string s))] [] (fun v r' => v = .d (.c (.bool (isB w s))) ∧ r' = []) := by
  refine AC.fit ?_
  refine AC_of_R (N := 12) (res := [.tmp 4]) ty_ok Try.call65 Try.func65 rfl rfl rfl (Nat.le_of_ble_eq_true rfl) ?_
  by_cases h1 : w = ⟨#[]⟩
  · have e : isB w s = true := by rw [isB, decide_eq_true h1]; rfl
    rw [e]
    refine rn1 @h1 ?_
    exact fv0 [] []
  · by_cases h2 : w = s
    · have e : isB w s = true := by rw [isB, decide_eq_false h1, decide_eq_true h2]; rfl
      rw [e]
      subst h2
      refine rn1 @h1 ?_
      exact fv0 [] []
    · have e : isB w s = false := by rw [isB, decide_eq_false h1, decide_eq_false h2]; rfl
      rw [e]
      refine rn1 (jn @h1 @h2) ?_
      exact fv0 [] []
/-- What Of lays: the words asked for, the question, the table, the filter. -/
def ofR (a b p : ByteArray) : Rs := [some (.obj [.d (.c (.string a))]), some (.obj [.d (.c (.string b))]), some (.obj [.d (.c (.string p))]), some (.obj [.fn (.func 65) [] []])]
theorem of_hand (a b p : ByteArray) (rc : Rs) (i j k l : Nat) (hi : rc[i]? = some (some (.obj [.d (.c (.string a))]))) (hj : rc[j]? = some (some (.obj [.d (.c (.string b))]))) (hk : rc[k]? = some (some (.obj [.d (.c (.string p))]))) (hl : rc[l]? = some (some (.obj [.fn (.func 65) [] []]))) : HandOK (nm [i, j, k, l] rc.length) rc (ofR a b p) [i, j, k, l] := by
  refine ⟨fun y h => ?_, fun y h => ?_, fun y h => ?_, fun y h => ?_, trivial⟩
  · injection h with h; subst h; rw [hi]; rfl
  · injection h with h; subst h; rw [hj]; rfl
  · injection h with h; subst h; rw [hk]; rfl
  · injection h with h; subst h; rw [hl]; rfl
theorem of_wf (a b p : ByteArray) : wfRs (ofR a b p).length (ofR a b p) = true := rfl
theorem of2_ac (a b p : ByteArray) (f : Fct) : AC Try.prog noG 66 [.d (.agg (fctE f)), .ptr 3 0, .ptr 0 0, .ptr 1 0, .ptr 2 0] (ofR a b p) (fun v r' => v = .d (.c (.bool (ofB a b p f))) ∧ r' = ofR a b p) := by
  refine AC.fit ?_
  refine AC_of_R (N := 26) (res := [.tmp 6]) ty_ok Try.call66 Try.func66 rfl rfl rfl (Nat.le_of_ble_eq_true rfl) ?_
  have k1 := is_ac a f.a
  have k2 := is_ac b f.b
  have k3 := is_ac p f.p
  rw [ofB]
  generalize isB a f.a = c1 at *
  generalize isB b f.b = c2 at *
  generalize isB p f.p = c3 at *
  refine rn1 (jn @ofR.eq_1 @fctE.eq_1) ?_
  refine HO_pureA ty_ok k1 ?_
  cases c1 with
  | false =>
    refine rn0 ?_
    exact fv1 [0,1,2,3] [] @ofR.eq_1
  | true =>
    refine rn0 ?_
    refine HO_pureA ty_ok k2 ?_
    cases c2 with
    | false =>
      refine rn0 ?_
      exact fv1 [0,1,2,3] [] @ofR.eq_1
    | true =>
      refine rn0 ?_
      refine HO_pureA ty_ok k3 ?_
      refine rn0 ?_
      exact fv1 [0,1,2,3] [] @ofR.eq_1
def bO (L : List Fct) (m : Int) (a b p : ByteArray) : Rs := tbl L m ++ ofR a b p ++ [some (.obj [.ptr 0 0]), some (.obj [.fn (.func 66) [] [.ptr 4 0, .ptr 1 0, .ptr 2 0, .ptr 3 0]])]
end Go.Proofs.Ythdjblfiiogmgaa
