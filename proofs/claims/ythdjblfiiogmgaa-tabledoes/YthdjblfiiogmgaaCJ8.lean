/- Parts of the proof: Brk, TbGat, TbTk. -/
import Derived.Test.YthdjblfiiogmgaaCJ0
import Derived.Test.YthdjblfiiogmgaaCJ7
import Derived.Test.YthdjblfiiogmgaaCJ6
set_option linter.unusedVariables false
set_option linter.unusedSimpArgs false
set_option maxRecDepth 100000
namespace Go.Proofs.Ythdjblfiiogmgaa
open Go Go.ChangeShapes Go.WideShapes
/-! Ranges over functions that are left ahead of their end. -/
/-- A loop's record behind a round that ended so. -/
def endL (L : Loop) (j : Option Code) : Loop := { L with state := if j.isNone then .ready else .done, pending := j }
theorem endL_none {L : Loop} (h1 : L.state = .ready) (h2 : L.pending = none) : endL L none = L := by
  obtain ⟨a, b, c, d, e, f, g, h⟩ := L
  simp only at h1 h2
  subst h1 h2
  rfl
/-- The form in which a round's end is asked. -/
def roundKB (P : Program) (ti : Ti) (m : Nat) (q : Option Code → Rs → Prop) (ob : Option Res) : Kt
  | .normal, σ => ∃ re L F, q none re ∧ FitR (m + 1) L F σ [] (re ++ [ob])
  | .exit id, σ => ∃ re L F, q (some (.exit id)) re ∧ FitR (m + 1) L F σ [] (re ++ [ob])
  | .ret, σ => ∃ re L F, q (some .ret) re ∧ FitR (m + 1) L F σ [] (re ++ [ob])
  | _, _ => False
def assignKB (P : Program) (ti : Ti) (G : GR) (N : Nat) (body : Code) (m l : Nat) (L : Loop) (q : Option Code → Rs → Prop) : Kt
  | .normal, σ => σ.r[m]? = some (some (.ob l (.loop L))) ∧ HC P ti G N body (.base (roundKB P ti m q (some (.ob l (.loop { L with state := .busy }))))) ⟨σ.b, σ.l, σ.r.set m (some (.ob l (.loop { L with state := .busy })))⟩
  | _, _ => False
def OutR (G : GR) (E : Env) (r : Rs) (w : World) (O : AV → Rs → Prop) (y : Value) (w' : World) : Prop := ∃ v x r' E', Ending.returned y = .returned x ∧ O v r' ∧ RA E' r' w' v x ∧ Go.Proofs.Ythdjblfiiogmgaa.Good G E' r' w' ∧ Step E r w E' r' w'
section
variable {P : Program} {ti : Ti} {G : GR} {N : Nat}
/-- One round, out of the walk of its body. -/
theorem AY_of_bodyB {assign body : Code} {p l m : Nat} {L : Loop} {st : List (Nat × AV)} {x : AV} {re : Rs} {q : Option Code → Rs → Prop} (hm : re.length = m) (hro : G.ro = none) (hn0 : G.n0 = none)
    (hL1 : L.state = .ready) (hL2 : L.pending = none) (hL3 : L.params = #[p]) (hL4 : L.assign = assign) (hL5 : L.body = body) (hkeys : ∀ y ∈ st, y.1 < N) (hp : p < N) (hq : ∀ j s, q j s → s.length = m)
    (hb : HC P ti (G.inR l) N assign (.base (assignKB P ti (G.inR l) N body m l L q)) ⟨fun _ => .top, (p, x) :: st, re ++ [some (.ob l (.loop L))]⟩) :
    AY P G l L (slotsOf N st) x (re ++ [some (.ob l (.loop L))]) (fun v r' => ∃ j s, q j s ∧ v = .d (.c (.bool j.isNone)) ∧ r' = s ++ [some (.ob l (.loop (endL L j)))]) := by
  intro E w vals hG hA
  simp only [RAL, RA] at hA
  obtain ⟨y, rest, he, ⟨hy, hsl⟩, x', rest', he2, hx, he3⟩ := hA
  have hv : vals = #[y, x'] := by
    apply Array.ext'
    rw [he, he2, he3]
  have hrow : (re ++ [some (Res.ob l (.loop L))])[m]? = some (some (.ob l (.loop L))) := by rw [List.getElem?_append_right (by omega), hm, Nat.sub_self]; rfl
  obtain ⟨b, hbl, hT, hb1, hh, hno⟩ := hG.map m (.o l (.loop L)) hrow
  subst hb1
  have hsz : L.tmps.size = N := by
    have := RAL_length _ _ hsl
    simpa [slotsOf] using this
  have hy1 := run_yield (P := P) (args := #[x']) hh (by rw [hL3]; rfl)
  refine ⟨y, x', hv, L.fn, _, L.assign, L.body, hy1, ?_⟩
  refine roundIn_of_wpIn (F := Fence.wide) trivial ?_
  rw [hL4, hL5, hL3]
  have htm : (#[p].zip #[x']).foldl (fun tmps (t, a) => tmps.setIfInBounds t a) L.tmps = L.tmps.setIfInBounds p x' := by simp
  rw [htm]
  have hR : Rel (G.inR l) N E ⟨fun _ => .top, (p, x) :: st, re ++ [some (.ob l (.loop L))]⟩ { tmps := L.tmps.setIfInBounds p x', defers := [] } w := by
    refine ⟨by simp [hsz], fun i => ?_, Good.gr (G' := G.inR l) (G := G) rfl hG, rfl⟩
    show RA E _ w (lk ((p, x) :: st) (fun _ => .top) i) ((L.tmps.setIfInBounds p x').getD i undef)
    rw [getD_setIfInBounds]
    by_cases hi : i = p
    · subst hi
      simp only [lk, if_true, hsz, hp, and_true]
      exact hx
    · simp only [lk, hi, if_false, false_and]
      exact slots_get hsl hkeys i
  have h1 := hb E _ w E _ w hR (Step.refl _ _ _)
  refine wpIn_mono h1 fun e a1 w1 hq1 => ?_
  obtain ⟨σ1, E1, hk1, hR1, hS1⟩ := hq1
  cases e with
  | normal =>
    obtain ⟨hr1, hbody⟩ := hk1
    obtain ⟨b1, hbl1, hT1, hb1, hh1, hno1⟩ := hR1.good.map m (.o l (.loop L)) hr1
    subst hb1
    refine ⟨World.setOb w1 l (.loop { L with state := .busy }), run_beginRound hh1 hL1, ?_⟩
    have hlt1 := (Array.getElem?_eq_some_iff.1 hh1).1
    have hg2 := good_setMap (l' := .o l (.loop { L with state := .busy })) hR1.good hr1 hbl1 (.loop { L with state := .busy }) ⟨rfl, setOb_same hlt1, rfl⟩
    have hs2 := step_setMap (l' := .o l (.loop { L with state := .busy })) hR1.good hr1 hbl1 (.loop { L with state := .busy })
    have hR2 : Rel (G.inR l) N E1 ⟨σ1.b, σ1.l, σ1.r.set m (some (.ob l (.loop { L with state := .busy })))⟩ a1 (World.setOb w1 l (.loop { L with state := .busy })) :=
      ⟨hR1.size, fun i => (hR1.slot i).step hs2, hg2, hR1.defers⟩
    refine wpIn_mono (hbody E _ w E1 a1 _ hR2 (hS1.trans hs2)) fun e a2 w2 hq2 => ?_
    obtain ⟨σ2, E2, hk2, hR3, hS3⟩ := hq2
    have key : ∀ (j : Option Code), (∃ s L' F', q j s ∧ FitR (m + 1) L' F' σ2 [] (s ++ [some (.ob l (.loop { L with state := .busy }))])) → ∃ v w', (Instr.endRound l j).run P w2 = .ok v w' ∧ OutR G E (re ++ [some (.ob l (.loop L))]) w (fun v r' => ∃ j s, q j s ∧ v = .d (.c (.bool j.isNone)) ∧ r' = s ++ [some (.ob l (.loop (endL L j)))]) v w' := by
      rintro j ⟨s, L', F', hqs, hfit⟩
      obtain ⟨hR4, hS4⟩ := hR3.fitR hS3 (m := m + 1) (by simp [hm]) hfit
      have hsl2 := hq j s hqs
      have hrow2 : (s ++ [some (Res.ob l (.loop { L with state := .busy }))])[m]? = some (some (.ob l (.loop { L with state := .busy }))) := by rw [List.getElem?_append_right (by omega), hsl2, Nat.sub_self]; rfl
      obtain ⟨b2, hbl2, hT2, hb2, hh2, hno2⟩ := hR4.good.map m (.o l (.loop { L with state := .busy })) hrow2
      subst hb2
      have hlt2 := (Array.getElem?_eq_some_iff.1 hh2).1
      have hend := run_endRound (P := P) j hh2
      have hg3 := good_setMap (l' := .o l (.loop (endL L j))) hR4.good hrow2 hbl2 (.loop (endL L j)) ⟨rfl, setOb_same hlt2, rfl⟩
      have hs3 := step_setMap (l' := .o l (.loop (endL L j))) hR4.good hrow2 hbl2 (.loop (endL L j))
      have hset : (s ++ [some (Res.ob l (.loop { L with state := .busy }))]).set m (some (.ob l (.loop (endL L j)))) = s ++ [some (.ob l (.loop (endL L j)))] := by
        rw [List.set_append_right _ _ (by omega), hsl2, Nat.sub_self]; rfl
      rw [hset] at hg3 hs3
      refine ⟨.bool j.isNone, World.setOb w2 l (.loop (endL L j)), hend, ?_⟩
      exact ⟨.d (.c (.bool j.isNone)), .bool j.isNone, _, _, rfl, ⟨j, s, hqs, rfl, rfl⟩, by simp only [RA, RD]; first | exact ⟨rfl, rfl⟩ | rfl | trivial, Good.gr (G' := G) (G := G.inR l) rfl hg3, hS4.trans hs3⟩
    cases e with
    | normal => exact key none hk2
    | exit id => exact key (some (.exit id)) hk2
    | ret => exact key (some .ret) hk2
    | goto l => exact hk2.elim
    | panic ch => exact hk2.elim
    | outgrown => exact hk2.elim
  | exit id => exact hk1.elim
  | ret => exact hk1.elim
  | goto l => exact hk1.elim
  | panic ch => exact hk1.elim
  | outgrown => exact hk1.elim
/-- A range over a function. -/
theorem HC_rangeB {g : Operand} {ps : Array Tmp} {assign body : Code} {K : KD} {st : List (Nat × AV)} {re : Rs} {f : FuncId} {first cap : List AV} {p n m : Nat} (Q : Option Code → Rs → Prop) (args : Nat → Loop → List AV)
    (hro : G.ro = none) (hn0 : G.n0 = some n) (hps : ps = #[p]) (hm : re.length = m) (hg : (⟨fun _ => .top, st, re⟩ : St).ev G g = .fn (.func f) first cap)
    (hw : ∀ l L, WkAs (first ++ [.yv l L (slotsOf N st)] ++ cap) (args l L))
    (h : ∀ l L, L.state = .ready → L.pending = none → L.params = #[p] → L.assign = assign → L.body = body → AC P G f (args l L) (re ++ [some (.ob l (.loop L))]) (fun v r' => ∃ j s, Q j s ∧ r' = s ++ [some (.ob l (.loop (endL L j)))]))
    (hQ : ∀ j s, Q j s → s.length = m ∧ wfRs m s = true) (hwst : wfSt m st = true)
    (hk : ∀ s, Q none s → A P ti G N K .normal ⟨fun _ => .top, st, s⟩) (hkB : ∀ c s, Q (some c) s → HC P ti G N c K ⟨fun _ => .top, st, s⟩) : HC P ti G N (.rangeFunc g ps assign body) K ⟨fun _ => .top, st, re⟩ := by
  intro E0 r0 w0 E a w hR hS
  have hF : fcR G = Fence.wide := by rw [fcR, hro]; rfl
  rw [hF]
  refine wpIn_rangeFunc ?_
  intro fn _
  have hev := ev_sound hR g
  rw [hg] at hev
  simp only [RA] at hev
  obtain ⟨vs, us, hp, hr1, hr2⟩ := hev
  obtain ⟨L0, hL0⟩ : ∃ L0 : Loop, L0 = { state := .ready, pending := none, fn, tmps := a.tmps, params := ps, assign, body, defers := w.heap.size } := ⟨_, rfl⟩
  obtain ⟨w1, hw1⟩ : ∃ w1, w1 = (w.alloc (.deferred (some []))).alloc (.loop L0) := ⟨_, rfl⟩
  obtain ⟨hD, hLp, hsz⟩ := allocs_new w (.deferred (some [])) (.loop L0)
  rw [← hw1] at hD hLp hsz
  have hs1 := step_alloc hR.good (.deferred (some [])) 0
  have hg1 := good_alloc hR.good (.deferred (some [])) 0
  have hs2 := step_push hg1 (.loop L0) 0 (some (.ob (w.heap.size + 1) (.loop L0)))
  have hsa : (w.alloc (.deferred (some []))).heap.size = w.heap.size + 1 := by simp
  have hnew : ∀ (E2 : Env) (r2 : Rs), E2.T (w.heap.size + 1) = 0 → NewOK E2 r2 w1 (w.heap.size + 1) (.ob (w.heap.size + 1) (.loop L0)) := fun E2 r2 hT2 => by
    refine ⟨fun k hk => ?_, fun k hk => ?_, fun k hk => ?_⟩
    · cases hk
    · cases hk
    · injection hk with hk
      subst hk
      exact ⟨hT2, rfl, hLp, rfl⟩
  have hg2 := good_push hg1 (.loop L0) 0 (.ob (w.heap.size + 1) (.loop L0)) (by rw [← hw1, hsa]; exact hnew _ _ (updN_same _ _ _))
  rw [← hw1] at hs2 hg2
  have hst := hs1.trans hs2
  have hbl : ∀ i, i < re.length → (⟨updN (⟨updN E.T w.heap.size 0, E.bl⟩ : Env).T (w.alloc (.deferred (some []))).heap.size 0, updN (⟨updN E.T w.heap.size 0, E.bl⟩ : Env).bl re.length (some (w.alloc (.deferred (some []))).heap.size)⟩ : Env).bl i = E.bl i := fun i hi => updN_ne _ _ _ (by omega)
  have hbm : (⟨updN (⟨updN E.T w.heap.size 0, E.bl⟩ : Env).T (w.alloc (.deferred (some []))).heap.size 0, updN (⟨updN E.T w.heap.size 0, E.bl⟩ : Env).bl re.length (some (w.alloc (.deferred (some []))).heap.size)⟩ : Env).bl re.length = some (w.heap.size + 1) := by rw [← hsa]; exact updN_same _ _ _
  change Step E re w _ (re ++ [some (Res.ob (w.heap.size + 1) (.loop L0))]) w1 at hst
  change Go.Proofs.Ythdjblfiiogmgaa.Good G _ (re ++ [some (Res.ob (w.heap.size + 1) (.loop L0))]) w1 at hg2
  generalize (⟨updN (⟨updN E.T w.heap.size 0, E.bl⟩ : Env).T (w.alloc (.deferred (some []))).heap.size 0, updN (⟨updN E.T w.heap.size 0, E.bl⟩ : Env).bl re.length (some (w.alloc (.deferred (some []))).heap.size)⟩ : Env) = E1 at *
  have hC := h (w.heap.size + 1) L0 (by rw [hL0]) (by rw [hL0]) (by rw [hL0, ← hps]) (by rw [hL0]) (by rw [hL0])
  refine ⟨w.heap.size + 1, [{ target := .collected w.heap.size, args := #[] }], w1, { target := .fn (.func f) us, args := vs ++ #[Value.func (.yield (w.heap.size + 1)) #[] #[]] }, w1, f,
    vs ++ #[Value.func (.yield (w.heap.size + 1)) #[] #[]] ++ us, w1, ?_, ?_, fun f' _ => trivial, ?_, fun hd => (by cases hd), ?_⟩
  · rw [hw1, hL0]; exact run_enterLoop_outer _ _ _ _ _
  · simp only [resolve, rangeCall, hp, Deferred.ofValue]
    simp [Act.eval, Frame.eval]
  · simp [invoke, go_sem, hC.1]
  · have hslots : RAL E1 (re ++ [some (Res.ob (w.heap.size + 1) (.loop L0))]) w1 (slotsOf N st) L0.tmps.toList := by
      rw [show L0.tmps = a.tmps by rw [hL0]]
      exact slots_put hR.size fun i => (hR.slot i).step hst
    have hargs : RAL E1 (re ++ [some (Res.ob (w.heap.size + 1) (.loop L0))]) w1 (first ++ [.yv (w.heap.size + 1) L0 (slotsOf N st)] ++ cap) (vs ++ #[Value.func (.yield (w.heap.size + 1)) #[] #[]] ++ us).toList := by
      simp only [Array.toList_append]
      exact RAL_append _ _ _ _ (RAL_append _ _ _ _ (hr1.step hst) ⟨_, _, rfl, ⟨rfl, hslots⟩, rfl⟩) (hr2.step hst)
    refine callsIn_wide.2 ((hC.2 E1 w1 _ hg2 (WkAs_sound (hw _ _) hargs)).mono fun e w' hq => ?_)
    obtain ⟨v, x, r', E', rfl, ⟨j, s, hQs, rfl⟩, hra, hgood, hst3⟩ := hq
    obtain ⟨hsl, hwfs⟩ := hQ j s hQs
    have hrow : (s ++ [some (Res.ob (w.heap.size + 1) (.loop (endL L0 j)))])[m]? = some (some (.ob (w.heap.size + 1) (.loop (endL L0 j)))) := by rw [List.getElem?_append_right (by omega), hsl, Nat.sub_self]; rfl
    obtain ⟨b, hb0, hT, hb1, hh, hno⟩ := hgood.map m (.o (w.heap.size + 1) (.loop (endL L0 j))) hrow
    subst hb1
    have hlt := (Array.getElem?_eq_some_iff.1 hh).1
    have hg3 := good_setMap (l' := .o (w.heap.size + 1) (.loop { endL L0 j with state := .exhausted })) hgood hrow hb0 (.loop { endL L0 j with state := .exhausted }) ⟨rfl, setOb_same hlt, rfl⟩
    have hs3 := step_setMap (l' := .o (w.heap.size + 1) (.loop { endL L0 j with state := .exhausted })) hgood hrow hb0 (.loop { endL L0 j with state := .exhausted })
    have hset : ∀ y, (s ++ [some (Res.ob (w.heap.size + 1) (.loop (endL L0 j)))]).set m y = s ++ [y] := fun y => by
      rw [List.set_append_right _ _ (by omega), hsl, Nat.sub_self]; rfl
    rw [hset] at hg3 hs3
    have hW : WeakR (s ++ [some (Res.ob (w.heap.size + 1) (.loop { endL L0 j with state := .exhausted }))]) s := ⟨by simp, fun i x hi => by
      rw [List.getElem?_append_left (List.getElem?_eq_some_iff.1 hi).1]; exact hi⟩
    have hstA := (hst.trans hst3).trans hs3
    have hstB := hstA.weak hW (by omega)
    have hg4 := hg3.weak hW (by rw [hsl]; exact hwfs)
    have hOwD : ¬ Own E1 (re ++ [some (Res.ob (w.heap.size + 1) (.loop L0))]) w.heap.size := fun ⟨i, y, hi, hbi⟩ => by
      rcases Nat.lt_or_ge i re.length with h1 | h1
      · rw [List.getElem?_append_left h1] at hi
        rw [hbl i h1] at hbi
        have := hR.good.own_lt ⟨i, y, hi, hbi⟩
        omega
      · have h2 := (List.getElem?_eq_some_iff.1 hi).1
        simp only [List.length_append, List.length_singleton] at h2
        have : i = re.length := by omega
        subst this
        rw [hbm] at hbi
        injection hbi with hbi
        omega
    have hd3 := hst3.block w.heap.size (by omega) hOwD
    have hOwD2 : ¬ Own E' s w.heap.size := fun ⟨i, y, hi, hbi⟩ => by
      have hi2 : (s ++ [some (Res.ob (w.heap.size + 1) (.loop (endL L0 j)))])[i]? = some (some y) := by rw [List.getElem?_append_left (List.getElem?_eq_some_iff.1 hi).1]; exact hi
      rcases hst3.own _ ⟨i, y, hi2, hbi⟩ with h1 | h1
      · exact hOwD h1
      · omega
    have hRel : Rel G N E' ⟨fun _ => .top, st, s⟩ { a with defers := [{ target := .collected w.heap.size, args := #[] }] ++ a.defers } (World.setOb w' (w.heap.size + 1) (.loop { endL L0 j with state := .exhausted })) := by
      refine ⟨hR.size, fun i => ?_, hg4, ?_⟩
      · have hra := (hR.slot i).step hstA
        show RA E' s _ (lk st (fun _ => .top) i) _
        change RA E' _ _ (lk st (fun _ => .top) i) _ at hra
        refine RA_weak hW _ _ ?_ hra
        rcases lk_cases st (fun _ => AV.top) i with ⟨v, hv, he⟩ | ⟨_, he⟩
        · rw [he, hsl]; exact wfSt_mem hwst hv
        · rw [he]; rfl
      have hd := hR.defers.step hstB
      rw [hn0] at hd ⊢
      refine ⟨⟨hd.1.1, ?_⟩, fun d hm => ?_⟩
      · refine List.nodup_cons.2 ⟨fun hm => ?_, hd.1.2⟩
        have := hR.defers
        rw [hn0] at this
        obtain ⟨D, h1, _, h3, _⟩ := this.2 _ hm
        have := (Array.getElem?_eq_some_iff.1 h3).1
        injection h1 with h1
        injection h1 with h1
        omega
      · simp only [List.cons_append, List.nil_append, List.mem_cons] at hm
        rcases hm with rfl | hm
        · refine ⟨w.heap.size, rfl, ?_, ?_, hOwD2⟩
          · have := hR.defers
            rw [hn0] at this
            exact this.1.1
          · exact (setMap_other w' _ _ (by omega)).trans (hd3.1.trans hD)
        · exact hd.2 d hm
    refine ⟨j, World.setOb w' (w.heap.size + 1) (.loop { endL L0 j with state := .exhausted }), ?_, ?_⟩
    · exact run_endLoop (P := P) hh (by rw [hL0]; cases j <;> simp [endL])
    · cases j with
      | none => exact ⟨⟨fun _ => .top, st, s⟩, E', hk s hQs, hRel, hS.trans hstB⟩
      | some c =>
        have h4 := hkB c s hQs E0 r0 w0 E' _ _ hRel (hS.trans hstB)
        rw [hF] at h4
        exact h4
end
end Go.Proofs.Ythdjblfiiogmgaa

set_option linter.unusedVariables false
set_option linter.unusedSimpArgs false
set_option maxRecDepth 100000
namespace Go.Proofs.Ythdjblfiiogmgaa
open Go Go.ChangeShapes Go.WideShapes
/-! gather over All and over Of, up to a number. -/
/-- A beginning of a list (below 0: all). -/
def begT (q : Int) (l : List Fct) : List Fct := if q < 0 then l else l.take q.toNat
def okQ (q : Int) (xs : List Fct) : Prop := 0 ≤ q → (xs.length : Int) ≤ q
theorem begT_all {q : Int} {xs : List Fct} (h : okQ q xs) : begT q xs = xs := by
  rw [begT]; split
  · rfl
  · rw [List.take_of_length_le]; have := h (by omega); omega
theorem begT_full {q : Int} {xs ys l : List Fct} (h : (xs.length : Int) = q) (hl : l = xs ++ ys) : begT q l = xs := by
  rw [begT, if_neg (by omega), hl]
  have : q.toNat = xs.length := by omega
  rw [this, List.take_left]
theorem okQ_snoc {q : Int} {xs : List Fct} {f : Fct} (h : okQ q xs) (hn : ¬ (xs.length : Int) = q) : okQ q (xs ++ [f]) := by
  intro h0
  have := h h0
  rw [List.length_append, List.length_singleton]; omega
/-- What a round of gather comes to. -/
def rdQ (R : List Fct → Rs) (q : Int) (xs : List Fct) (f : Fct) (j : Option Code) (s : Rs) : Prop := ((xs.length : Int) = q ∧ j = some (.exit 0) ∧ s = R xs) ∨ (¬ (xs.length : Int) = q ∧ j = none ∧ s = R (xs ++ [f]))
/-- .. and gather's range. -/
def jQ (q : Int) (l : List Fct) : Option Code := if 0 ≤ q ∧ q < l.length then some (.exit 0) else none
def rgQ (R : List Fct → Rs) (q : Int) (l : List Fct) (j : Option Code) (s : Rs) : Prop := s = R (begT q l) ∧ j = jQ q l
theorem jQ_or (q : Int) (l : List Fct) : jQ q l = none ∨ jQ q l = some (.exit 0) := by
  rw [jQ]; split
  · exact .inr rfl
  · exact .inl rfl
theorem jQ_all {q : Int} {l : List Fct} (h : okQ q l) : jQ q l = none := by
  rw [jQ, if_neg]; rintro ⟨h1, h2⟩; have := h h1; omega
def gOq (L : List Fct) (m : Int) (a b p : ByteArray) (q : Int) (xs : List Fct) : Rs := bO L m a b p ++ [some (.obj [.d (.c (.int .i64 q))]), some (.obj [.sl (.own 9) 4 xs.length (flatE fctE xs)]), some (.tok (4 * xs.length))]
def gOst : List (Nat × AV) := [(3, .ptr 7 0), (5, .ptr 8 0), (10, .fn (.func 85) [] [.ptr 5 0, .ptr 6 0])]
def soO (L : List Fct) (l : Nat) (Lp : Loop) (sl : List AV) (i : Nat) : List (Nat × AV) := [(0, .yv l Lp sl), (1, .ptr 5 0), (2, .ptr 6 0), (11, .d (.sl 4 L.length (flatE fctE L))), (12, .d (.c (.int .i64 L.length))), (13, .d (.c (.int .i64 i)))]
set_option maxHeartbeats 800000 in
theorem some1O_ac (L : List Fct) (hL : okB L) (m : Int) (hm : m ≠ 0) (a b p : ByteArray) (q : Int) (l : Nat) (Lp : Loop) (h1 : Lp.state = .ready) (h2 : Lp.pending = none)
    (hY : ∀ xs f, xs.length < L.length → AY Try.prog noG l Lp (slotsOf 21 gOst) (.d (.agg (fctE f))) (gOq L m a b p q xs ++ [some (.ob l (.loop Lp))]) (fun v r' => ∃ j s, rdQ (gOq L m a b p q) q xs f j s ∧ v = .d (.c (.bool j.isNone)) ∧ r' = s ++ [some (.ob l (.loop (endL Lp j)))])) :
    AC Try.prog noG 85 [.yv l Lp (slotsOf 21 gOst), .ptr 5 0, .ptr 6 0] (gOq L m a b p q [] ++ [some (.ob l (.loop Lp))]) (fun v r' => v = .tup [] ∧ r' = gOq L m a b p q (begT q (L.filter (ofB a b p))) ++ [some (.ob l (.loop (endL Lp (jQ q (L.filter (ofB a b p))))))]) := by
  refine AC.fit ?_
  refine AC_of_R (N := 30) (res := []) ty_ok Try.call85 Try.func85 rfl rfl rfl (Nat.le_of_ble_eq_true rfl) ?_
  have k := bnone_ac L m hm
  have hl := hL.len
  refine rn1 (jn @gOq.eq_1 (jn @bO.eq_1 (jn @ofR.eq_1 (jn @tbl.eq_1 @tblC.eq_1)))) ?_
  refine HO_callX ty_ok [0] k (tbl_hand _ _ _ _ rfl) (tbl_wf _ _) ?_
  rintro v r' ⟨rfl, rfl⟩ _
  refine rn1 (jn @tbl.eq_1 @tblC.eq_1) ?_
  refine HC_loopR (fun i : Nat => soO L l Lp (slotsOf 21 gOst) i) (fun i => gOq L m a b p q ((L.take i).filter (ofB a b p)) ++ [some (.ob l (.loop Lp))]) (fun i => i ≤ L.length ∧ okQ q ((L.take i).filter (ofB a b p))) (fun i => L.length - i) 0 [0, 1, 2, 3, 4, 5, 6, 7, 8, 9, 10] [] ⟨Nat.zero_le _, fun h => h⟩ ?_ ?_
  · exact ft1 (jn @soO.eq_1 (jn @gOq.eq_1 (jn @bO.eq_1 (jn @ofR.eq_1 (jn @tbl.eq_1 (jn @tblC.eq_1 @List.take_zero.{0}))))))
  intro i ⟨hi1, hiq⟩
  refine HC_of_R ty_ok ?_
  by_cases hlt : i < L.length
  · have hi : (i : Int) < L.length := by omega
    have hd := flatE_drop fctE_len L i hlt
    have hle := flatE_len fctE_len L
    have hgl := hL.ok _ (List.getElem_mem hlt)
    have hy := hY ((L.take i).filter (ofB a b p)) L[i] (by have := List.length_filter_le (ofB a b p) (L.take i); rw [List.length_take] at this; omega)
    have hst : (L.take (i + 1)).filter (ofB a b p) = (L.take i).filter (ofB a b p) ++ [L[i]].filter (ofB a b p) := by rw [List.take_succ_eq_append_getElem hlt, List.filter_append]
    have hdr : L.filter (ofB a b p) = (L.take i).filter (ofB a b p) ++ (L[i] :: L.drop (i + 1)).filter (ofB a b p) := by
      rw [← List.filter_append, ← List.drop_eq_getElem_cons hlt, List.take_append_drop]
    generalize L[i] = g at *
    have ka := of2_ac a b p g
    have kk := cloneC_d g.l.length (flatE cstE g.l) (by rw [flatE_len cstE_len]; omega) hgl
    simp only [fctE, List.cons_append, List.nil_append] at hd ka hy
    refine rn1 (jn @soO.eq_1 (jn @gOq.eq_1 (jn @bO.eq_1 (jn @ofR.eq_1 (jn @tbl.eq_1 (jn @tblC.eq_1 (jn @hi (jn @hd @hle)))))))) ?_
    (repeat (refine And.intro (by omega) ?_))
    refine HO_callX ty_ok [1, 2, 3, 4] ka (of_hand _ _ _ _ _ _ _ _ rfl rfl rfl rfl) (of_wf _ _ _) ?_
    rintro v r' ⟨rfl, rfl⟩ _
    cases hso : ofB a b p g with
    | false =>
      have e5 : [g].filter (ofB a b p) = [] := by rw [List.filter_cons, hso]; rfl
      rw [e5, List.append_nil] at hst
      refine rn1 @ofR.eq_1 ?_
      rw [← hst] at hiq ⊢
      refine ⟨i + 1, ⟨by omega, hiq⟩, by omega, [0, 1, 2, 3, 4, 5, 6, 7, 8, 9, 10], [], ?_⟩
      exact ft1 (jn @soO.eq_1 (jn @gOq.eq_1 (jn @bO.eq_1 (jn @ofR.eq_1 (jn @tbl.eq_1 @tblC.eq_1)))))
    | true =>
    have e5 : [g].filter (ofB a b p) = [g] := by rw [List.filter_cons, hso]; rfl
    have e6 : (g :: L.drop (i + 1)).filter (ofB a b p) = g :: (L.drop (i + 1)).filter (ofB a b p) := by rw [List.filter_cons, hso]; rfl
    rw [e5] at hst
    rw [e6] at hdr
    refine rn1 @ofR.eq_1 ?_
    refine HO_pureA ty_ok kk ?_
    refine rn0 ?_
    refine HO_yield ty_ok [0,1,2,3,4,5,6,7,8,9,10] hy rfl rfl rfl rfl (by kernel_rfl) (by decide) ⟨(by simp), (by repeat' (first | exact trivial | exact WeakA.refl _ | exact WeakA.toD rfl | refine ⟨?_, ?_⟩)), rfl, (by repeat' (first | exact trivial | (intro y h; injection h with h; subst h; rfl) | (intro y h; cases h; done) | refine ⟨?_, ?_⟩)), rfl⟩ ?_
    rintro v r' ⟨j, s, hq, rfl, rfl⟩ _
    rcases hq with ⟨hq, rfl, rfl⟩ | ⟨hq, rfl, rfl⟩
    · have e1 : begT q (L.filter (ofB a b p)) = (L.take i).filter (ofB a b p) := begT_full hq hdr
      have e2 : jQ q (L.filter (ofB a b p)) = some (.exit 0) := by rw [jQ, if_pos ⟨by omega, by rw [hdr, List.length_append, List.length_cons]; omega⟩]
      have e4 : (some (Code.exit 0)).isNone = false := rfl
      rw [e1, e2]
      refine rn1 (jn @gOq.eq_1 (jn @bO.eq_1 (jn @ofR.eq_1 (jn @tbl.eq_1 (jn @tblC.eq_1 @e4))))) ?_
      exact fv1 [0,1,2,3,4,5,6,7,8,9,10] [] (jn @gOq.eq_1 (jn @bO.eq_1 (jn @ofR.eq_1 (jn @tbl.eq_1 @tblC.eq_1))))
    · rw [endL_none h1 h2]
      have hq2 := okQ_snoc (f := g) hiq hq
      have e4 : (none : Option Code).isNone = true := rfl
      rw [← hst] at hq2 ⊢
      refine rn1 (jn @gOq.eq_1 (jn @bO.eq_1 (jn @ofR.eq_1 (jn @tbl.eq_1 (jn @tblC.eq_1 @e4))))) ?_
      refine ⟨i + 1, ⟨by omega, hq2⟩, by omega, [0, 1, 2, 3, 4, 5, 6, 7, 8, 9, 10], [], ?_⟩
      exact ft1 (jn @soO.eq_1 (jn @gOq.eq_1 (jn @bO.eq_1 (jn @ofR.eq_1 (jn @tbl.eq_1 @tblC.eq_1)))))
  · have hi : ¬ (i : Int) < L.length := by omega
    have hiL : i = L.length := by omega
    subst hiL
    rw [List.take_length] at hiq ⊢
    rw [begT_all hiq, jQ_all hiq, endL_none h1 h2]
    refine rn1 (jn @soO.eq_1 (jn @gOq.eq_1 (jn @bO.eq_1 (jn @ofR.eq_1 (jn @tbl.eq_1 (jn @tblC.eq_1 @hi)))))) ?_
    exact fv1 [0,1,2,3,4,5,6,7,8,9,10] [] (jn @gOq.eq_1 (jn @bO.eq_1 (jn @ofR.eq_1 (jn @tbl.eq_1 @tblC.eq_1))))
set_option maxHeartbeats 800000 in
theorem gathO_ac (L : List Fct) (hL : okB L) (m : Int) (hm : m ≠ 0) (a b p : ByteArray) (q : Int) : AC Try.prog noG 16 [.fn (.func 85) [] [.ptr 5 0, .ptr 6 0], .d (.c (.int .i64 q))] (bO L m a b p) (fun v r' => v = .d (.sl 4 (begT q (L.filter (ofB a b p))).length (flatE fctE (begT q (L.filter (ofB a b p))))) ∧ r' = bO L m a b p) := by
  refine AC.fit ?_
  refine ACM_of_R (N := 21) (res := [.tmp 4]) ty_ok Try.call16 Try.func16 rfl rfl rfl (Nat.le_of_ble_eq_true rfl) ?_
  intro n0
  refine rn1 (jn @bO.eq_1 (jn @ofR.eq_1 (jn @tbl.eq_1 @tblC.eq_1))) ?_
  refine R_range (HC_fitR gOst (gOq L m a b p q []) [0, 1, 2, 3, 4, 5, 6, 7, 8] [0] ?_ (HC_rangeB (p := 11) (m := 10) (rgQ (gOq L m a b p q) q (L.filter (ofB a b p))) (fun l Lp => [.yv l Lp (slotsOf 21 gOst), .ptr 5 0, .ptr 6 0]) rfl rfl rfl rfl rfl (fun l Lp => ⟨.refl _, .refl _, .refl _, trivial⟩) ?_ ?_ rfl ?_ ?_))
  · exact ft1 (jn @gOst.eq_1 (jn @gOq.eq_1 (jn @bO.eq_1 (jn @ofR.eq_1 (jn @tbl.eq_1 @tblC.eq_1)))))
  · intro l Lp h1 h2 h3 h4 h5
    refine AC.at ?_
    refine (some1O_ac L hL m hm a b p q l Lp h1 h2 fun xs f hx => ?_).mono fun v r' ⟨_, h⟩ => ⟨_, _, ⟨rfl, rfl⟩, h⟩
    refine AY_of_bodyB (ti := ty) (p := 11) (m := 10) (re := gOq L m a b p q xs) (q := rdQ (gOq L m a b p q) q xs f) rfl rfl rfl h1 h2 h3 h4 h5 (by decide) (by decide) (fun j s h => by rcases h with ⟨_, _, h⟩ | ⟨_, _, h⟩ <;> (rw [h]; rfl)) ?_
    refine HC_of_R ty_ok ?_
    have hxl := flatE_len fctE_len xs
    have e2 : flatE fctE (xs ++ [f]) = flatE fctE xs ++ [.c (.string f.a), .c (.string f.b), .c (.string f.p), .sl 3 f.l.length (flatE cstE f.l)] := by rw [flatE_app]; simp [flatE, fctE]
    have e3 : (xs ++ [f]).length = xs.length + 1 := by simp
    have hll := hL.len
    refine rn1 (jn @gOst.eq_1 (jn @gOq.eq_1 (jn @bO.eq_1 (jn @ofR.eq_1 (jn @tbl.eq_1 (jn @tblC.eq_1 @fctE.eq_1)))))) ?_
    by_cases hq : (xs.length : Int) = q
    · have hq' : ((xs.length : Int) = q) = True := eq_true hq
      refine ⟨rfl, HC_of_R ty_ok ?_⟩
      refine rn1 (jn @hxl @hq') ?_
      refine ⟨_, [0, 1, 2, 3, 4, 5, 6, 7, 8, 9, 10], [], .inl ⟨hq, rfl, rfl⟩, ?_⟩
      exact ft1 (jn @gOq.eq_1 (jn @bO.eq_1 (jn @ofR.eq_1 (jn @tbl.eq_1 (jn @tblC.eq_1 (jn @e2 (jn @e3 @hxl)))))))
    · refine ⟨rfl, HC_of_R ty_ok ?_⟩
      refine rn1 (jn @hxl @hq) ?_
      (repeat (refine And.intro (by omega) ?_))
      refine ⟨_, [0, 1, 2, 3, 4, 5, 6, 7, 8, 9, 10], [], .inr ⟨hq, rfl, rfl⟩, ?_⟩
      exact ft1 (jn @gOq.eq_1 (jn @bO.eq_1 (jn @ofR.eq_1 (jn @tbl.eq_1 (jn @tblC.eq_1 (jn @e2 (jn @e3 @hxl)))))))
  · rintro j s ⟨rfl, _⟩
    exact ⟨rfl, rfl⟩
  · rintro s ⟨rfl, _⟩
    refine rn1 (jn @gOst.eq_1 (jn @gOq.eq_1 (jn @bO.eq_1 (jn @ofR.eq_1 (jn @tbl.eq_1 @tblC.eq_1))))) ?_
    exact fv1 [0,1,2,3,4,5,6] [] (jn @bO.eq_1 (jn @ofR.eq_1 (jn @tbl.eq_1 @tblC.eq_1)))
  · rintro c s ⟨rfl, hc⟩
    rcases jQ_or q (L.filter (ofB a b p)) with hj | hj
    · rw [hj] at hc; cases hc
    rw [hj] at hc
    injection hc with hc; subst hc
    refine HC_of_R ty_ok ?_
    refine rn1 (jn @gOst.eq_1 (jn @gOq.eq_1 (jn @bO.eq_1 (jn @ofR.eq_1 (jn @tbl.eq_1 @tblC.eq_1))))) ?_
    exact fv1 [0,1,2,3,4,5,6] [] (jn @bO.eq_1 (jn @ofR.eq_1 (jn @tbl.eq_1 @tblC.eq_1)))
theorem bA_hand (L : List Fct) (m : Int) (rc : Rs) (i j k : Nat) (hi : rc[i]? = some (some (.obj (tblC L m)))) (hj : rc[j]? = some (some (.obj [.ptr i 0]))) (hk : rc[k]? = some (some (.obj [.fn (.func 59) [] []]))) : HandOK (nm [i, j, k] rc.length) rc (bA L m) [i, j, k] := by
  refine ⟨fun y h => ?_, fun y h => ?_, fun y h => ?_, trivial⟩
  · injection h with h; subst h
    rw [hi]; rfl
  · injection h with h; subst h
    rw [hj]; rfl
  · injection h with h; subst h
    rw [hk]; rfl
theorem bA_wf (L : List Fct) (m : Int) : wfRs (bA L m).length (bA L m) = true := rfl
theorem bO_hand (L : List Fct) (m : Int) (a b p : ByteArray) (rc : Rs) (i0 i1 i2 i3 i4 i5 i6 : Nat) (h0 : rc[i0]? = some (some (.obj (tblC L m)))) (h1 : rc[i1]? = some (some (.obj [.d (.c (.string a))]))) (h2 : rc[i2]? = some (some (.obj [.d (.c (.string b))]))) (h3 : rc[i3]? = some (some (.obj [.d (.c (.string p))])))
    (h4 : rc[i4]? = some (some (.obj [.fn (.func 65) [] []]))) (h5 : rc[i5]? = some (some (.obj [.ptr i0 0]))) (h6 : rc[i6]? = some (some (.obj [.fn (.func 66) [] [.ptr i4 0, .ptr i1 0, .ptr i2 0, .ptr i3 0]]))) : HandOK (nm [i0, i1, i2, i3, i4, i5, i6] rc.length) rc (bO L m a b p) [i0, i1, i2, i3, i4, i5, i6] := by
  refine ⟨fun y h => ?_, fun y h => ?_, fun y h => ?_, fun y h => ?_, fun y h => ?_, fun y h => ?_, fun y h => ?_, trivial⟩
  · injection h with h; subst h; rw [h0]; rfl
  · injection h with h; subst h; rw [h1]; rfl
  · injection h with h; subst h; rw [h2]; rfl
  · injection h with h; subst h; rw [h3]; rfl
  · injection h with h; subst h; rw [h4]; rfl
  · injection h with h; subst h; rw [h5]; rfl
  · injection h with h; subst h; rw [h6]; rfl
theorem bO_wf (L : List Fct) (m : Int) (a b p : ByteArray) : wfRs (bO L m a b p).length (bO L m a b p) = true := rfl
end Go.Proofs.Ythdjblfiiogmgaa

set_option linter.unusedVariables false
set_option linter.unusedSimpArgs false
set_option maxRecDepth 100000
namespace Go.Proofs.Ythdjblfiiogmgaa
open Go Go.ChangeShapes Go.WideShapes
/-! Tables with facts taken away, with no program in sight. -/
theorem tkB_filter {M : List Fct} (hs : srtF M) (g : Fct) : tkB M g = M.filter (fun x => !decide (x = g)) := by
  by_cases hg : g ∈ M
  · have hsp := tkB_split hs hg
    rw [tkB, if_pos hg]
    have hnd := srtF_nodup hs
    generalize M.take (posF M g) = A at *
    generalize M.drop (posF M g + 1) = B at *
    subst hsp
    rw [List.append_assoc] at hnd
    have h1 := List.nodup_append.1 hnd
    have h2 := List.nodup_cons.1 (show (g :: B).Nodup from h1.2.1)
    have hA : A.filter (fun x => !decide (x = g)) = A := List.filter_eq_self.2 fun x hx => by
      have := h1.2.2 x hx g (by simp)
      simpa using this
    have hB : B.filter (fun x => !decide (x = g)) = B := List.filter_eq_self.2 fun x hx => by
      have : x ≠ g := fun h => h2.1 (h ▸ hx)
      simpa using this
    rw [List.filter_append, List.filter_append, hA, hB]
    simp
  · rw [tkB, if_neg hg]
    exact (List.filter_eq_self.2 fun x hx => by
      have : x ≠ g := fun h => hg (h ▸ hx)
      simpa using this).symm
theorem okB.sub {L M : List Fct} (h : okB L) (hs : M.Sublist L) : okB M := ⟨Nat.le_trans hs.length_le h.len, fun g hg => h.ok g (hs.subset hg), List.Pairwise.sublist hs h.srt⟩
theorem tkB_ok {L : List Fct} (h : okB L) (f : Fct) : okB (tkB L f) := by
  rw [tkB_filter h.srt]; exact h.sub List.filter_sublist
theorem tkB_le {L : List Fct} (h : okB L) (f : Fct) : (tkB L f).length ≤ L.length := by
  rw [tkB_filter h.srt]; exact List.length_filter_le _ _
end Go.Proofs.Ythdjblfiiogmgaa
