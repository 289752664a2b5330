/- Parts of the proof: StOwn, StCpy, Drw. -/
import Derived.Test.YthdjblfiiogmgaaCJ7
import Derived.Test.YthdjblfiiogmgaaCJ0
set_option linter.unusedVariables false
set_option linter.unusedSimpArgs false
set_option maxRecDepth 100000
namespace Go.Proofs.Ythdjblfiiogmgaa
open Go Go.ChangeShapes Go.WideShapes
/-! A fact whose arguments lie in a row of the call's own: looked for, taken, copied, spoiled. -/
/-- A value that may be lent; or a struct whose parts may be. -/
def BwG (r : Rs) (a b : AV) : Prop := BwA r a b ∨ ∃ l ds, a = .agg l ∧ b = .d (.agg ds) ∧ BwAs r l (ds.map .d)
theorem BwG.agg {r : Rs} {l : List AV} {ds : List D} (h : BwAs r l (ds.map .d)) : BwG r (.agg l) (.d (.agg ds)) := .inr ⟨l, ds, rfl, rfl, h⟩
def BwGs (r : Rs) : List AV → List AV → Prop
  | [], [] => True
  | a :: l, b :: m => BwG r a b ∧ BwGs r l m
  | _, _ => False
section
variable {E : Env} {r : Rs} {w : World} {G : GR}
theorem BwG.sound (hG : Go.Proofs.Ythdjblfiiogmgaa.Good G E r w) {a b : AV} {x : Value} (h : BwG r a b) (hr : RA E r w a x) : RA (lentE E r w) [] w b x := by
  rcases h with h | ⟨l, ds, rfl, rfl, h⟩
  · exact h.sound hG hr
  · simp only [RA] at hr
    obtain ⟨vs, rfl, hv, h1⟩ := hr
    have h2 := allD_sound _ _ ds (h.sound hG hv) (allD_map ds) h1
    simp only [RA, RD]
    exact ⟨vs, rfl, h2⟩
theorem BwGs.sound (hG : Go.Proofs.Ythdjblfiiogmgaa.Good G E r w) : ∀ {l m : List AV} {vs : List Value}, BwGs r l m → RAL E r w l vs → RAL (lentE E r w) [] w m vs
  | [], [], vs, _, h => by simpa [RAL] using h
  | a :: l, b :: m, vs, hk, h => by
    simp only [RAL] at h ⊢
    obtain ⟨v, rest, rfl, h1, h2⟩ := h
    exact ⟨v, rest, rfl, hk.1.sound hG h1, BwGs.sound hG hk.2 h2⟩
  | [], _ :: _, _, h, _ => h.elim
  | _ :: _, [], _, h, _ => h.elim
end
section
variable {P : Program} {ti : Ti} {G : GR} {N : Nat} {ops : Array Oper} {σ : St}
theorem HO_lendG (hti : TiOK P ti) {o : Oper} {rest : List Oper} {M : KM} {f : FuncId} {az args : List AV} {v0 : AV} {c : Call} (h : AC P G f args [] fun v r' => v = v0 ∧ r' = []) (hv : scalA v0 = true) (ho : o.op = .call c)
    (hg : gd ops σ o = some true) (hc : calleeOf (σ.ev G) c = some (f, az)) (hd : (o :: rest).all (dstOK N) = true) (hw : BwGs σ.r az args)
    (hk : EV P ti G N ops rest M (σ.putR o.dst v0 σ.r)) : HO P ti G N ops (o :: rest) M σ := by
  simp only [List.all_cons, Bool.and_eq_true] at hd
  cases M with
  | plain K =>
    intro E0 r0 w0 E a w hR hS
    unfold wpListIn
    rw [if_pos (gd_sound hR hg)]
    obtain ⟨vals, hrun, hral⟩ := callee_run (P := P) (fun x => ev_sound hR x) ho hc h.1
    refine ⟨fun f _ => fcR_fn G f, ?_⟩
    rw [Oper.semAt_eq _ _ _ (fun c hc => by rw [ho] at hc; cases hc), hrun, Oper.uponIn_enter]
    refine ⟨fun hd => (by cases hd), ?_⟩
    refine callsIn_any G ?_
    refine (lent_back h hv hR.good (hw.sound hR.good hral)).mono fun e w' hq => ?_
    obtain ⟨x, rfl, hra, hgood, hst, _⟩ := hq
    have hrel := hR.putO hst hgood hd.1 hra
    rw [putR_eq] at hrel
    exact HO_of_EV hti hd.2 hk E0 r0 w0 E _ w' hrel (hS.trans hst)
  | draw π kp K =>
    intro hok hl
    obtain ⟨L, pl⟩ := plan_of hok
    obtain ⟨i0, hd0, ho0, hrest, hk1⟩ := opl_cons pl hl
    have he : isEff ti o = true := by
      unfold isEff
      have : stops o.op = true := by
        rw [ho]
        unfold calleeOf at hc
        split at hc
        · rename_i x hx; simp [stops, hx]
        · cases hc
      simp [this]
    refine DWp_step pl hd0 ho0 hk1 he fun E0 r0 w0 E b w hR hS a C heq hwq hC => ?_
    have hgd := gd_sound hR hg
    rw [hwq] at hgd
    rw [if_pos hgd]
    obtain ⟨vals, hrun, hral⟩ := callee_run (P := P) (fun x => ev_sound hR x) ho hc h.1
    unfold Oper.wp
    rw [← heq, hrun, Oper.upon_enter]
    refine (lent_back h hv hR.good (hw.sound hR.good hral)).mono fun e w' hq => ?_
    obtain ⟨x, rfl, hra, hgood, hst, hkeep⟩ := hq
    have hrel := hR.putO hst hgood hd.1 hra
    rw [putR_eq] at hrel
    exact hC x w' E _ hrel (hS.trans hst) (fun _ => hkeep) (ED_sound hti pl hok rest _ _ hk1 hrest hk)
end
/-- A fact with its arguments in row i; that row. -/
def fctO (f : Fct) (i : Nat) : List AV := [.d (.c (.string f.a)), .d (.c (.string f.b)), .d (.c (.string f.p)), .osl i 0 3 f.l.length]
def argR (f : Fct) (zs : List D) : Option Res := some (.obj ((flatE cstE f.l ++ zs).map .d))
theorem bw_osl {r : Rs} {i n : Nat} {xs zs : List D} (h : r[i]? = some (some (.obj ((xs ++ zs).map .d)))) (hn : 0 < n) (hx : xs.length = n * 3) : BwA r (.osl i 0 3 n) (.d (.sl 3 n xs)) := by
  have := BwA.osl (r := r) (i := i) (off := 0) (sz := 3) (n := n) (l := (xs ++ zs).map .d) (ds := xs ++ zs) (by unfold objOf; rw [h]) (allD_map _) hn
  rwa [List.drop_zero, ← hx, List.take_left] at this
theorem flatE_len' (f : Fct) : (flatE cstE f.l).length = f.l.length * 3 := by rw [flatE_len cstE_len]; omega
theorem bfindO_ac (L : List Fct) (m : Int) (hL : okB L) (f : Fct) (zs : List D) (hf0 : 0 < f.l.length) (hf : f.l.length ≤ 140737488352000) : AC Try.prog noG 54 [.ptr 0 0, .agg (fctO f 1)] (tbl L m ++ [argR f zs]) (fun v r' => v = .tup [.d (.c (.int .i64 (posF L f))), .d (.c (.bool (decide (f ∈ L))))] ∧ r' = tbl L m ++ [argR f zs]) := by
  refine AC.fit ?_
  refine AC_of_R (N := 14) (res := [.tmp 4, .tmp 5]) ty_ok Try.call54 Try.func54 rfl rfl rfl (Nat.le_of_ble_eq_true rfl) ?_
  have hl := hL.len
  have kb := bsF_ac L f (posF L f) (by omega) (fun g hg => Nat.le_trans (hL.ok g hg) (by decide)) hf (posF_le L f) (posF_lt L f) (posF_ge L f hL.srt) (decide (f ∈ L)) (posF_mem hL.srt f)
  have hbw : ∀ r : Rs, r[1]? = some (argR f zs) → BwAs r (fctO f 1) ((fctE f).map .d) := fun r h => ⟨BwA.val (.refl _) rfl, BwA.val (.refl _) rfl, BwA.val (.refl _) rfl, bw_osl h hf0 (flatE_len' f), trivial⟩
  simp only [fctE, List.cons_append, List.nil_append] at kb
  refine rn1 (jn @tbl.eq_1 (jn @tblC.eq_1 (jn @fctO.eq_1 @argR.eq_1))) ?_
  refine HC_plan [] ty_ok mix (by kernel_rfl) ?_
  refine rn0 ?_
  refine HO_lendG ty_ok kb rfl rfl rfl rfl (by kernel_rfl) ⟨.inl (BwA.val (.refl _) rfl), BwG.agg (hbw _ rfl), .inl (BwA.val (.refl _) rfl), trivial⟩ ?_
  refine rn0 ?_
  exact fv1 [0,1] [] (jn @tbl.eq_1 (jn @tblC.eq_1 @argR.eq_1))
theorem tblO_hand (L : List Fct) (m : Int) (f : Fct) (zs : List D) (rc : Rs) (i j : Nat) (hi : rc[i]? = some (some (.obj (tblC L m)))) (hj : rc[j]? = some (argR f zs)) : HandOK (nm [i, j] rc.length) rc (tbl L m ++ [argR f zs]) [i, j] := by
  refine ⟨fun y h => ?_, fun y h => ?_, trivial⟩
  · injection h with h; subst h
    rw [hi]; rfl
  · injection h with h; subst h
    rw [hj]
    show some (argR f zs) = some (some (Res.obj (renL _ _)))
    rw [renL_map_d]; rfl
theorem tblO_wf (L : List Fct) (m : Int) (f : Fct) (zs : List D) : wfRs (tbl L m ++ [argR f zs]).length (tbl L m ++ [argR f zs]) = true := by
  simp only [tbl, argR, List.cons_append, List.nil_append, wfRs, wfL_map_d, Bool.and_true]; rfl
set_option maxHeartbeats 400000 in
theorem btakeO_ac (L : List Fct) (m : Int) (hm : m ≠ 0) (hL : okB L) (f : Fct) (zs0 : List D) (hf0 : 0 < f.l.length) (hf : f.l.length ≤ 140737488352000) : AC Try.prog noG 22 [.ptr 0 0, .agg (fctO f 1)] (tbl L m ++ [argR f zs0]) (fun v r' => v = .d (.c (.int .i64 (tkE L f))) ∧ r' = tbl (tkB L f) m ++ [argR f zs0]) := by
  refine AC.fit ?_
  refine AC_of_R (N := 29) (res := [.tmp 4]) tyL_ok Try.call22 Try.func22 rfl rfl rfl (Nat.le_of_ble_eq_true rfl) ?_
  have k := bnone_ac L m hm
  have kf := bfindO_ac L m hL f zs0 hf0 hf
  have hl := hL.len
  refine rn1 (jn @tbl.eq_1 (jn @tblC.eq_1 (jn @fctO.eq_1 @argR.eq_1))) ?_
  refine HO_callX tyL_ok [0] k (tbl_hand _ _ _ _ rfl) (tbl_wf _ _) ?_
  rintro v r' ⟨rfl, rfl⟩ _
  refine rn1 (jn @tbl.eq_1 @tblC.eq_1) ?_
  refine HO_callX tyL_ok [0, 1] kf (tblO_hand _ _ _ _ _ _ _ rfl rfl) (tblO_wf _ _ _ _) ?_
  rintro v r' ⟨rfl, rfl⟩ _
  by_cases hi : f ∈ L
  · have e1 : tkE L f = 0 := by rw [tkE, if_pos hi]
    have e2 : tkB L f = L.take (posF L f) ++ L.drop (posF L f + 1) := by rw [tkB, if_pos hi]
    obtain ⟨hp, _⟩ := posF_in hL.srt hi
    have hsp := tkB_split hL.srt hi
    obtain ⟨p, hpl⟩ : ∃ p, L.length = p + 1 := ⟨L.length - 1, by omega⟩
    have hfl : flatE fctE L = flatE fctE (L.take (posF L f)) ++ fctE f ++ flatE fctE (L.drop (posF L f + 1)) := by
      conv => lhs; rw [hsp]
      rw [flatE_app, flatE_app]; simp [flatE]
    have hlen : (tkB L f).length = p := by rw [e2, List.length_append, List.length_take, List.length_drop]; omega
    have hfl2 : flatE fctE (tkB L f) = flatE fctE (L.take (posF L f)) ++ flatE fctE (L.drop (posF L f + 1)) := by rw [e2, flatE_app]
    rw [e1, decide_eq_true hi]
    refine rn1 (jn @tbl.eq_1 (jn @tblC.eq_1 (jn @fctO.eq_1 (jn @argR.eq_1 @renL_map_d)))) ?_
    refine HO_callX tyL_ok [] (cloneF_ac L.length (flatE fctE L) (by rw [flatE_len fctE_len]; omega) (by omega) (by omega)) (trivial) rfl ?_
    rintro v r' ⟨k, zs, hz, rfl, rfl⟩ _
    have kd := delF_l p (posF L f) k (flatE fctE (L.take (posF L f))) (flatE fctE (L.drop (posF L f + 1))) zs (fctE f) (by rw [flatE_len fctE_len, List.length_take]; omega) rfl (by rw [flatE_len fctE_len, List.length_drop]; omega) hz (by omega) (by omega)
    rw [← hfl, ← hfl2, ← hpl] at kd
    have hpw : (posF L f : Int) < 100000 := by omega
    generalize tkB L f = L2 at *
    refine rn1 @renL_map_d ?_
    refine HO_callX tyL_ok [3] kd (ob1_hand _ _ _ rfl) (ob1_wf _) ?_
    rintro v r' ⟨rfl, rfl⟩ _
    subst hlen
    refine rn0 ?_
    exact fv1 [0,1] [] (jn @tbl.eq_1 (jn @tblC.eq_1 @argR.eq_1))
  · have e1 : tkE L f = 152 := by rw [tkE, if_neg hi]
    have e2 : tkB L f = L := by rw [tkB, if_neg hi]
    rw [e1, e2, decide_eq_false hi]
    refine rn1 (jn @tbl.eq_1 (jn @tblC.eq_1 (jn @argR.eq_1 @renL_map_d))) ?_
    exact fv1 [0,1] [] (jn @tbl.eq_1 (jn @tblC.eq_1 @argR.eq_1))
end Go.Proofs.Ythdjblfiiogmgaa

set_option linter.unusedVariables false
set_option linter.unusedSimpArgs false
set_option maxRecDepth 100000
namespace Go.Proofs.Ythdjblfiiogmgaa
open Go Go.ChangeShapes Go.WideShapes
/-! ref04.Copy and Spoil of one fact. -/
def cpS (a : AV) (t : Nat) (f : Fct) (i : Nat) : List (Nat × AV) := [(0, a), (3, .sl (.own t) 4 ([f].take i).length (flatE fctE ([f].take i))), (4, .d (.c (.int .i64 i)))]
def cpO (f : Fct) (zs : List D) (i : Nat) : Rs := [some (.obj (fctO f 1)), argR f zs, some (.tok (4 * ([f].take i).length))]
def cpD (f : Fct) (i : Nat) : Rs := [some (.tok (4 * ([f].take i).length))]
set_option maxHeartbeats 800000 in
theorem copyO_ac (f : Fct) (zs : List D) (hf0 : 0 < f.l.length) (hf : f.l.length ≤ 1000000) : AC Try.prog noG 21 [.osl 0 0 4 1] [some (.obj (fctO f 1)), argR f zs] (fun v r' => v = .d (.sl 4 1 (fctE f)) ∧ r' = [some (.obj (fctO f 1)), argR f zs]) := by
  refine AC.fit ?_
  refine AC_of_R (N := 26) (res := [.tmp 2]) ty_ok Try.call21 Try.func21 rfl rfl rfl (Nat.le_of_ble_eq_true rfl) ?_
  have hlf := flatE_len' f
  have hta : (flatE cstE f.l ++ zs).take (f.l.length * 3) = flatE cstE f.l := by rw [← hlf, List.take_left]
  have htm : ((flatE cstE f.l ++ zs).map AV.d).take (f.l.length * 3) = (flatE cstE f.l).map .d := by rw [← List.map_take, hta]
  refine rn0 ?_
  refine HC_loopR (fun i : Nat => cpS (.osl 0 0 4 1) 2 f i) (fun i => cpO f zs i) (fun i => i ≤ 1) (fun i => 1 - i) 0 [0, 1, 2] [0] (Nat.zero_le _) ?_ ?_
  · have e1 : [f].take 0 = [] := rfl
    exact ft1 (jn @cpS.eq_1 (jn @cpO.eq_1 (jn @argR.eq_1 (jn @fctO.eq_1 (jn @e1 @flatE_nil)))))
  intro i hi1
  refine HC_of_R ty_ok ?_
  by_cases hlt : i < 1
  · have hi0 : i = 0 := by omega
    subst hi0
    have e1 : [f].take 0 = [] := rfl
    have e2 : [f].take 1 = [f] := rfl
    have ha : allD ((flatE cstE f.l).map AV.d) = some (flatE cstE f.l) := allD_map _
    refine rn1 (jn @cpS.eq_1 (jn @cpO.eq_1 (jn @fctO.eq_1 (jn @argR.eq_1 (jn @e1 (jn @flatE_nil (jn @htm (jn @ha (jn @hf0 @hlf))))))))) ?_
    (repeat (refine And.intro (by omega) ?_))
    refine ⟨1, (by omega), by omega, [0, 1, 2], [], ?_⟩
    have e3 : flatE fctE [f] = fctE f := by simp [flatE]
    exact ft1 (jn @cpS.eq_1 (jn @cpO.eq_1 (jn @argR.eq_1 (jn @fctO.eq_1 (jn @fctE.eq_1 (jn @e2 (jn @e3 @List.length_singleton.{0})))))))
  · have hi0 : i = 1 := by omega
    subst hi0
    have e2 : [f].take 1 = [f] := rfl
    have e3 : flatE fctE [f] = fctE f := by simp [flatE]
    refine rn1 (jn @cpS.eq_1 (jn @cpO.eq_1 (jn @fctO.eq_1 (jn @argR.eq_1 (jn @e2 (jn @e3 @List.length_singleton.{0})))))) ?_
    exact fv1 [0,1] [] (jn @argR.eq_1 @fctO.eq_1)
def spE : List D := [.c (.bool true), .c (.int .i64 (-99)), .c (.string ⟨#[]⟩)]
theorem repD_snoc (zd : List D) : ∀ k, repD zd (k + 1) = repD zd k ++ zd
  | 0 => by simp [repD]
  | k + 1 => by
    have h := repD_snoc zd k
    show zd ++ repD zd (k + 1) = zd ++ repD zd k ++ zd
    rw [h, List.append_assoc]
/-- The arguments' row behind k stores. -/
def spX (X : List D) (k : Nat) : List D := repD spE k ++ X.drop (k * 3)
theorem spX_len {X : List D} {k : Nat} (h : k * 3 ≤ X.length) : (spX X k).length = X.length := by
  rw [spX, List.length_append, repD_len, List.length_drop]; simp only [spE, List.length_cons, List.length_nil]; omega
theorem spX_put {X : List D} {k : Nat} : splice ((spX X k).map AV.d) (k * 3) [.d (.c (.bool true)), .d (.c (.int .i64 (-99))), .d (.c (.string ⟨#[]⟩))] = (spX X (k + 1)).map .d := by
  have h1 : (repD spE k).length = k * 3 := by rw [repD_len]; rfl
  have h2 : [AV.d (.c (.bool true)), .d (.c (.int .i64 (-99))), .d (.c (.string ⟨#[]⟩))] = spE.map .d := rfl
  have h3 : ∀ (l : List AV) (o : Nat), splice l o (spE.map AV.d) = l.take o ++ spE.map AV.d ++ l.drop (o + spE.length) := fun _ _ => rfl
  rw [h2, h3, ← List.map_take, ← List.map_drop, ← List.map_append, ← List.map_append, spX, spX, tk_app h1, dr_app2 h1, List.drop_drop, repD_snoc, show (k + 1) * 3 = k * 3 + spE.length by simp [spE]; omega]
def soS1 (a : AV) (i : Nat) : List (Nat × AV) := [(0, a), (2, .d (.c (.int .i64 i)))]
def soS2 (a : AV) (i k : Nat) : List (Nat × AV) := [(0, a), (2, .d (.c (.int .i64 i))), (3, .d (.c (.int .i64 k)))]
def soR (f : Fct) (Y : List D) : Rs := [some (.obj (fctO f 1)), some (.obj (Y.map .d))]
set_option maxHeartbeats 800000 in
theorem spoilO_ac (f : Fct) (zs : List D) (hf0 : 0 < f.l.length) (hf : f.l.length ≤ 1000000) : AC Try.prog noG 23 [.osl 0 0 4 1] [some (.obj (fctO f 1)), argR f zs] (fun v r' => v = .tup [] ∧ r' = [none, none]) := by
  refine AC.fit ?_
  refine AC_of_R (N := 28) (res := []) ty_ok Try.call23 Try.func23 rfl rfl rfl (Nat.le_of_ble_eq_true rfl) ?_
  obtain ⟨X, hX⟩ : ∃ X, X = flatE cstE f.l ++ zs := ⟨_, rfl⟩
  have hXl : f.l.length * 3 ≤ X.length := by rw [hX, List.length_append, flatE_len']; omega
  have hR : argR f zs = some (.obj (X.map .d)) := by rw [argR, hX]
  rw [hR]
  refine rn0 ?_
  refine HC_loopR (fun i : Nat => soS1 (.osl 0 0 4 1) i) (fun i => soR f (spX X (bif i = 0 then 0 else f.l.length))) (fun i => i ≤ 1) (fun i => 1 - i) 0 [0, 1] [] (Nat.zero_le _) ?_ ?_
  · have e1 : spX X (bif decide (0 = 0) then 0 else f.l.length) = X := by simp [spX, repD]
    exact ft1 (jn @soS1.eq_1 (jn @soR.eq_1 (jn @fctO.eq_1 @e1)))
  intro i hi1
  refine HC_of_R ty_ok ?_
  by_cases hlt : i < 1
  · have hi0 : i = 0 := by omega
    subst hi0
    have e1 : spX X (bif decide (0 = 0) then 0 else f.l.length) = spX X 0 := rfl
    rw [e1]
    refine rn1 (jn @soS1.eq_1 (jn @soR.eq_1 @fctO.eq_1)) ?_
    refine HC_loopR (fun k : Nat => soS2 (.osl 0 0 4 1) 0 k) (fun k => soR f (spX X k)) (fun k => k ≤ f.l.length) (fun k => f.l.length - k) 0 [0, 1] [] (Nat.zero_le _) ?_ ?_
    · exact ft1 (jn @soS2.eq_1 (jn @soR.eq_1 @fctO.eq_1))
    intro k hk1
    refine HC_of_R ty_ok ?_
    by_cases hkt : k < f.l.length
    · have hk : (k : Int) < f.l.length := by omega
      have hY : ((spX X k).map AV.d).length = X.length := by rw [List.length_map]; exact spX_len (by omega)
      have hsp := spX_put (X := X) (k := k)
      generalize spX X k = Y at *
      refine rn1 (jn @soS2.eq_1 (jn @soR.eq_1 (jn @fctO.eq_1 (jn @hk @hsp)))) ?_
      (repeat (refine And.intro (by omega) ?_))
      refine ⟨k + 1, (by omega), by omega, [0, 1], [], ?_⟩
      exact ft1 (jn @soS2.eq_1 (jn @soR.eq_1 @fctO.eq_1))
    · have hk : ¬ (k : Int) < f.l.length := by omega
      have hke : k = f.l.length := by omega
      subst hke
      refine rn1 (jn @soS2.eq_1 (jn @soR.eq_1 (jn @fctO.eq_1 @hk))) ?_
      (repeat (refine And.intro (by omega) ?_))
      refine ⟨1, (by omega), by omega, [0, 1], [], ?_⟩
      have e2 : spX X (bif decide (1 = 0) then 0 else f.l.length) = spX X f.l.length := rfl
      exact ft1 (jn @soS1.eq_1 (jn @soR.eq_1 (jn @fctO.eq_1 @e2)))
  · have hi0 : i = 1 := by omega
    subst hi0
    refine rn1 (jn @soS1.eq_1 (jn @soR.eq_1 @fctO.eq_1)) ?_
    exact fv0 [0,0] []
set_option maxHeartbeats 800000 in
theorem copyD_ac (f : Fct) (hf : f.l.length ≤ 1000000) : AC Try.prog noG 21 [.d (.sl 4 1 (fctE f))] [] (fun v r' => v = .d (.sl 4 1 (fctE f)) ∧ r' = []) := by
  refine AC.fit ?_
  refine AC_of_R (N := 26) (res := [.tmp 2]) ty_ok Try.call21 Try.func21 rfl rfl rfl (Nat.le_of_ble_eq_true rfl) ?_
  have hlf := flatE_len' f
  refine rn0 ?_
  refine HC_loopR (fun i : Nat => cpS (.d (.sl 4 1 (fctE f))) 0 f i) (fun i => cpD f i) (fun i => i ≤ 1) (fun i => 1 - i) 0 [0] [0] (Nat.zero_le _) ?_ ?_
  · have e1 : [f].take 0 = [] := rfl
    exact ft1 (jn @cpS.eq_1 (jn @cpD.eq_1 (jn @e1 @flatE_nil)))
  intro i hi1
  refine HC_of_R ty_ok ?_
  by_cases hlt : i < 1
  · have hi0 : i = 0 := by omega
    subst hi0
    have e1 : [f].take 0 = [] := rfl
    have e2 : [f].take 1 = [f] := rfl
    refine rn1 (jn @cpS.eq_1 (jn @cpD.eq_1 (jn @fctE.eq_1 (jn @e1 (jn @flatE_nil @hlf))))) ?_
    (repeat (refine And.intro (by omega) ?_))
    refine ⟨1, (by omega), by omega, [0], [], ?_⟩
    have e3 : flatE fctE [f] = fctE f := by simp [flatE]
    exact ft1 (jn @cpS.eq_1 (jn @cpD.eq_1 (jn @fctE.eq_1 (jn @e2 (jn @e3 @List.length_singleton.{0})))))
  · have hi0 : i = 1 := by omega
    subst hi0
    have e2 : [f].take 1 = [f] := rfl
    have e3 : flatE fctE [f] = fctE f := by simp [flatE]
    refine rn1 (jn @cpS.eq_1 (jn @cpD.eq_1 (jn @e2 (jn @e3 @List.length_singleton.{0})))) ?_
    exact fv0 [] []
set_option maxHeartbeats 800000 in
theorem spoilD_ac (f : Fct) (h0 : f.l = []) : AC Try.prog noG 23 [.d (.sl 4 1 (fctE f))] [] (fun v r' => v = .tup [] ∧ r' = []) := by
  refine AC.fit ?_
  refine AC_of_R (N := 28) (res := []) ty_ok Try.call23 Try.func23 rfl rfl rfl (Nat.le_of_ble_eq_true rfl) ?_
  refine rn0 ?_
  refine HC_loopR (fun i : Nat => soS1 (.d (.sl 4 1 (fctE f))) i) (fun i => []) (fun i => i ≤ 1) (fun i => 1 - i) 0 [] [] (Nat.zero_le _) ?_ ?_
  · exact ft1 @soS1.eq_1
  intro i hi1
  refine HC_of_R ty_ok ?_
  by_cases hlt : i < 1
  · have hi0 : i = 0 := by omega
    subst hi0
    refine rn1 @soS1.eq_1 ?_
    refine HC_loopR (fun k : Nat => soS2 (.d (.sl 4 1 (fctE f))) 0 k) (fun k => []) (fun k => k ≤ 0) (fun k => 0 - k) 0 [] [] (Nat.le_refl _) ?_ ?_
    · exact ft1 @soS2.eq_1
    intro k hk1
    refine HC_of_R ty_ok ?_
    have hk0 : k = 0 := by omega
    subst hk0
    refine rn1 (jn @soS2.eq_1 (jn @fctE.eq_1 (jn @h0 @flatE_nil))) ?_
    (repeat (refine And.intro (by omega) ?_))
    refine ⟨1, (by omega), by omega, [], [], ?_⟩
    exact ft1 (jn @soS1.eq_1 (jn @fctE.eq_1 (jn @h0 @flatE_nil)))
  · have hi0 : i = 1 := by omega
    subst hi0
    refine rn1 @soS1.eq_1 ?_
    exact fv0 [] []
end Go.Proofs.Ythdjblfiiogmgaa

set_option linter.unusedVariables false
set_option linter.unusedSimpArgs false
set_option maxRecDepth 100000
namespace Go.Proofs.Ythdjblfiiogmgaa
open Go Go.ChangeShapes Go.WideShapes
/-! Regions that draw their order, within a round of a range over a function. -/
def noDef (o : Oper) : Bool := match o.op with
  | .defer _ => false
  | _ => true
section
variable {P : Program} {ti : Ti} {G : GR} {N : Nat} {K : KD} {σ : St}
theorem upon_in {o : Oper} {a : Act} {next next' : Act → World → Prop} {Q : Exit → Act → World → Prop} (hn : ∀ a w, next a w → next' a w) (res : Result Next) (h : o.upon P a next Q res) : o.uponIn (fcR G) 0 P a next' Q res := by
  unfold Oper.upon at h
  split at h
  · exact hn _ _ h
  · exact hn _ _ h
  · exact hn _ _ h
  · rename_i f args w'
    refine ⟨fun hd => (by cases hd), trivial, fun cs _ => ?_⟩
    obtain ⟨e, w2, fr, hr, hs, hx⟩ := h cs
    refine ⟨e, w2, fr, ?_, comesIn_wide.2 hs, hx⟩
    cases e with
    | returned v => exact hn _ _ hr
    | panicked ch => exact hr
    | outgrown => exact hr
  · rename_i row args w'
    refine ⟨fun hd => (by cases hd), fun c cs _ => ?_⟩
    obtain ⟨v, w2, hr, hs⟩ := h c cs
    exact ⟨v, w2, hn _ _ hr, stepsIn_wide.2 hs⟩
  · exact h
  · exact h.elim
theorem wpOps_in {ops : Array Oper} {Q : Exit → Act → World → Prop} (hd : ∀ (i : Nat) (o : Oper), ops[i]? = some o → noDef o = true) (hno : ¬ LetsOut Q) : ∀ (l : List Nat) (a : Act) (w : World), wpOps P ops Q l a w → wpOpsIn (fcR G) 0 P ops Q l a w
  | [], a, w, h => h
  | i :: rest, a, w, h => by
    have ih := wpOps_in hd hno rest
    simp only [wpOps] at h
    simp only [wpOpsIn]
    cases ho : ops[i]? with
    | none => rw [ho] at h; exact ih a w h
    | some o =>
      rw [ho] at h
      simp only at h ⊢
      split at h
      · rename_i hw
        rw [if_pos hw]
        rcases h with h | h
        · refine ⟨fun _ _ => trivial, ?_⟩
          have hnd := hd i o ho
          rw [Oper.semAt_eq _ _ _ (fun c hc => by unfold noDef at hnd; rw [hc] at hnd; cases hnd)]
          exact upon_in ih _ h
        · exact absurd h.2 hno
      · rename_i hw
        rw [if_neg hw]
        exact ⟨fun _ _ => trivial, ih _ _ h⟩
theorem HC_of_HVG (hm : P.follows .mixedOrders = true) {id : Nat} {l : List Oper} (h : HV P ti G N l K σ) (hnd : l.all noDef = true := by rfl) (hno : ∀ σ, ¬ app P ti G N K .outgrown σ := by intro σ h; exact h) : HC P ti G N (.region id l.toArray true) K σ := by
  intro E0 r0 w0 E a w hR hS
  refine wpIn_region_draw fun t => ?_
  simp only [Region.schedule, hm, Bool.true_or, if_true]
  refine wpOps_in (fun i o ho => ?_) (fun hq => ?_) _ _ _ (h E0 r0 w0 E a w hR hS _ (VL_lin _ t _))
  · have := List.mem_of_getElem? (l := l) (by simpa using ho)
    exact List.all_eq_true.1 hnd o this
  · obtain ⟨a2, w2, σ2, E2, hk, _⟩ := hq
    exact hno σ2 hk
end
end Go.Proofs.Ythdjblfiiogmgaa
