/- Parts of the proof: CallQ, TbQ, TdA, TdB, TdF, Td23a, Td23b, Td28a. -/
import Derived.Test.YthdjblfiiogmgaaCJ9
import Derived.Test.YthdjblfiiogmgaaCJ10
import Derived.Test.YthdjblfiiogmgaaCJ5
set_option linter.unusedVariables false
set_option linter.unusedSimpArgs false
set_option maxRecDepth 100000
namespace Go.Proofs.Ythdjblfiiogmgaa
open Go Go.ChangeShapes Go.WideShapes
/-! A call that is handed a pointer which it does not look at: all memory that was there is as it was. -/
def cpA (b : Nat) : AV := .d (.c (.pointer (some ⟨b, 0, none⟩)))
section
variable {G : GR} {E : Env} {w : World}
theorem swapP {r : Rs} {i j b : Nat} {l : List AV} (hG : Go.Proofs.Ythdjblfiiogmgaa.Good G E r w) (hj : r[j]? = some (some (.obj [cpA b]))) (hi : r[i]? = some (some (.obj l))) (hij : i ≠ j) (hb : E.bl i = some b) :
    Go.Proofs.Ythdjblfiiogmgaa.Good G E (r.set j (some (.obj [.ptr i 0]))) w ∧ Step E r w E (r.set j (some (.obj [.ptr i 0]))) w := by
  have hjl : j < r.length := (List.getElem?_eq_some_iff.1 hj).1
  have hil : i < r.length := (List.getElem?_eq_some_iff.1 hi).1
  have hat : (r.set j (some (.obj [.ptr i 0])))[j]? = some (some (.obj [.ptr i 0])) := List.getElem?_set_self hjl
  have hne : ∀ k, k ≠ j → (r.set j (some (.obj [.ptr i 0])))[k]? = r[k]? := fun k hk => List.getElem?_set_ne (Ne.symm hk)
  have hback : ∀ k y, (r.set j (some (.obj [.ptr i 0])))[k]? = some (some y) → ∃ z, r[k]? = some (some z) := fun k y hk => by
    by_cases h : k = j
    · subst h; exact ⟨_, hj⟩
    · rw [hne k h] at hk; exact ⟨_, hk⟩
  have hst : Step E r w E (r.set j (some (.obj [.ptr i 0]))) w := by
    refine ⟨rfl, rfl, rfl, Nat.le_refl _, fun _ _ _ => ⟨rfl, rfl⟩, fun c ⟨k, y, hk, hc⟩ => ?_, Lasts.refl _ _, ShapeLasts.refl _, ⟨by simp, fun k k' _ hk => ?_, fun k l' _ hk => ?_, fun k l' _ hk => ?_⟩⟩
    · obtain ⟨z, hz⟩ := hback k y hk
      exact .inl ⟨k, z, hz, hc⟩
    · by_cases h : k = j
      · subst h; rw [hat] at hk; cases hk
      · rw [hne k h] at hk; exact ⟨k', hk, Nat.le_refl _, fun _ => rfl⟩
    · by_cases h : k = j
      · subst h
        rw [hat] at hk
        injection hk with hk; injection hk with hk; injection hk with hk
        subst hk
        exact ⟨_, hj, rfl, rfl⟩
      · rw [hne k h] at hk; exact ⟨l', hk, rfl, rfl⟩
    · by_cases h : k = j
      · subst h; rw [hat] at hk; cases hk
      · rw [hne k h] at hk; exact ⟨l', hk, rfl⟩
  refine ⟨⟨fun k k' c hk hc => ?_, fun k l' hk => ?_, fun k l' hk => ?_, fun k k' x y c hk hk' hc hc' => ?_, hG.fresh, hG.glob⟩, hst⟩
  · by_cases h : k = j
    · subst h; rw [hat] at hk; cases hk
    · rw [hne k h] at hk; exact hG.tok k k' c hk hc
  · by_cases h : k = j
    · subst h
      rw [hat] at hk
      injection hk with hk; injection hk with hk; injection hk with hk
      subst hk
      obtain ⟨c, hc, hT, vs, e, hh, hral, hone⟩ := hG.obj _ _ hj
      refine ⟨c, hc, hT, vs, e, hh, ?_, hone⟩
      simp only [RAL, cpA, RA, RD] at hral ⊢
      obtain ⟨v, rest, hv, ⟨hx, _⟩, hr⟩ := hral
      exact ⟨v, rest, hv, ⟨by simpa using hil, fun l' hl' => ⟨b, hb, hx⟩⟩, hr⟩
    · rw [hne k h] at hk
      obtain ⟨c, hc, hT, vs, e, hh, hral, hone⟩ := hG.obj k l' hk
      exact ⟨c, hc, hT, vs, e, hh, hral.step hst, hone⟩
  · by_cases h : k = j
    · subst h; rw [hat] at hk; cases hk
    · rw [hne k h] at hk; exact hG.map k l' hk
  · obtain ⟨x', hx⟩ := hback k x hk
    obtain ⟨y', hy⟩ := hback k' y hk'
    exact hG.one k k' x' y' c hx hy hc hc'
theorem callQ_core {P : Program} {f : FuncId} {args2 : List AV} {v0 v1 : AV} {pre post pre' post' r : Rs} {i : Nat} {l : List AV}
    (h : ∀ b : Nat, AC P G f (cpA b :: args2) [] (fun v r' => v = v0 ∧ r' = pre ++ some (.obj [cpA b]) :: post)) (hi : objOf r i = some l) (ha : ∀ g, renL g args2 = args2) (hwf : wfL 0 args2 = true)
    (hp : pre.map (Option.map (renRes (nm [] r.length))) = pre') (hq : post.map (Option.map (renRes (nm [] r.length))) = post') (hv : ren (nm [] r.length) v0 = v1)
    (hG : Go.Proofs.Ythdjblfiiogmgaa.Good G E r w) {vals : Array Value} (hral : RAL E r w (.ptr i 0 :: args2) vals.toList) :
    Calls P f vals w fun e w' => ∃ x E', e = .returned x ∧ RA E' (r ++ pre' ++ some (.obj [.ptr i 0]) :: post') w' v1 x ∧ Go.Proofs.Ythdjblfiiogmgaa.Good G E' (r ++ pre' ++ some (.obj [.ptr i 0]) :: post') w' ∧ Step E r w E' (r ++ pre' ++ some (.obj [.ptr i 0]) :: post') w' ∧ Keeps w w' := by
  have hri := objOf_some hi
  have hil : i < r.length := (List.getElem?_eq_some_iff.1 hri).1
  simp only [RAL, RA] at hral
  obtain ⟨v, rest, hvr, ⟨_, hb⟩, hr2⟩ := hral
  obtain ⟨b, hbl, rfl⟩ := hb l hri
  have hargs : RAL E r w (renL (nm [] r.length) (cpA b :: args2)) vals.toList := by
    simp only [renL, ha, RAL]
    refine ⟨_, _, hvr, ?_, hr2⟩
    simp only [cpA, ren, RA, RD]
    exact ⟨trivial, rfl⟩
  refine (call_core (h b) (ts := []) List.nodup_nil (fun t ht => by cases ht) hG hargs (by show (true && wfL 0 args2) = true; rw [hwf]; rfl) rfl (fun j x hx => by simp at hx) rfl).mono fun e w' ⟨v, x, r', E', he, ⟨hv0, hr'⟩, _, hra, hgood, hst, hkeep⟩ => ?_
  subst hv0 hr'
  have hR : putAll (nm [] r.length) r [] (pre ++ some (.obj [cpA b]) :: post) = r ++ pre' ++ some (.obj [cpA b]) :: post' := by
    simp only [putAll, List.map_append, List.map_cons, hp, hq, Option.map_some, renRes, cpA, renL, ren]
    simp
  rw [hR, hv] at hra
  rw [hR] at hgood hst
  have hj : (r ++ pre' ++ some (.obj [cpA b]) :: post')[(r ++ pre').length]? = some (some (.obj [cpA b])) := by
    rw [List.getElem?_append_right (Nat.le_refl _), Nat.sub_self]; rfl
  have hi2 : (r ++ pre' ++ some (.obj [cpA b]) :: post')[i]? = some (some (.obj l)) := by
    rw [List.getElem?_append_left (by rw [List.length_append]; omega), List.getElem?_append_left hil]; exact hri
  have hb2 : E'.bl i = some b := by
    obtain ⟨l2, _, _, hbe⟩ := hst.names.obj i l hil hi2
    rw [hbe]; exact hbl
  have hset : (r ++ pre' ++ some (.obj [cpA b]) :: post').set (r ++ pre').length (some (.obj [.ptr i 0])) = r ++ pre' ++ some (.obj [.ptr i 0]) :: post' := by
    rw [List.set_append_right _ _ (Nat.le_refl _), Nat.sub_self]; rfl
  obtain ⟨g2, s2⟩ := swapP hgood hj hi2 (by rw [List.length_append]; omega) hb2
  rw [hset] at g2 s2
  exact ⟨x, E', he, hra.step s2, g2, hst.trans s2, hkeep rfl⟩
end
section
variable {P : Program} {ti : Ti} {G : GR} {N : Nat} {ops : Array Oper} {σ : St}
theorem HO_callQ (hti : TiOK P ti) {o : Oper} {rest : List Oper} {M : KM} {f : FuncId} {as2 args2 : List AV} {v0 v1 : AV} {c : Call} {pre post pre' post' : Rs} {i : Nat} {l : List AV}
    (h : ∀ b : Nat, AC P G f (cpA b :: args2) [] (fun v r' => v = v0 ∧ r' = pre ++ some (.obj [cpA b]) :: post)) (ho : o.op = .call c) (hg : gd ops σ o = some true) (hc : calleeOf (σ.ev G) c = some (f, .ptr i 0 :: as2)) (hd : (o :: rest).all (dstOK N) = true)
    (hi : objOf σ.r i = some l) (ha : ∀ g, renL g args2 = args2) (hwf : wfL 0 args2 = true) (hw : WkAs as2 args2)
    (hp : pre.map (Option.map (renRes (nm [] σ.r.length))) = pre') (hq : post.map (Option.map (renRes (nm [] σ.r.length))) = post') (hv : ren (nm [] σ.r.length) v0 = v1)
    (hk : EV P ti G N ops rest M (σ.putR o.dst v1 (σ.r ++ pre' ++ some (.obj [.ptr i 0]) :: post'))) : HO P ti G N ops (o :: rest) M σ := by
  simp only [List.all_cons, Bool.and_eq_true] at hd
  have hwk : ∀ {E : Env} {w : World} {vs : List Value}, RAL E σ.r w (.ptr i 0 :: as2) vs → RAL E σ.r w (.ptr i 0 :: args2) vs := fun hr => by
    simp only [RAL] at hr ⊢
    obtain ⟨v, rest, rfl, h1, h2⟩ := hr
    exact ⟨v, rest, rfl, h1, WkAs_sound hw h2⟩
  cases M with
  | plain K =>
    intro E0 r0 w0 E a w hR hS
    unfold wpListIn
    rw [if_pos (gd_sound hR hg)]
    obtain ⟨vals, hrun, hral⟩ := callee_run (P := P) (fun x => ev_sound hR x) ho hc (h 0).1
    refine ⟨fun f _ => fcR_fn G f, ?_⟩
    rw [Oper.semAt_eq _ _ _ (fun c hc => by rw [ho] at hc; cases hc), hrun, Oper.uponIn_enter]
    refine ⟨fun hd => (by cases hd), ?_⟩
    refine callsIn_any G ?_
    refine (callQ_core h hi ha hwf hp hq hv hR.good (hwk hral)).mono fun e w' hq => ?_
    obtain ⟨x, E', rfl, hra, hgood, hst, _⟩ := hq
    have hrel := hR.putO hst hgood hd.1 hra
    rw [putR_eq] at hrel
    exact HO_of_EV hti hd.2 hk E0 r0 w0 E' _ w' hrel (hS.trans hst)
  | draw π kp K =>
    intro hok hl
    obtain ⟨L, pl⟩ := plan_of hok
    obtain ⟨i0, hd0, ho0, hrest, hk1⟩ := opl_cons pl hl
    have he : isEff ti o = true := by
      unfold isEff
      have : stops o.op = true := by
        rw [ho]
        unfold calleeOf at hc
        split at hc
        · rename_i x hx; simp [stops, hx]
        · cases hc
      simp [this]
    refine DWp_step pl hd0 ho0 hk1 he fun E0 r0 w0 E b w hR hS a C heq hwq hC => ?_
    have hgd := gd_sound hR hg
    rw [hwq] at hgd
    rw [if_pos hgd]
    obtain ⟨vals, hrun, hral⟩ := callee_run (P := P) (fun x => ev_sound hR x) ho hc (h 0).1
    unfold Oper.wp
    rw [← heq, hrun, Oper.upon_enter]
    refine (callQ_core h hi ha hwf hp hq hv hR.good (hwk hral)).mono fun e w' hq => ?_
    obtain ⟨x, E', rfl, hra, hgood, hst, hkeep⟩ := hq
    have hrel := hR.putO hst hgood hd.1 hra
    rw [putR_eq] at hrel
    exact hC x w' E' _ hrel (hS.trans hst) (fun _ => hkeep) (ED_sound hti pl hok rest _ _ hk1 hrest hk)
end
end Go.Proofs.Ythdjblfiiogmgaa

set_option linter.unusedVariables false
set_option linter.unusedSimpArgs false
set_option maxRecDepth 100000
namespace Go.Proofs.Ythdjblfiiogmgaa
open Go Go.ChangeShapes Go.WideShapes
/-! A table that is only looked at: All, Of, Find ahead of their ranges; Len and Has of a table that is lent. -/
def tblD (L : List Fct) (m : Int) : List D := [.sl 4 L.length (flatE fctE L), .c (.int .i64 m)]
theorem bnoneL_ac (L : List Fct) (m : Int) (hm : m ≠ 0) : AC Try.prog noG 52 [.el (tblD L m)] [] (fun v r' => v = .d (.c (.bool false)) ∧ r' = []) := by
  refine AC_of_R (N := 12) (res := [.tmp 2]) ty_ok Try.call52 Try.func52 rfl rfl rfl (Nat.le_of_ble_eq_true rfl) ?_
  exact rz1 (jn @tblD.eq_1 @hm)
theorem blenL_ac (L : List Fct) (m : Int) (hm : m ≠ 0) : AC Try.prog noG 19 [.el (tblD L m)] [] (fun v r' => v = .d (.c (.int .i64 L.length)) ∧ r' = []) := by
  refine AC.fit ?_
  refine AC_of_R (N := 10) (res := [.tmp 2]) ty_ok Try.call19 Try.func19 rfl rfl rfl (Nat.le_of_ble_eq_true rfl) ?_
  have k := bnoneL_ac L m hm
  rw [tblD] at k
  refine rn1 @tblD.eq_1 ?_
  refine HO_pureA ty_ok k ?_
  refine rn0 ?_
  exact fv0 [] []
theorem bfindL_ac (L : List Fct) (m : Int) (hL : okB L) (f : Fct) (hf : f.l.length ≤ 140737488352000) : AC Try.prog noG 54 [.el (tblD L m), .d (.agg (fctE f))] [] (fun v r' => v = .tup [.d (.c (.int .i64 (posF L f))), .d (.c (.bool (decide (f ∈ L))))] ∧ r' = []) := by
  refine AC.fit ?_
  refine AC_of_R (N := 14) (res := [.tmp 4, .tmp 5]) ty_ok Try.call54 Try.func54 rfl rfl rfl (Nat.le_of_ble_eq_true rfl) ?_
  have hl := hL.len
  have kb := bsF_ac L f (posF L f) (by omega) (fun g hg => Nat.le_trans (hL.ok g hg) (by decide)) hf (posF_le L f) (posF_lt L f) (posF_ge L f hL.srt) (decide (f ∈ L)) (posF_mem hL.srt f)
  simp only [fctE, List.cons_append, List.nil_append] at kb
  refine rn1 (jn @tblD.eq_1 @fctE.eq_1) ?_
  refine HC_plan [] ty_ok mix (by kernel_rfl) ?_
  refine rn0 ?_
  refine HO_pureA ty_ok kb ?_
  refine rn0 ?_
  exact fv0 [] []
theorem bhasL_ac (L : List Fct) (m : Int) (hm : m ≠ 0) (hL : okB L) (f : Fct) (hf : f.l.length ≤ 140737488352000) : AC Try.prog noG 50 [.el (tblD L m), .d (.agg (fctE f))] [] (fun v r' => v = .d (.c (.bool (decide (f ∈ L)))) ∧ r' = []) := by
  refine AC.fit ?_
  refine AC_of_R (N := 16) (res := [.tmp 4]) ty_ok Try.call50 Try.func50 rfl rfl rfl (Nat.le_of_ble_eq_true rfl) ?_
  have k := bnoneL_ac L m hm
  have kf := bfindL_ac L m hL f hf
  rw [tblD] at k kf
  simp only [fctE, List.cons_append, List.nil_append] at kf
  refine rn1 (jn @tblD.eq_1 @fctE.eq_1) ?_
  refine HO_pureA ty_ok k ?_
  refine rn0 ?_
  refine HO_callX ty_ok [] kf (trivial) rfl ?_
  rintro v r' ⟨rfl, rfl⟩ _
  refine rn0 ?_
  exact fv0 [] []
theorem someAQ_ac (b : Nat) : AC Try.prog noG 58 [cpA b, .fn (.func 59) [] []] [] (fun v r' => v = .fn (.func 85) [] [.ptr 0 0, .ptr 1 0] ∧ r' = [some (.obj [cpA b]), some (.obj [.fn (.func 59) [] []])]) := by
  refine AC.fit ?_
  refine AC_of_R (N := 6) (res := [.tmp 4]) ty_ok Try.call58 Try.func58 rfl rfl rfl (Nat.le_of_ble_eq_true rfl) ?_
  refine rn1 @cpA.eq_1 ?_
  exact fv1 [0,1] [] @cpA.eq_1
theorem allQ_ac (b : Nat) : AC Try.prog noG 17 [cpA b] [] (fun v r' => v = .fn (.func 85) [] [.ptr 0 0, .ptr 1 0] ∧ r' = [] ++ some (.obj [cpA b]) :: [some (.obj [.fn (.func 59) [] []])]) := by
  refine AC.fit ?_
  refine AC_of_R (N := 5) (res := [.tmp 2]) ty_ok Try.call17 Try.func17 rfl rfl rfl (Nat.le_of_ble_eq_true rfl) ?_
  have k := someAQ_ac b
  rw [cpA] at k
  refine rn1 @cpA.eq_1 ?_
  refine HO_callX ty_ok [] k (trivial) rfl ?_
  rintro v r' ⟨rfl, rfl⟩ _
  refine rn0 ?_
  exact fv1 [0,1] [] @cpA.eq_1
theorem someOQ_ac (n : Nat) (a b p : ByteArray) : AC Try.prog noG 58 [cpA n, .fn (.func 66) [] [.ptr 3 0, .ptr 0 0, .ptr 1 0, .ptr 2 0]] (ofR a b p) (fun v r' => v = .fn (.func 85) [] [.ptr 4 0, .ptr 5 0] ∧ r' = ofR a b p ++ [some (.obj [cpA n]), some (.obj [.fn (.func 66) [] [.ptr 3 0, .ptr 0 0, .ptr 1 0, .ptr 2 0]])]) := by
  refine AC.fit ?_
  refine AC_of_R (N := 6) (res := [.tmp 4]) ty_ok Try.call58 Try.func58 rfl rfl rfl (Nat.le_of_ble_eq_true rfl) ?_
  refine rn1 (jn @cpA.eq_1 @ofR.eq_1) ?_
  exact fv1 [0,1,2,3,4,5] [] (jn @cpA.eq_1 @ofR.eq_1)
theorem ofQ_ac (a b p : ByteArray) (n : Nat) : AC Try.prog noG 30 [cpA n, .d (.c (.string a)), .d (.c (.string b)), .d (.c (.string p))] [] (fun v r' => v = .fn (.func 85) [] [.ptr 4 0, .ptr 5 0] ∧ r' = ofR a b p ++ some (.obj [cpA n]) :: [some (.obj [.fn (.func 66) [] [.ptr 3 0, .ptr 0 0, .ptr 1 0, .ptr 2 0]])]) := by
  refine AC.fit ?_
  refine AC_of_R (N := 13) (res := [.tmp 8]) ty_ok Try.call30 Try.func30 rfl rfl rfl (Nat.le_of_ble_eq_true rfl) ?_
  have k := someOQ_ac n a b p
  rw [cpA] at k
  refine rn1 @cpA.eq_1 ?_
  refine HO_callX ty_ok [0, 1, 2, 3] k (of_hand _ _ _ _ _ _ _ _ rfl rfl rfl rfl) (of_wf _ _ _) ?_
  rintro v r' ⟨rfl, rfl⟩ _
  refine rn1 @ofR.eq_1 ?_
  exact fv1 [0,1,2,3,4,5] [] (jn @cpA.eq_1 @ofR.eq_1)
theorem findQ_ac (p : ByteArray) (k : Int) (c : Cst) (n : Nat) : AC Try.prog noG 48 [cpA n, .d (.c (.string p)), .d (.c (.int .i64 k)), .d (.agg (cstE c))] [] (fun v r' => v = .fn (.func 76) [] [.ptr 0 0, .ptr 1 0, .ptr 2 0, .ptr 3 0] ∧ r' = [] ++ some (.obj [cpA n]) :: [some (.obj [.d (.c (.string p))]), some (.obj [.d (.c (.int .i64 k))]), some (.obj ((cstE c).map .d))]) := by
  refine AC.fit ?_
  refine AC_of_R (N := 10) (res := [.tmp 8]) ty_ok Try.call48 Try.func48 rfl rfl rfl (Nat.le_of_ble_eq_true rfl) ?_
  refine rn1 (jn @cpA.eq_1 @cstE.eq_1) ?_
  exact fv1 [0,1,2,3] [] (jn @cpA.eq_1 @cstE.eq_1)
end Go.Proofs.Ythdjblfiiogmgaa

set_option linter.unusedVariables false
set_option linter.unusedSimpArgs false
set_option maxRecDepth 100000
namespace Go.Proofs.Ythdjblfiiogmgaa
open Go Go.ChangeShapes Go.WideShapes
/-! TableDoes: what stands where; a region of a function's code. -/
/-- The region with a number. -/
def cR : Code → Nat → Option Code
  | .region id ops dr, k => if id = k then some (.region id ops dr) else none
  | .seq a b, k => (cR a k).or (cR b k)
  | .cond _ a b, k => (cR a k).or (cR b k)
  | .block _ a, k => cR a k
  | .loop a, k => cR a k
  | .scope a, k => cR a k
  | _, _ => none
def tdA (x : Actt) : Option Res := some (.obj ((aktE x).map .d))
def tdbS (l : List Actt) (T A i : Nat) : List (Nat × AV) := [(1, .d (.sl 6 l.length (flatE aktE l))), (5, .ptr T 0), (7, .ptr 1 0), (9, .d (.c (.int .i64 i))), (10, .ptr A 0), (11, .d (.c (.bool true)))]
def tdb0 (M : List Fct) (m : Int) (x : Actt) : Rs := [some (.obj (tblC M m)), some (.obj (tblC M m)), tdA x]
def tdb2 (M : List Fct) (m : Int) (x : Actt) : Rs := [none, some (.obj (tblC M m)), some (.obj (tblC M m)), tdA x]
def cs1 : Cst := ⟨true, 1, ⟨#[]⟩⟩
def tdcR : Option Res := some (.obj [.d (.c (.bool true)), .d (.c (.int .i64 1)), .d (.c (.string ⟨#[]⟩))])
theorem begT_sub (q : Int) (l : List Fct) : (begT q l).Sublist l := by
  rw [begT]; split
  · exact List.Sublist.refl _
  · exact List.take_sublist _ _
end Go.Proofs.Ythdjblfiiogmgaa

set_option linter.unusedVariables false
set_option linter.unusedSimpArgs false
set_option maxRecDepth 100000
namespace Go.Proofs.Ythdjblfiiogmgaa
open Go Go.ChangeShapes Go.WideShapes
/-! TableDoes: behind a clone, within the round. -/
def tdb3 (M : List Fct) (m : Int) (x : Actt) : Rs := [none, some (.obj (tblC M m)), tdA x, some (.obj (tblC M m))]
def tdb4 (M : List Fct) (m : Int) (x : Actt) : Rs := [none, some (.obj (tblC M m)), none, tdA x, some (.obj (tblC M m))]
end Go.Proofs.Ythdjblfiiogmgaa

set_option linter.unusedVariables false
set_option linter.unusedSimpArgs false
set_option maxRecDepth 100000
namespace Go.Proofs.Ythdjblfiiogmgaa
open Go Go.ChangeShapes Go.WideShapes
/-! TableDoes: with a row behind the act. -/
def tdb5 (M : List Fct) (m : Int) (x : Actt) : Rs := [some (.obj (tblC M m)), some (.obj (tblC M m)), tdA x, none]
def tdb6 (M : List Fct) (m : Int) (x : Actt) : Rs := [none, some (.obj (tblC M m)), some (.obj (tblC M m)), tdA x, none]
end Go.Proofs.Ythdjblfiiogmgaa

set_option linter.unusedVariables false
set_option linter.unusedSimpArgs false
set_option maxRecDepth 100000
namespace Go.Proofs.Ythdjblfiiogmgaa
open Go Go.ChangeShapes Go.WideShapes
set_option maxHeartbeats 8000000 in
theorem td23_a (l : List Actt) (i : Nat) (M : List Fct) (m : Int) (x : Actt) (hm : m ≠ 0) (hM : okB M) (hx : x.f.l.length ≤ 1000000) (K : KD) (c : Code) (hc : c = (cR (Try.f10.body.getD .skip) 23).getD .skip)
    (hk : A Try.prog ty noG 227 K .normal ⟨fun _ => .top, tdbS l 0 2 i, tdb0 M m x⟩) : HC Try.prog ty noG 227 c K ⟨fun _ => .top, tdbS l 0 2 i, tdb0 M m x⟩ := by
  have hMl := hM.len
  have kg1 := gathO_ac M hM m hm x.f.a ⟨#[]⟩ x.f.p (-1)
  have kr1 := rof_ac M m hM x.f.a ⟨#[]⟩ x.f.p
  have hbg : ∀ X : List Fct, begT (-1) X = X := fun X => by rw [begT, if_pos (by decide)]
  rw [hbg] at kg1
  have kg2 := gathO_ac M hM m hm ⟨#[]⟩ x.f.b ⟨#[]⟩ x.n
  have kr2 := rof_ac M m hM ⟨#[]⟩ x.f.b ⟨#[]⟩
  have h1 := hM.sub (List.filter_sublist (p := ofB x.f.a ⟨#[]⟩ x.f.p))
  have h2 := hM.sub (List.filter_sublist (p := ofB ⟨#[]⟩ x.f.b ⟨#[]⟩))
  have h3 := h1.len
  have h4 := h2.len
  generalize M.filter (ofB x.f.a ⟨#[]⟩ x.f.p) = F1 at *
  generalize M.filter (ofB ⟨#[]⟩ x.f.b ⟨#[]⟩) = F2 at *
  have kk1 := rlikeF_ac F1 F1 (by omega) (by omega) h1.ok h1.ok
  rw [decide_eq_true rfl] at kk1
  have kb := begin_ac F2 x.n
  have hbs := begT_sub x.n F2
  generalize begT x.n F2 = F3 at *
  have h5 := h2.sub hbs
  have h6 := h5.len
  have kk2 := rlikeF_ac F3 F3 (by omega) (by omega) h5.ok h5.ok
  rw [decide_eq_true rfl] at kk2
  subst hc
  show HC _ _ _ _ (Code.region 23 _ true) _ _
  refine HC_cutR _ _ ?_ hk
  refine HC_of_HV mix (HV_split 12 8 (by decide)
    (HV_split 15 8 (by decide)
     (HV_split 30 26 (by decide)
      (HV_split 33 26 (by decide)
       (HV_order [7, 23] ty_ok (0 :: 1 :: 2 :: 3 :: 4 :: 5 :: 6 :: 9 :: 10 :: 11 :: 12 :: 13 :: 14 :: 15 :: 7 :: 8 :: 16 :: 17 :: 18 :: 19 :: 20 :: 21 :: 22 :: 24 :: 25 :: 27 :: 28 :: 29 :: 30 :: 32 :: 33 :: 23 :: 26 :: 31 :: 34 :: 35 :: 36 :: 37 :: []) (by kernel_rfl) rfl _ rfl ?_)
       (HV_split 33 31 (by decide)
        (HV_order [7, 23] ty_ok (0 :: 1 :: 2 :: 3 :: 4 :: 5 :: 6 :: 9 :: 10 :: 11 :: 12 :: 13 :: 14 :: 15 :: 7 :: 8 :: 16 :: 17 :: 18 :: 19 :: 20 :: 21 :: 22 :: 24 :: 25 :: 27 :: 28 :: 29 :: 30 :: 32 :: 23 :: 26 :: 33 :: 31 :: 34 :: 35 :: 36 :: 37 :: []) (by kernel_rfl) rfl _ rfl ?_)
        (HV_order [7, 23] ty_ok (0 :: 1 :: 2 :: 3 :: 4 :: 5 :: 6 :: 9 :: 10 :: 11 :: 12 :: 13 :: 14 :: 15 :: 7 :: 8 :: 16 :: 17 :: 18 :: 19 :: 20 :: 21 :: 22 :: 24 :: 25 :: 27 :: 28 :: 29 :: 30 :: 32 :: 23 :: 26 :: 31 :: 33 :: 34 :: 35 :: 36 :: 37 :: []) (by kernel_rfl) rfl _ rfl ?_)))
      (HV_split 33 26 (by decide)
       (HV_order [7, 23] ty_ok (0 :: 1 :: 2 :: 3 :: 4 :: 5 :: 6 :: 9 :: 10 :: 11 :: 12 :: 13 :: 14 :: 15 :: 7 :: 8 :: 16 :: 17 :: 18 :: 19 :: 20 :: 21 :: 22 :: 24 :: 25 :: 27 :: 28 :: 29 :: 32 :: 33 :: 23 :: 26 :: 30 :: 31 :: 34 :: 35 :: 36 :: 37 :: []) (by kernel_rfl) rfl _ rfl ?_)
       (HV_split 33 31 (by decide)
        (HV_order [7, 23] ty_ok (0 :: 1 :: 2 :: 3 :: 4 :: 5 :: 6 :: 9 :: 10 :: 11 :: 12 :: 13 :: 14 :: 15 :: 7 :: 8 :: 16 :: 17 :: 18 :: 19 :: 20 :: 21 :: 22 :: 24 :: 25 :: 27 :: 28 :: 29 :: 32 :: 23 :: 26 :: 30 :: 33 :: 31 :: 34 :: 35 :: 36 :: 37 :: []) (by kernel_rfl) rfl _ rfl ?_)
        (HV_order [7, 23] ty_ok (0 :: 1 :: 2 :: 3 :: 4 :: 5 :: 6 :: 9 :: 10 :: 11 :: 12 :: 13 :: 14 :: 15 :: 7 :: 8 :: 16 :: 17 :: 18 :: 19 :: 20 :: 21 :: 22 :: 24 :: 25 :: 27 :: 28 :: 29 :: 32 :: 23 :: 26 :: 30 :: 31 :: 33 :: 34 :: 35 :: 36 :: 37 :: []) (by kernel_rfl) rfl _ rfl ?_))))
     (HV_split 30 26 (by decide)
      (HV_split 33 26 (by decide)
       (HV_order [7, 23] ty_ok (0 :: 1 :: 2 :: 3 :: 4 :: 5 :: 6 :: 9 :: 10 :: 11 :: 12 :: 13 :: 14 :: 7 :: 8 :: 15 :: 16 :: 17 :: 18 :: 19 :: 20 :: 21 :: 22 :: 24 :: 25 :: 27 :: 28 :: 29 :: 30 :: 32 :: 33 :: 23 :: 26 :: 31 :: 34 :: 35 :: 36 :: 37 :: []) (by kernel_rfl) rfl _ rfl ?_)
       (HV_split 33 31 (by decide)
        (HV_order [7, 23] ty_ok (0 :: 1 :: 2 :: 3 :: 4 :: 5 :: 6 :: 9 :: 10 :: 11 :: 12 :: 13 :: 14 :: 7 :: 8 :: 15 :: 16 :: 17 :: 18 :: 19 :: 20 :: 21 :: 22 :: 24 :: 25 :: 27 :: 28 :: 29 :: 30 :: 32 :: 23 :: 26 :: 33 :: 31 :: 34 :: 35 :: 36 :: 37 :: []) (by kernel_rfl) rfl _ rfl ?_)
        (HV_order [7, 23] ty_ok (0 :: 1 :: 2 :: 3 :: 4 :: 5 :: 6 :: 9 :: 10 :: 11 :: 12 :: 13 :: 14 :: 7 :: 8 :: 15 :: 16 :: 17 :: 18 :: 19 :: 20 :: 21 :: 22 :: 24 :: 25 :: 27 :: 28 :: 29 :: 30 :: 32 :: 23 :: 26 :: 31 :: 33 :: 34 :: 35 :: 36 :: 37 :: []) (by kernel_rfl) rfl _ rfl ?_)))
      (HV_split 33 26 (by decide)
       (HV_order [7, 23] ty_ok (0 :: 1 :: 2 :: 3 :: 4 :: 5 :: 6 :: 9 :: 10 :: 11 :: 12 :: 13 :: 14 :: 7 :: 8 :: 15 :: 16 :: 17 :: 18 :: 19 :: 20 :: 21 :: 22 :: 24 :: 25 :: 27 :: 28 :: 29 :: 32 :: 33 :: 23 :: 26 :: 30 :: 31 :: 34 :: 35 :: 36 :: 37 :: []) (by kernel_rfl) rfl _ rfl ?_)
       (HV_split 33 31 (by decide)
        (HV_order [7, 23] ty_ok (0 :: 1 :: 2 :: 3 :: 4 :: 5 :: 6 :: 9 :: 10 :: 11 :: 12 :: 13 :: 14 :: 7 :: 8 :: 15 :: 16 :: 17 :: 18 :: 19 :: 20 :: 21 :: 22 :: 24 :: 25 :: 27 :: 28 :: 29 :: 32 :: 23 :: 26 :: 30 :: 33 :: 31 :: 34 :: 35 :: 36 :: 37 :: []) (by kernel_rfl) rfl _ rfl ?_)
        (HV_order [7, 23] ty_ok (0 :: 1 :: 2 :: 3 :: 4 :: 5 :: 6 :: 9 :: 10 :: 11 :: 12 :: 13 :: 14 :: 7 :: 8 :: 15 :: 16 :: 17 :: 18 :: 19 :: 20 :: 21 :: 22 :: 24 :: 25 :: 27 :: 28 :: 29 :: 32 :: 23 :: 26 :: 30 :: 31 :: 33 :: 34 :: 35 :: 36 :: 37 :: []) (by kernel_rfl) rfl _ rfl ?_)))))
    (HV_split 15 8 (by decide)
     (HV_split 30 26 (by decide)
      (HV_split 33 26 (by decide)
       (HV_order [7, 23] ty_ok (0 :: 1 :: 2 :: 3 :: 4 :: 5 :: 6 :: 9 :: 10 :: 11 :: 13 :: 14 :: 15 :: 7 :: 8 :: 12 :: 16 :: 17 :: 18 :: 19 :: 20 :: 21 :: 22 :: 24 :: 25 :: 27 :: 28 :: 29 :: 30 :: 32 :: 33 :: 23 :: 26 :: 31 :: 34 :: 35 :: 36 :: 37 :: []) (by kernel_rfl) rfl _ rfl ?_)
       (HV_split 33 31 (by decide)
        (HV_order [7, 23] ty_ok (0 :: 1 :: 2 :: 3 :: 4 :: 5 :: 6 :: 9 :: 10 :: 11 :: 13 :: 14 :: 15 :: 7 :: 8 :: 12 :: 16 :: 17 :: 18 :: 19 :: 20 :: 21 :: 22 :: 24 :: 25 :: 27 :: 28 :: 29 :: 30 :: 32 :: 23 :: 26 :: 33 :: 31 :: 34 :: 35 :: 36 :: 37 :: []) (by kernel_rfl) rfl _ rfl ?_)
        (HV_order [7, 23] ty_ok (0 :: 1 :: 2 :: 3 :: 4 :: 5 :: 6 :: 9 :: 10 :: 11 :: 13 :: 14 :: 15 :: 7 :: 8 :: 12 :: 16 :: 17 :: 18 :: 19 :: 20 :: 21 :: 22 :: 24 :: 25 :: 27 :: 28 :: 29 :: 30 :: 32 :: 23 :: 26 :: 31 :: 33 :: 34 :: 35 :: 36 :: 37 :: []) (by kernel_rfl) rfl _ rfl ?_)))
      (HV_split 33 26 (by decide)
       (HV_order [7, 23] ty_ok (0 :: 1 :: 2 :: 3 :: 4 :: 5 :: 6 :: 9 :: 10 :: 11 :: 13 :: 14 :: 15 :: 7 :: 8 :: 12 :: 16 :: 17 :: 18 :: 19 :: 20 :: 21 :: 22 :: 24 :: 25 :: 27 :: 28 :: 29 :: 32 :: 33 :: 23 :: 26 :: 30 :: 31 :: 34 :: 35 :: 36 :: 37 :: []) (by kernel_rfl) rfl _ rfl ?_)
       (HV_split 33 31 (by decide)
        (HV_order [7, 23] ty_ok (0 :: 1 :: 2 :: 3 :: 4 :: 5 :: 6 :: 9 :: 10 :: 11 :: 13 :: 14 :: 15 :: 7 :: 8 :: 12 :: 16 :: 17 :: 18 :: 19 :: 20 :: 21 :: 22 :: 24 :: 25 :: 27 :: 28 :: 29 :: 32 :: 23 :: 26 :: 30 :: 33 :: 31 :: 34 :: 35 :: 36 :: 37 :: []) (by kernel_rfl) rfl _ rfl ?_)
        (HV_order [7, 23] ty_ok (0 :: 1 :: 2 :: 3 :: 4 :: 5 :: 6 :: 9 :: 10 :: 11 :: 13 :: 14 :: 15 :: 7 :: 8 :: 12 :: 16 :: 17 :: 18 :: 19 :: 20 :: 21 :: 22 :: 24 :: 25 :: 27 :: 28 :: 29 :: 32 :: 23 :: 26 :: 30 :: 31 :: 33 :: 34 :: 35 :: 36 :: 37 :: []) (by kernel_rfl) rfl _ rfl ?_))))
     (HV_split 30 26 (by decide)
      (HV_split 33 26 (by decide)
       (HV_order [23] ty_ok (0 :: 1 :: 2 :: 3 :: 4 :: 5 :: 6 :: 9 :: 10 :: 11 :: 13 :: 14 :: 7 :: 8 :: 12 :: 15 :: 16 :: 17 :: 18 :: 19 :: 20 :: 21 :: 22 :: 24 :: 25 :: 27 :: 28 :: 29 :: 30 :: 32 :: 33 :: 23 :: 26 :: 31 :: 34 :: 35 :: 36 :: 37 :: []) (by kernel_rfl) rfl _ rfl ?_)
       (HV_split 33 31 (by decide)
        (HV_order [23] ty_ok (0 :: 1 :: 2 :: 3 :: 4 :: 5 :: 6 :: 9 :: 10 :: 11 :: 13 :: 14 :: 7 :: 8 :: 12 :: 15 :: 16 :: 17 :: 18 :: 19 :: 20 :: 21 :: 22 :: 24 :: 25 :: 27 :: 28 :: 29 :: 30 :: 32 :: 23 :: 26 :: 33 :: 31 :: 34 :: 35 :: 36 :: 37 :: []) (by kernel_rfl) rfl _ rfl ?_)
        (HV_order [23] ty_ok (0 :: 1 :: 2 :: 3 :: 4 :: 5 :: 6 :: 9 :: 10 :: 11 :: 13 :: 14 :: 7 :: 8 :: 12 :: 15 :: 16 :: 17 :: 18 :: 19 :: 20 :: 21 :: 22 :: 24 :: 25 :: 27 :: 28 :: 29 :: 30 :: 32 :: 23 :: 26 :: 31 :: 33 :: 34 :: 35 :: 36 :: 37 :: []) (by kernel_rfl) rfl _ rfl ?_)))
      (HV_split 33 26 (by decide)
       (HV_order [23] ty_ok (0 :: 1 :: 2 :: 3 :: 4 :: 5 :: 6 :: 9 :: 10 :: 11 :: 13 :: 14 :: 7 :: 8 :: 12 :: 15 :: 16 :: 17 :: 18 :: 19 :: 20 :: 21 :: 22 :: 24 :: 25 :: 27 :: 28 :: 29 :: 32 :: 33 :: 23 :: 26 :: 30 :: 31 :: 34 :: 35 :: 36 :: 37 :: []) (by kernel_rfl) rfl _ rfl ?_)
       (HV_split 33 31 (by decide)
        (HV_order [23] ty_ok (0 :: 1 :: 2 :: 3 :: 4 :: 5 :: 6 :: 9 :: 10 :: 11 :: 13 :: 14 :: 7 :: 8 :: 12 :: 15 :: 16 :: 17 :: 18 :: 19 :: 20 :: 21 :: 22 :: 24 :: 25 :: 27 :: 28 :: 29 :: 32 :: 23 :: 26 :: 30 :: 33 :: 31 :: 34 :: 35 :: 36 :: 37 :: []) (by kernel_rfl) rfl _ rfl ?_)
        (HV_order [23] ty_ok (0 :: 1 :: 2 :: 3 :: 4 :: 5 :: 6 :: 9 :: 10 :: 11 :: 13 :: 14 :: 7 :: 8 :: 12 :: 15 :: 16 :: 17 :: 18 :: 19 :: 20 :: 21 :: 22 :: 24 :: 25 :: 27 :: 28 :: 29 :: 32 :: 23 :: 26 :: 30 :: 31 :: 33 :: 34 :: 35 :: 36 :: 37 :: []) (by kernel_rfl) rfl _ rfl ?_))))))
  all_goals
    simp only [addAt, opl_nil', opl_cons', oplC_some, List.getElem?_toArray, List.getElem?_cons_zero, List.getElem?_cons_succ]
    refine rn1 (jn @tdbS.eq_1 (jn @tdb0.eq_1 (jn @tdb2.eq_1 (jn @tdA.eq_1 (jn @tdcR.eq_1 (jn @tblC.eq_1 (jn @aktE.eq_1 (jn @fctE.eq_1 @cstE.eq_1)))))))) ?_
    refine HO_callQ ty_ok (i := 0) (ofQ_ac x.f.a ⟨#[]⟩ x.f.p) rfl rfl rfl (by kernel_rfl) rfl (fun _ => rfl) rfl (by repeat' (first | exact trivial | exact WeakA.refl _ | exact WeakA.toD rfl | refine ⟨?_, ?_⟩)) rfl rfl rfl ?_
    refine rn1 (jn @bO.eq_1 (jn @ofR.eq_1 (jn @tbl.eq_1 @tblC.eq_1))) ?_
    refine HO_callX ty_ok [0,3,4,5,6,7,8] kg1 (bO_hand _ _ _ _ _ _ _ _ _ _ _ _ _ rfl rfl rfl rfl rfl rfl rfl) (bO_wf _ _ _ _ _) ?_
    rintro v r' ⟨rfl, rfl⟩ _
    refine rn1 (jn @bO.eq_1 (jn @ofR.eq_1 (jn @tbl.eq_1 @tblC.eq_1))) ?_
    refine HO_callX ty_ok [1] kr1 (tbl_hand _ _ _ _ rfl) (tbl_wf _ _) ?_
    rintro v r' ⟨rfl, rfl⟩ _
    refine rn1 (jn @tbl.eq_1 @tblC.eq_1) ?_
    refine HO_pureA ty_ok kk1 ?_
    refine rn0 ?_
    refine HO_callQ ty_ok (i := 0) (ofQ_ac ⟨#[]⟩ x.f.b ⟨#[]⟩) rfl rfl rfl (by kernel_rfl) rfl (fun _ => rfl) rfl (by repeat' (first | exact trivial | exact WeakA.refl _ | exact WeakA.toD rfl | refine ⟨?_, ?_⟩)) rfl rfl rfl ?_
    refine rn1 (jn @bO.eq_1 (jn @ofR.eq_1 (jn @tbl.eq_1 @tblC.eq_1))) ?_
    refine HO_callX ty_ok [0,9,10,11,12,13,14] kg2 (bO_hand _ _ _ _ _ _ _ _ _ _ _ _ _ rfl rfl rfl rfl rfl rfl rfl) (bO_wf _ _ _ _ _) ?_
    rintro v r' ⟨rfl, rfl⟩ _
    refine rn1 (jn @bO.eq_1 (jn @ofR.eq_1 (jn @tbl.eq_1 @tblC.eq_1))) ?_
    refine HO_callX ty_ok [1] kr2 (tbl_hand _ _ _ _ rfl) (tbl_wf _ _) ?_
    rintro v r' ⟨rfl, rfl⟩ _
    refine rn1 (jn @tbl.eq_1 @tblC.eq_1) ?_
    refine HO_pureA ty_ok kb ?_
    refine rn0 ?_
    refine HO_pureA ty_ok kk2 ?_
    refine rn0 ?_
    refine ⟨[0, 1, 2], [], ?_⟩
    exact ft1 (jn @tdbS.eq_1 (jn @tdb0.eq_1 (jn @tdb2.eq_1 (jn @tdA.eq_1 (jn @tdcR.eq_1 (jn @tblC.eq_1 (jn @aktE.eq_1 (jn @fctE.eq_1 @cstE.eq_1))))))))
end Go.Proofs.Ythdjblfiiogmgaa

set_option linter.unusedVariables false
set_option linter.unusedSimpArgs false
set_option maxRecDepth 100000
namespace Go.Proofs.Ythdjblfiiogmgaa
open Go Go.ChangeShapes Go.WideShapes
set_option maxHeartbeats 8000000 in
theorem td23_b (l : List Actt) (i : Nat) (M : List Fct) (m : Int) (x : Actt) (hm : m ≠ 0) (hM : okB M) (hx : x.f.l.length ≤ 1000000) (K : KD) (c : Code) (hc : c = (cR (Try.f10.body.getD .skip) 23).getD .skip)
    (hk : A Try.prog ty noG 227 K .normal ⟨fun _ => .top, tdbS l 2 3 i, tdb2 M m x⟩) : HC Try.prog ty noG 227 c K ⟨fun _ => .top, tdbS l 2 3 i, tdb2 M m x⟩ := by
  have hMl := hM.len
  have kg1 := gathO_ac M hM m hm x.f.a ⟨#[]⟩ x.f.p (-1)
  have kr1 := rof_ac M m hM x.f.a ⟨#[]⟩ x.f.p
  have hbg : ∀ X : List Fct, begT (-1) X = X := fun X => by rw [begT, if_pos (by decide)]
  rw [hbg] at kg1
  have kg2 := gathO_ac M hM m hm ⟨#[]⟩ x.f.b ⟨#[]⟩ x.n
  have kr2 := rof_ac M m hM ⟨#[]⟩ x.f.b ⟨#[]⟩
  have h1 := hM.sub (List.filter_sublist (p := ofB x.f.a ⟨#[]⟩ x.f.p))
  have h2 := hM.sub (List.filter_sublist (p := ofB ⟨#[]⟩ x.f.b ⟨#[]⟩))
  have h3 := h1.len
  have h4 := h2.len
  generalize M.filter (ofB x.f.a ⟨#[]⟩ x.f.p) = F1 at *
  generalize M.filter (ofB ⟨#[]⟩ x.f.b ⟨#[]⟩) = F2 at *
  have kk1 := rlikeF_ac F1 F1 (by omega) (by omega) h1.ok h1.ok
  rw [decide_eq_true rfl] at kk1
  have kb := begin_ac F2 x.n
  have hbs := begT_sub x.n F2
  generalize begT x.n F2 = F3 at *
  have h5 := h2.sub hbs
  have h6 := h5.len
  have kk2 := rlikeF_ac F3 F3 (by omega) (by omega) h5.ok h5.ok
  rw [decide_eq_true rfl] at kk2
  subst hc
  show HC _ _ _ _ (Code.region 23 _ true) _ _
  refine HC_cutR _ _ ?_ hk
  refine HC_of_HV mix (HV_split 12 8 (by decide)
    (HV_split 15 8 (by decide)
     (HV_split 30 26 (by decide)
      (HV_split 33 26 (by decide)
       (HV_order [7, 23] ty_ok (0 :: 1 :: 2 :: 3 :: 4 :: 5 :: 6 :: 9 :: 10 :: 11 :: 12 :: 13 :: 14 :: 15 :: 7 :: 8 :: 16 :: 17 :: 18 :: 19 :: 20 :: 21 :: 22 :: 24 :: 25 :: 27 :: 28 :: 29 :: 30 :: 32 :: 33 :: 23 :: 26 :: 31 :: 34 :: 35 :: 36 :: 37 :: []) (by kernel_rfl) rfl _ rfl ?_)
       (HV_split 33 31 (by decide)
        (HV_order [7, 23] ty_ok (0 :: 1 :: 2 :: 3 :: 4 :: 5 :: 6 :: 9 :: 10 :: 11 :: 12 :: 13 :: 14 :: 15 :: 7 :: 8 :: 16 :: 17 :: 18 :: 19 :: 20 :: 21 :: 22 :: 24 :: 25 :: 27 :: 28 :: 29 :: 30 :: 32 :: 23 :: 26 :: 33 :: 31 :: 34 :: 35 :: 36 :: 37 :: []) (by kernel_rfl) rfl _ rfl ?_)
        (HV_order [7, 23] ty_ok (0 :: 1 :: 2 :: 3 :: 4 :: 5 :: 6 :: 9 :: 10 :: 11 :: 12 :: 13 :: 14 :: 15 :: 7 :: 8 :: 16 :: 17 :: 18 :: 19 :: 20 :: 21 :: 22 :: 24 :: 25 :: 27 :: 28 :: 29 :: 30 :: 32 :: 23 :: 26 :: 31 :: 33 :: 34 :: 35 :: 36 :: 37 :: []) (by kernel_rfl) rfl _ rfl ?_)))
      (HV_split 33 26 (by decide)
       (HV_order [7, 23] ty_ok (0 :: 1 :: 2 :: 3 :: 4 :: 5 :: 6 :: 9 :: 10 :: 11 :: 12 :: 13 :: 14 :: 15 :: 7 :: 8 :: 16 :: 17 :: 18 :: 19 :: 20 :: 21 :: 22 :: 24 :: 25 :: 27 :: 28 :: 29 :: 32 :: 33 :: 23 :: 26 :: 30 :: 31 :: 34 :: 35 :: 36 :: 37 :: []) (by kernel_rfl) rfl _ rfl ?_)
       (HV_split 33 31 (by decide)
        (HV_order [7, 23] ty_ok (0 :: 1 :: 2 :: 3 :: 4 :: 5 :: 6 :: 9 :: 10 :: 11 :: 12 :: 13 :: 14 :: 15 :: 7 :: 8 :: 16 :: 17 :: 18 :: 19 :: 20 :: 21 :: 22 :: 24 :: 25 :: 27 :: 28 :: 29 :: 32 :: 23 :: 26 :: 30 :: 33 :: 31 :: 34 :: 35 :: 36 :: 37 :: []) (by kernel_rfl) rfl _ rfl ?_)
        (HV_order [7, 23] ty_ok (0 :: 1 :: 2 :: 3 :: 4 :: 5 :: 6 :: 9 :: 10 :: 11 :: 12 :: 13 :: 14 :: 15 :: 7 :: 8 :: 16 :: 17 :: 18 :: 19 :: 20 :: 21 :: 22 :: 24 :: 25 :: 27 :: 28 :: 29 :: 32 :: 23 :: 26 :: 30 :: 31 :: 33 :: 34 :: 35 :: 36 :: 37 :: []) (by kernel_rfl) rfl _ rfl ?_))))
     (HV_split 30 26 (by decide)
      (HV_split 33 26 (by decide)
       (HV_order [7, 23] ty_ok (0 :: 1 :: 2 :: 3 :: 4 :: 5 :: 6 :: 9 :: 10 :: 11 :: 12 :: 13 :: 14 :: 7 :: 8 :: 15 :: 16 :: 17 :: 18 :: 19 :: 20 :: 21 :: 22 :: 24 :: 25 :: 27 :: 28 :: 29 :: 30 :: 32 :: 33 :: 23 :: 26 :: 31 :: 34 :: 35 :: 36 :: 37 :: []) (by kernel_rfl) rfl _ rfl ?_)
       (HV_split 33 31 (by decide)
        (HV_order [7, 23] ty_ok (0 :: 1 :: 2 :: 3 :: 4 :: 5 :: 6 :: 9 :: 10 :: 11 :: 12 :: 13 :: 14 :: 7 :: 8 :: 15 :: 16 :: 17 :: 18 :: 19 :: 20 :: 21 :: 22 :: 24 :: 25 :: 27 :: 28 :: 29 :: 30 :: 32 :: 23 :: 26 :: 33 :: 31 :: 34 :: 35 :: 36 :: 37 :: []) (by kernel_rfl) rfl _ rfl ?_)
        (HV_order [7, 23] ty_ok (0 :: 1 :: 2 :: 3 :: 4 :: 5 :: 6 :: 9 :: 10 :: 11 :: 12 :: 13 :: 14 :: 7 :: 8 :: 15 :: 16 :: 17 :: 18 :: 19 :: 20 :: 21 :: 22 :: 24 :: 25 :: 27 :: 28 :: 29 :: 30 :: 32 :: 23 :: 26 :: 31 :: 33 :: 34 :: 35 :: 36 :: 37 :: []) (by kernel_rfl) rfl _ rfl ?_)))
      (HV_split 33 26 (by decide)
       (HV_order [7, 23] ty_ok (0 :: 1 :: 2 :: 3 :: 4 :: 5 :: 6 :: 9 :: 10 :: 11 :: 12 :: 13 :: 14 :: 7 :: 8 :: 15 :: 16 :: 17 :: 18 :: 19 :: 20 :: 21 :: 22 :: 24 :: 25 :: 27 :: 28 :: 29 :: 32 :: 33 :: 23 :: 26 :: 30 :: 31 :: 34 :: 35 :: 36 :: 37 :: []) (by kernel_rfl) rfl _ rfl ?_)
       (HV_split 33 31 (by decide)
        (HV_order [7, 23] ty_ok (0 :: 1 :: 2 :: 3 :: 4 :: 5 :: 6 :: 9 :: 10 :: 11 :: 12 :: 13 :: 14 :: 7 :: 8 :: 15 :: 16 :: 17 :: 18 :: 19 :: 20 :: 21 :: 22 :: 24 :: 25 :: 27 :: 28 :: 29 :: 32 :: 23 :: 26 :: 30 :: 33 :: 31 :: 34 :: 35 :: 36 :: 37 :: []) (by kernel_rfl) rfl _ rfl ?_)
        (HV_order [7, 23] ty_ok (0 :: 1 :: 2 :: 3 :: 4 :: 5 :: 6 :: 9 :: 10 :: 11 :: 12 :: 13 :: 14 :: 7 :: 8 :: 15 :: 16 :: 17 :: 18 :: 19 :: 20 :: 21 :: 22 :: 24 :: 25 :: 27 :: 28 :: 29 :: 32 :: 23 :: 26 :: 30 :: 31 :: 33 :: 34 :: 35 :: 36 :: 37 :: []) (by kernel_rfl) rfl _ rfl ?_)))))
    (HV_split 15 8 (by decide)
     (HV_split 30 26 (by decide)
      (HV_split 33 26 (by decide)
       (HV_order [7, 23] ty_ok (0 :: 1 :: 2 :: 3 :: 4 :: 5 :: 6 :: 9 :: 10 :: 11 :: 13 :: 14 :: 15 :: 7 :: 8 :: 12 :: 16 :: 17 :: 18 :: 19 :: 20 :: 21 :: 22 :: 24 :: 25 :: 27 :: 28 :: 29 :: 30 :: 32 :: 33 :: 23 :: 26 :: 31 :: 34 :: 35 :: 36 :: 37 :: []) (by kernel_rfl) rfl _ rfl ?_)
       (HV_split 33 31 (by decide)
        (HV_order [7, 23] ty_ok (0 :: 1 :: 2 :: 3 :: 4 :: 5 :: 6 :: 9 :: 10 :: 11 :: 13 :: 14 :: 15 :: 7 :: 8 :: 12 :: 16 :: 17 :: 18 :: 19 :: 20 :: 21 :: 22 :: 24 :: 25 :: 27 :: 28 :: 29 :: 30 :: 32 :: 23 :: 26 :: 33 :: 31 :: 34 :: 35 :: 36 :: 37 :: []) (by kernel_rfl) rfl _ rfl ?_)
        (HV_order [7, 23] ty_ok (0 :: 1 :: 2 :: 3 :: 4 :: 5 :: 6 :: 9 :: 10 :: 11 :: 13 :: 14 :: 15 :: 7 :: 8 :: 12 :: 16 :: 17 :: 18 :: 19 :: 20 :: 21 :: 22 :: 24 :: 25 :: 27 :: 28 :: 29 :: 30 :: 32 :: 23 :: 26 :: 31 :: 33 :: 34 :: 35 :: 36 :: 37 :: []) (by kernel_rfl) rfl _ rfl ?_)))
      (HV_split 33 26 (by decide)
       (HV_order [7, 23] ty_ok (0 :: 1 :: 2 :: 3 :: 4 :: 5 :: 6 :: 9 :: 10 :: 11 :: 13 :: 14 :: 15 :: 7 :: 8 :: 12 :: 16 :: 17 :: 18 :: 19 :: 20 :: 21 :: 22 :: 24 :: 25 :: 27 :: 28 :: 29 :: 32 :: 33 :: 23 :: 26 :: 30 :: 31 :: 34 :: 35 :: 36 :: 37 :: []) (by kernel_rfl) rfl _ rfl ?_)
       (HV_split 33 31 (by decide)
        (HV_order [7, 23] ty_ok (0 :: 1 :: 2 :: 3 :: 4 :: 5 :: 6 :: 9 :: 10 :: 11 :: 13 :: 14 :: 15 :: 7 :: 8 :: 12 :: 16 :: 17 :: 18 :: 19 :: 20 :: 21 :: 22 :: 24 :: 25 :: 27 :: 28 :: 29 :: 32 :: 23 :: 26 :: 30 :: 33 :: 31 :: 34 :: 35 :: 36 :: 37 :: []) (by kernel_rfl) rfl _ rfl ?_)
        (HV_order [7, 23] ty_ok (0 :: 1 :: 2 :: 3 :: 4 :: 5 :: 6 :: 9 :: 10 :: 11 :: 13 :: 14 :: 15 :: 7 :: 8 :: 12 :: 16 :: 17 :: 18 :: 19 :: 20 :: 21 :: 22 :: 24 :: 25 :: 27 :: 28 :: 29 :: 32 :: 23 :: 26 :: 30 :: 31 :: 33 :: 34 :: 35 :: 36 :: 37 :: []) (by kernel_rfl) rfl _ rfl ?_))))
     (HV_split 30 26 (by decide)
      (HV_split 33 26 (by decide)
       (HV_order [23] ty_ok (0 :: 1 :: 2 :: 3 :: 4 :: 5 :: 6 :: 9 :: 10 :: 11 :: 13 :: 14 :: 7 :: 8 :: 12 :: 15 :: 16 :: 17 :: 18 :: 19 :: 20 :: 21 :: 22 :: 24 :: 25 :: 27 :: 28 :: 29 :: 30 :: 32 :: 33 :: 23 :: 26 :: 31 :: 34 :: 35 :: 36 :: 37 :: []) (by kernel_rfl) rfl _ rfl ?_)
       (HV_split 33 31 (by decide)
        (HV_order [23] ty_ok (0 :: 1 :: 2 :: 3 :: 4 :: 5 :: 6 :: 9 :: 10 :: 11 :: 13 :: 14 :: 7 :: 8 :: 12 :: 15 :: 16 :: 17 :: 18 :: 19 :: 20 :: 21 :: 22 :: 24 :: 25 :: 27 :: 28 :: 29 :: 30 :: 32 :: 23 :: 26 :: 33 :: 31 :: 34 :: 35 :: 36 :: 37 :: []) (by kernel_rfl) rfl _ rfl ?_)
        (HV_order [23] ty_ok (0 :: 1 :: 2 :: 3 :: 4 :: 5 :: 6 :: 9 :: 10 :: 11 :: 13 :: 14 :: 7 :: 8 :: 12 :: 15 :: 16 :: 17 :: 18 :: 19 :: 20 :: 21 :: 22 :: 24 :: 25 :: 27 :: 28 :: 29 :: 30 :: 32 :: 23 :: 26 :: 31 :: 33 :: 34 :: 35 :: 36 :: 37 :: []) (by kernel_rfl) rfl _ rfl ?_)))
      (HV_split 33 26 (by decide)
       (HV_order [23] ty_ok (0 :: 1 :: 2 :: 3 :: 4 :: 5 :: 6 :: 9 :: 10 :: 11 :: 13 :: 14 :: 7 :: 8 :: 12 :: 15 :: 16 :: 17 :: 18 :: 19 :: 20 :: 21 :: 22 :: 24 :: 25 :: 27 :: 28 :: 29 :: 32 :: 33 :: 23 :: 26 :: 30 :: 31 :: 34 :: 35 :: 36 :: 37 :: []) (by kernel_rfl) rfl _ rfl ?_)
       (HV_split 33 31 (by decide)
        (HV_order [23] ty_ok (0 :: 1 :: 2 :: 3 :: 4 :: 5 :: 6 :: 9 :: 10 :: 11 :: 13 :: 14 :: 7 :: 8 :: 12 :: 15 :: 16 :: 17 :: 18 :: 19 :: 20 :: 21 :: 22 :: 24 :: 25 :: 27 :: 28 :: 29 :: 32 :: 23 :: 26 :: 30 :: 33 :: 31 :: 34 :: 35 :: 36 :: 37 :: []) (by kernel_rfl) rfl _ rfl ?_)
        (HV_order [23] ty_ok (0 :: 1 :: 2 :: 3 :: 4 :: 5 :: 6 :: 9 :: 10 :: 11 :: 13 :: 14 :: 7 :: 8 :: 12 :: 15 :: 16 :: 17 :: 18 :: 19 :: 20 :: 21 :: 22 :: 24 :: 25 :: 27 :: 28 :: 29 :: 32 :: 23 :: 26 :: 30 :: 31 :: 33 :: 34 :: 35 :: 36 :: 37 :: []) (by kernel_rfl) rfl _ rfl ?_))))))
  all_goals
    simp only [addAt, opl_nil', opl_cons', oplC_some, List.getElem?_toArray, List.getElem?_cons_zero, List.getElem?_cons_succ]
    refine rn1 (jn @tdbS.eq_1 (jn @tdb0.eq_1 (jn @tdb2.eq_1 (jn @tdA.eq_1 (jn @tdcR.eq_1 (jn @tblC.eq_1 (jn @aktE.eq_1 (jn @fctE.eq_1 @cstE.eq_1)))))))) ?_
    refine HO_callQ ty_ok (i := 2) (ofQ_ac x.f.a ⟨#[]⟩ x.f.p) rfl rfl rfl (by kernel_rfl) rfl (fun _ => rfl) rfl (by repeat' (first | exact trivial | exact WeakA.refl _ | exact WeakA.toD rfl | refine ⟨?_, ?_⟩)) rfl rfl rfl ?_
    refine rn1 (jn @bO.eq_1 (jn @ofR.eq_1 (jn @tbl.eq_1 @tblC.eq_1))) ?_
    refine HO_callX ty_ok [2,4,5,6,7,8,9] kg1 (bO_hand _ _ _ _ _ _ _ _ _ _ _ _ _ rfl rfl rfl rfl rfl rfl rfl) (bO_wf _ _ _ _ _) ?_
    rintro v r' ⟨rfl, rfl⟩ _
    refine rn1 (jn @bO.eq_1 (jn @ofR.eq_1 (jn @tbl.eq_1 @tblC.eq_1))) ?_
    refine HO_callX ty_ok [1] kr1 (tbl_hand _ _ _ _ rfl) (tbl_wf _ _) ?_
    rintro v r' ⟨rfl, rfl⟩ _
    refine rn1 (jn @tbl.eq_1 @tblC.eq_1) ?_
    refine HO_pureA ty_ok kk1 ?_
    refine rn0 ?_
    refine HO_callQ ty_ok (i := 2) (ofQ_ac ⟨#[]⟩ x.f.b ⟨#[]⟩) rfl rfl rfl (by kernel_rfl) rfl (fun _ => rfl) rfl (by repeat' (first | exact trivial | exact WeakA.refl _ | exact WeakA.toD rfl | refine ⟨?_, ?_⟩)) rfl rfl rfl ?_
    refine rn1 (jn @bO.eq_1 (jn @ofR.eq_1 (jn @tbl.eq_1 @tblC.eq_1))) ?_
    refine HO_callX ty_ok [2,10,11,12,13,14,15] kg2 (bO_hand _ _ _ _ _ _ _ _ _ _ _ _ _ rfl rfl rfl rfl rfl rfl rfl) (bO_wf _ _ _ _ _) ?_
    rintro v r' ⟨rfl, rfl⟩ _
    refine rn1 (jn @bO.eq_1 (jn @ofR.eq_1 (jn @tbl.eq_1 @tblC.eq_1))) ?_
    refine HO_callX ty_ok [1] kr2 (tbl_hand _ _ _ _ rfl) (tbl_wf _ _) ?_
    rintro v r' ⟨rfl, rfl⟩ _
    refine rn1 (jn @tbl.eq_1 @tblC.eq_1) ?_
    refine HO_pureA ty_ok kb ?_
    refine rn0 ?_
    refine HO_pureA ty_ok kk2 ?_
    refine rn0 ?_
    refine ⟨[0, 1, 2, 3], [], ?_⟩
    exact ft1 (jn @tdbS.eq_1 (jn @tdb0.eq_1 (jn @tdb2.eq_1 (jn @tdA.eq_1 (jn @tdcR.eq_1 (jn @tblC.eq_1 (jn @aktE.eq_1 (jn @fctE.eq_1 @cstE.eq_1))))))))
end Go.Proofs.Ythdjblfiiogmgaa

set_option linter.unusedVariables false
set_option linter.unusedSimpArgs false
set_option maxRecDepth 100000
namespace Go.Proofs.Ythdjblfiiogmgaa
open Go Go.ChangeShapes Go.WideShapes
set_option maxHeartbeats 8000000 in
theorem td28_a (l : List Actt) (i : Nat) (M : List Fct) (m : Int) (x : Actt) (hm : m ≠ 0) (hM : okB M) (hx : x.f.l.length ≤ 1000000) (k : Nat) (hkt : k < x.f.l.length) (K : KD) (c : Code) (hc : c = (cR (Try.f10.body.getD .skip) 28).getD .skip)
    (hk : A Try.prog ty noG 227 K .normal ⟨fun _ => .top, (13, .d (.c (.int .i64 (k : Int)))) :: tdbS l 0 2 i, tdb0 M m x⟩) : HC Try.prog ty noG 227 c K ⟨fun _ => .top, (13, .d (.c (.int .i64 (k : Int)))) :: tdbS l 0 2 i, tdb0 M m x⟩ := by
  have hMl := hM.len
  have hkI : (k : Int) < x.f.l.length := by omega
  have hdk := flatE_drop cstE_len x.f.l k hkt
  have hlk := flatE_len cstE_len x.f.l
  generalize x.f.l[k] = a at *
  have kf := findQ_ac x.f.p k a
  have kg := gathF_ac M hM m hm x.f.p k a
  have kr := rfind_ac M m hM x.f.p k a
  have h1 := hM.sub (List.filter_sublist (p := fndB x.f.p k a))
  have h3 := h1.len
  generalize M.filter (fndB x.f.p k a) = F1 at *
  have kk := rlikeF_ac F1 F1 (by omega) (by omega) h1.ok h1.ok
  rw [decide_eq_true rfl] at kk
  rw [fnF] at kg
  simp only [cstE, List.cons_append, List.nil_append] at hdk kf kr
  subst hc
  show HC _ _ _ _ (Code.region 28 _ true) _ _
  refine HC_cutR _ _ ?_ hk
  refine HC_of_HV mix (HV_split 18 14 (by decide)
    (HV_split 22 14 (by decide)
     (HV_split 25 14 (by decide)
      (HV_order [13] ty_ok [0, 1, 2, 3, 4, 5, 6, 7, 8, 9, 10, 11, 12, 15, 16, 17, 18, 19, 20, 21, 22, 23, 24, 25, 13, 14, 26, 27, 28, 29] (by kernel_rfl) rfl _ rfl ?_)
      (HV_order [13] ty_ok [0, 1, 2, 3, 4, 5, 6, 7, 8, 9, 10, 11, 12, 15, 16, 17, 18, 19, 20, 21, 22, 23, 24, 13, 14, 25, 26, 27, 28, 29] (by kernel_rfl) rfl _ rfl ?_))
     (HV_order [13] ty_ok [0, 1, 2, 3, 4, 5, 6, 7, 8, 9, 10, 11, 12, 15, 16, 17, 18, 19, 20, 21, 23, 13, 14, 22, 24, 25, 26, 27, 28, 29] (by kernel_rfl) rfl _ rfl ?_))
    (HV_split 22 14 (by decide)
     (HV_split 25 14 (by decide)
      (HV_order [13] ty_ok [0, 1, 2, 3, 4, 5, 6, 7, 8, 9, 10, 11, 12, 15, 16, 17, 19, 20, 21, 22, 23, 24, 25, 13, 14, 18, 26, 27, 28, 29] (by kernel_rfl) rfl _ rfl ?_)
      (HV_order [13] ty_ok [0, 1, 2, 3, 4, 5, 6, 7, 8, 9, 10, 11, 12, 15, 16, 17, 19, 20, 21, 22, 23, 24, 13, 14, 18, 25, 26, 27, 28, 29] (by kernel_rfl) rfl _ rfl ?_))
     (HV_order [] ty_ok [0, 1, 2, 3, 4, 5, 6, 7, 8, 9, 10, 11, 12, 15, 16, 17, 19, 20, 21, 23, 13, 14, 18, 22, 24, 25, 26, 27, 28, 29] (by kernel_rfl) rfl _ rfl ?_)))
  all_goals
    simp only [addAt, opl_nil', opl_cons', oplC_some, List.getElem?_toArray, List.getElem?_cons_zero, List.getElem?_cons_succ]
    refine rn1 (jn @tdbS.eq_1 (jn @tdb0.eq_1 (jn @tdb2.eq_1 (jn @tdA.eq_1 (jn @tdcR.eq_1 (jn @tblC.eq_1 (jn @aktE.eq_1 (jn @fctE.eq_1 (jn @cstE.eq_1 (jn @hkI (jn @hdk @hlk))))))))))) ?_
    (repeat (refine And.intro (by omega) ?_))
    refine HO_callQ ty_ok (i := 0) (pre := []) kf rfl rfl rfl (by kernel_rfl) rfl (fun _ => rfl) rfl (by repeat' (first | exact trivial | exact WeakA.refl _ | exact WeakA.toD rfl | refine ⟨?_, ?_⟩)) rfl rfl rfl ?_
    refine rn1 (jn @bF.eq_1 (jn @fnF.eq_1 (jn @cstE.eq_1 (jn @tbl.eq_1 (jn @tblC.eq_1 (jn @hkI (jn @hdk @hlk))))))) ?_
    (repeat (refine And.intro (by omega) ?_))
    refine HO_callX ty_ok [0,3,4,5,6] kg (bF_hand _ _ _ _ _ _ _ _ _ _ _ rfl rfl rfl rfl rfl) (bF_wf _ _ _ _ _) ?_
    rintro v r' ⟨rfl, rfl⟩ _
    refine rn1 (jn @bF.eq_1 (jn @fnF.eq_1 (jn @cstE.eq_1 (jn @tbl.eq_1 (jn @tblC.eq_1 (jn @hkI (jn @hdk @hlk))))))) ?_
    (repeat (refine And.intro (by omega) ?_))
    refine HO_callX ty_ok [1] kr (tbl_hand _ _ _ _ rfl) (tbl_wf _ _) ?_
    rintro v r' ⟨rfl, rfl⟩ _
    refine rn1 (jn @tbl.eq_1 @tblC.eq_1) ?_
    (repeat (refine And.intro (by omega) ?_))
    refine HO_pureA ty_ok kk ?_
    refine rn0 ?_
    refine ⟨[0, 1, 2], [], ?_⟩
    exact ft1 (jn @tdbS.eq_1 (jn @tdb0.eq_1 (jn @tdb2.eq_1 (jn @tdA.eq_1 (jn @tdcR.eq_1 (jn @tblC.eq_1 (jn @aktE.eq_1 (jn @fctE.eq_1 @cstE.eq_1))))))))
end Go.Proofs.Ythdjblfiiogmgaa
