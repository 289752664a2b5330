/- Parts of the proof: TOwn, TEnter, TBase, TGet, TNone. -/
import Derived.Test.YthdjblfiiogmgaaCJ2
import Derived.Test.YthdjblfiiogmgaaCJ1
set_option linter.unusedVariables false
set_option linter.unusedSimpArgs false
set_option maxRecDepth 100000
namespace Go.Proofs.Ythdjblfiiogmgaa
open Go Go.ChangeShapes Go.WideShapes
/-! trail.own: an entry whose slices are its own. -/
theorem RA_csl_osl {E : Env} {r : Rs} {w : World} {i off sz n c : Nat} {x : Value} (h : RA E r w (.csl i off sz n c) x) : RA E r w (.osl i off sz n) x := by
  simp only [RA] at h ⊢
  obtain ⟨h1, A, rfl, hc, h2⟩ := h
  refine ⟨h1, A, c, rfl, hc, fun l hl => ?_⟩
  obtain ⟨k1, k2⟩ := h2 l hl
  have hmul : n * sz ≤ c * sz := Nat.mul_le_mul_right _ hc
  exact ⟨by omega, fun hn => k2 (by omega)⟩
theorem cslO_osl {sz n : Nat} {xs : List D} {f : FuncId} {P : Program} {G : GR} {args : List AV} {r : Rs} (h : AC P G f args r (cslO sz n xs)) : AC P G f args r (fun v r' => ∃ zs : List D, v = .osl 0 0 sz n ∧ r' = [some (.obj ((xs ++ zs).map .d))]) :=
  ⟨h.1, fun E w vals hG hA => (h.2 E w vals hG hA).mono fun e w' ⟨v, x, r', E', he, ⟨k, zs, _, hv, hr⟩, k1, k2, k3⟩ => ⟨_, x, r', E', he, ⟨zs, rfl, hr⟩, RA_csl_osl (hv ▸ k1), k2, k3⟩⟩
theorem cloneC_d (n : Nat) (xs : List D) (hx : xs.length = n * 3) (h : n ≤ 1000000) :
    AC Try.prog noG 55 [.d (.sl 3 n xs)] [] (fun v r' => v = .d (.sl 3 n xs) ∧ r' = []) := by
  by_cases h0 : 0 < n
  · exact AC.nones (y := .sl 3 n xs) 0 (by simp) ((cslO_lay hx h0 (cloneC_ac n xs hx h0 h)).mono fun v r' ⟨h1, h2⟩ => ⟨h1, by simp, by rw [h2]; simp⟩)
  · have hn : n = 0 := by omega
    subst hn
    have hxs : xs = [] := List.eq_nil_of_length_eq_zero (by omega)
    subst hxs
    exact AC.dat (cloneC_0.mono fun v r' ⟨h1, _⟩ => by rw [h1]; rfl)
def enC (f : Fct) (why rule : Int) (body : AV) (tg : List UInt8) : List AV := [.d (.c (.string f.a)), .d (.c (.string f.b)), .d (.c (.string f.p)), .d (.sl 3 f.l.length (flatE cstE f.l)), .d (.c (.int .i64 why)), .d (.c (.int .i64 rule)), body] ++ tA tg
def owSt (n : Nat) (i : Nat) : List (Nat × AV) := [(1, .ptr 0 0), (2, .ptr 1 0), (16, .d (.c (.int .i64 n))), (17, .d (.c (.int .i64 i)))]
theorem tA_fz (i : Nat) (ds : List D) (l : List UInt8) : (tA l).map (fzA i ds) = tA l := by
  rw [tA, List.map_map]; congr 1
def tgz : List UInt8 := List.replicate 32 0
def owRe (x : Ntr) (zs : List D) : Rs := [some (.obj (enC x.f x.why x.rule (.osl 2 0 4 x.body.length) x.tg)), some (.obj (enC zE.zF0 0 0 (.d (.sl 4 0 [])) tgz)), some (.obj ((flatE fctE x.body ++ zs).map .d))]
theorem body_get (l : List Fct) (zs : List D) (i : Nat) (h : i < l.length) : ((flatE fctE l ++ zs).map AV.d)[i * 4 + 3]? = some (.d (.sl 3 l[i].l.length (flatE cstE l[i].l))) := by
  have h1 := flatE_drop fctE_len l i h
  have hl := flatE_len fctE_len l
  have h2 : (flatE fctE l)[i * 4 + 3]? = some (.sl 3 l[i].l.length (flatE cstE l[i].l)) := by
    rw [← List.getElem?_drop, h1]; rfl
  have hb : i * 4 + 3 < (flatE fctE l).length := by omega
  rw [List.getElem?_map, List.getElem?_append_left hb, h2]; rfl
theorem set_self_ {α : Type} {l : List α} {j : Nat} {a : α} (h : l[j]? = some a) : l.set j a = l := by
  apply List.ext_getElem?
  intro k
  by_cases hk : j = k
  · subst hk
    have hlt := (List.getElem?_eq_some_iff.1 h).1
    rw [List.getElem?_set_self hlt, h]
  · rw [List.getElem?_set_ne hk]
set_option maxHeartbeats 400000 in
theorem own_ac (x : Ntr) (hx : okE x) :
    AC Try.prog noG 73 [.d (.agg (entE x))] [] (fun v r' => v = .d (.agg (entE x)) ∧ r' = []) := by
  refine AC.fit ?_
  refine AC_of_R (N := 34) (res := [.cell 2 51]) ty_ok Try.call73 Try.func73 rfl rfl rfl (Nat.le_of_ble_eq_true rfl) ?_
  have hz : ([UInt8.ofNat 0, UInt8.ofNat 0, UInt8.ofNat 0, UInt8.ofNat 0, UInt8.ofNat 0, UInt8.ofNat 0, UInt8.ofNat 0, UInt8.ofNat 0, UInt8.ofNat 0, UInt8.ofNat 0, UInt8.ofNat 0, UInt8.ofNat 0, UInt8.ofNat 0, UInt8.ofNat 0, UInt8.ofNat 0, UInt8.ofNat 0, UInt8.ofNat 0, UInt8.ofNat 0, UInt8.ofNat 0, UInt8.ofNat 0, UInt8.ofNat 0, UInt8.ofNat 0, UInt8.ofNat 0, UInt8.ofNat 0, UInt8.ofNat 0, UInt8.ofNat 0, UInt8.ofNat 0, UInt8.ofNat 0, UInt8.ofNat 0, UInt8.ofNat 0, UInt8.ofNat 0, UInt8.ofNat 0] : List UInt8) = tgz := rfl
  obtain ⟨z1, z2, z3, z4, z5, z6⟩ := tg32 tgz rfl
  have z7 : (tA tgz).drop 32 = [] := List.drop_of_length_le (by omega)
  have hbl := hx.2.2.1
  have hc := hx.2.1
  have hb := hx.2.2.2
  obtain ⟨t1, t2, t3, t4, t5, t6⟩ := tg32 x.tg hx.1
  have k1 := cloneC_d x.f.l.length (flatE cstE x.f.l) (by rw [flatE_len cstE_len]; omega) hc
  refine rn1 (jn @entE.eq_1 (jn @fctE.eq_1 (jn @t1 (jn @t2 (jn @t3 (jn @t4 (jn @t5 (jn @t6 (jn @hz (jn @z1 (jn @z2 (jn @z3 (jn @z4 (jn @z5 (jn @z6 @tA_allD))))))))))))))) ?_
  refine HO_pureA ty_ok k1 ?_
  refine rn1 (jn @t1 (jn @t2 (jn @t3 (jn @t4 (jn @t5 (jn @t6 @tA_allD)))))) ?_
  by_cases h0 : 0 < x.body.length
  · have k2 := cslO_osl (cloneF_ac x.body.length (flatE fctE x.body) (by rw [flatE_len fctE_len]; omega) h0 hx.2.2.1)
    refine HO_callX ty_ok [] k2 (trivial) rfl ?_
    rintro v r' ⟨zs, rfl, rfl⟩ _
    refine rn1 (jn @t1 (jn @t2 (jn @t3 (jn @t4 (jn @t5 (jn @t6 (jn @tA_allD @renL_map_d))))))) ?_
    refine HC_loopR (owSt x.body.length) (fun _ => owRe x zs) (fun i => i ≤ x.body.length) (fun i => x.body.length - i) 0 [0, 1, 2] [] (by omega) ?_ ?_
    · exact ft1 (jn @owSt.eq_1 (jn @owRe.eq_1 (jn @enC.eq_1 (jn @hz @tA_wf))))
    intro i hi
    by_cases hlt : i < x.body.length
    · refine HC_of_R ty_ok ?_
      have hi' : (i : Int) < x.body.length := by omega
      have hg := body_get x.body zs i hlt
      have hgl : i * 4 + 3 < ((flatE fctE x.body ++ zs).map AV.d).length := (List.getElem?_eq_some_iff.1 hg).1
      have hset := set_self_ hg
      have hk := cloneC_d x.body[i].l.length (flatE cstE x.body[i].l) (by rw [flatE_len cstE_len]; omega) (hb _ (List.getElem_mem hlt))
      generalize x.body[i] = f at *
      refine rn1 (jn @owSt.eq_1 (jn @owRe.eq_1 (jn @enC.eq_1 (jn @hi' (jn @t1 (jn @t2 (jn @t3 (jn @t4 (jn @t5 (jn @t6 @tA_allD)))))))))) ?_
      refine HC_plan [9] ty_ok mix (by kernel_rfl) ?_
      refine rn1 (jn @hi' (jn @hg @hgl)) ?_
      (repeat (refine And.intro (by omega) ?_))
      refine HO_pureA ty_ok hk ?_
      refine rn1 (jn @hi' (jn @hset @hgl)) ?_
      (repeat (refine And.intro (by omega) ?_))
      refine ⟨i + 1, by omega, by omega, [0, 1, 2], [], ?_⟩
      exact ft1 (jn @owSt.eq_1 (jn @owRe.eq_1 (jn @enC.eq_1 (jn @hz @tA_wf))))
    · have hi' : ¬ (i : Int) < x.body.length := by omega
      have htk : ((flatE fctE x.body ++ zs).drop 0).take (x.body.length * 4) = flatE fctE x.body := by
        rw [List.drop_zero, show x.body.length * 4 = (flatE fctE x.body).length by rw [flatE_len fctE_len]; omega, List.take_left]
      refine HC_layR 2 rfl (allD_map (flatE fctE x.body ++ zs)) ?_
      simp only [owSt, owRe, enC, fzL, fzR, fzRes, fzA, List.set_cons_zero, List.set_cons_succ, List.map_cons, List.map_nil, List.map_append, List.cons_append, List.nil_append, ↓reduceIte, Nat.reduceEqDiff, h0, and_self, htk, tA_fz]
      refine HC_of_R ty_ok ?_
      refine rn1 (jn @hi' (jn @t1 (jn @t2 (jn @t3 (jn @t4 (jn @t5 (jn @t6 (jn @z7 @tA_allD)))))))) ?_
      (repeat (refine And.intro (by omega) ?_))
      exact fv0 [] []
  · have hb0 : x.body = [] := List.eq_nil_of_length_eq_zero (by omega)
    rw [hb0]
    refine HO_pureA ty_ok cloneF_0 ?_
    refine rn1 (jn @t1 (jn @t2 (jn @t3 (jn @t4 (jn @t5 (jn @t6 @tA_allD)))))) ?_
    have hle : (flatE fctE ([] : List Fct)) = [] := rfl
    refine HC_loopR (fun _ : Nat => owSt 0 0) (fun _ => [some (.obj (enC x.f x.why x.rule (.d (.sl 4 0 [])) x.tg)), some (.obj (enC zE.zF0 0 0 (.d (.sl 4 0 [])) tgz))]) (fun _ => True) (fun _ => 0) 0 [0, 1] [] trivial ?_ ?_
    · exact ft1 (jn @owSt.eq_1 (jn @enC.eq_1 (jn @hz @tA_wf)))
    intro i _
    refine HC_of_R ty_ok ?_
    refine rn1 (jn @owSt.eq_1 (jn @enC.eq_1 (jn @t1 (jn @t2 (jn @t3 (jn @t4 (jn @t5 (jn @t6 (jn @z7 @tA_allD))))))))) ?_
    (repeat (refine And.intro (by omega) ?_))
    exact fv1 [] [] @hle
end Go.Proofs.Ythdjblfiiogmgaa

set_option linter.unusedVariables false
set_option linter.unusedSimpArgs false
set_option maxRecDepth 100000
namespace Go.Proofs.Ythdjblfiiogmgaa
open Go Go.ChangeShapes Go.WideShapes
/-! trail.enter, Base, Said, Rule. -/
theorem insI_l (n i k : Nat) (A B zs x : List D) (hA : A.length = i) (hB : B.length = n - i) (hz : zs.length = k) (hx : x.length = 1) (h0 : 0 < n) (hi : i ≤ n) (h : n ≤ 1000000) :
    AC Try.prog noG 90 [.csl 0 0 1 n (n + k), .d (.c (.int .i64 i)), .osl 1 0 1 1] [some (.obj ((A ++ B ++ zs).map .d)), some (.obj (x.map .d))] (fun v r' => v = .d (.sl 1 (n + 1) (A ++ x ++ B)) ∧ r' = [none, none]) :=
  insO_lay (by simp only [List.length_append]; omega) (by omega) (by simp) (insI_ac n i k A B zs x hA hB hz hx h0 hi h)
theorem ob1_hand (l : List D) (rc : Rs) (i : Nat) (hi : rc[i]? = some (some (.obj (l.map .d)))) : HandOK (nm [i] rc.length) rc [some (.obj (l.map .d))] [i] := by
  refine ⟨fun y h => ?_, trivial⟩
  injection h with h; subst h
  rw [hi, renRes, renL_map_d]
theorem ob2_hand (l m : List D) (rc : Rs) (i j : Nat) (hi : rc[i]? = some (some (.obj (l.map .d)))) (hj : rc[j]? = some (some (.obj (m.map .d)))) : HandOK (nm [i, j] rc.length) rc [some (.obj (l.map .d)), some (.obj (m.map .d))] [i, j] := by
  refine ⟨fun y h => ?_, fun y h => ?_, trivial⟩
  · injection h with h; subst h
    rw [hi, renRes, renL_map_d]
  · injection h with h; subst h
    rw [hj, renRes, renL_map_d]
theorem ob1_wf (l : List D) : wfRs 1 [some (.obj (l.map .d))] = true := by simp only [wfRs, wfL_map_d, Bool.and_true]
theorem ob2_wf (l m : List D) : wfRs 2 [some (.obj (l.map .d)), some (.obj (m.map .d))] = true := by simp only [wfRs, wfL_map_d, Bool.and_true]
def teSt (p : Nat) : List (Nat × AV) := [(0, .ptr 0 0), (3, .ptr 1 0), (5, .d (.c (.int .i64 p)))]
def teRe (L : List Ntr) (O : List Nat) (x : Ntr) : Rs := [some (.obj (tpC L O)), some (.obj (enC x.f x.why x.rule (.d (.sl 4 x.body.length (flatE fctE x.body))) x.tg))]
theorem oD_ins (L : List Ntr) (O : List Nat) (f : Fct) : oD (insT L O f) = (oD O).take (posT L O f) ++ [.c (.int .i64 (L.length : Int))] ++ (oD O).drop (posT L O f) := by
  simp only [insT, oD, List.map_append, List.map_cons, List.map_nil, List.map_take, List.map_drop]
theorem insT_len (L : List Ntr) (O : List Nat) (f : Fct) : (insT L O f).length = O.length + 1 := by
  have := posT_le L O f
  simp only [insT, List.length_append, List.length_take, List.length_drop, List.length_singleton]; omega
set_option maxHeartbeats 400000 in
theorem enter_ac (L : List Ntr) (O : List Nat) (hL : okL L) (hI : TInv L O) (x : Ntr) (hx : okE x) (hn : L.length ≤ 100000) :
    AC Try.prog noG 71 [.ptr 0 0, .d (.agg (entE x))] (tr L O) (fun v r' => v = .d (.c (.int .i64 (if hasT L x.f = true then 151 else 0))) ∧ r' = if hasT L x.f = true then tr L O else tr (L ++ [x]) (insT L O x.f)) := by
  refine AC.fit ?_
  refine AC_of_R (N := 53) (res := [.tmp 4]) tyL_ok Try.call71 Try.func71 rfl rfl rfl (Nat.le_of_ble_eq_true rfl) ?_
  obtain ⟨t1, t2, t3, t4, t5, t6⟩ := tg32 x.tg hx.1
  have kf := tfind_ac L O hL hI x.f (Nat.le_trans hx.2.1 (by decide))
  simp only [fctE, List.cons_append, List.nil_append] at kf
  refine rn1 (jn @tr.eq_1 (jn @tpC.eq_1 (jn @entE.eq_1 (jn @fctE.eq_1 (jn @t1 (jn @t2 (jn @t3 (jn @t4 (jn @t5 (jn @t6 @tA_allD)))))))))) ?_
  refine HO_callX tyL_ok [0] kf (tr_hand _ _ _ _ rfl) (tr_wf _ _) ?_
  rintro v r' ⟨rfl, rfl⟩ _
  cases hq : hasT L x.f with
  | true =>
    refine rn1 (jn @tr.eq_1 @tpC.eq_1) ?_
    exact fv1 [0] [] (jn @tr.eq_1 @tpC.eq_1)
  | false =>
    refine rn1 (jn @tr.eq_1 @tpC.eq_1) ?_
    have hp := posT_le L O x.f
    have hO1 := oD_ins L O x.f
    have hO2 := insT_len L O x.f
    have hOl : O.length ≤ 100000 := by rw [hI.len]; exact hn
    have hI2 := hI.enter hq
    generalize insT L O x.f = O2 at *
    generalize posT L O x.f = p at *
    refine HC_cutR (teSt p) (teRe L O2 x) ?_ ?_
    · skip
      refine HC_of_HV mix ?_
      refine HV_split 5 12 (by decide) ?_ ?_
      · simp only [addAt]
        refine HV_order [5] tyL_ok [0, 1, 2, 3, 4, 6, 7, 8, 9, 10, 11, 5, 12, 13, 14, 15, 16] (by kernel_rfl) rfl _ rfl ?_
        simp only [opl_nil', opl_cons', oplC_some, List.getElem?_toArray, List.getElem?_cons_zero, List.getElem?_cons_succ]
        refine rn1 (jn @t1 (jn @t2 (jn @t3 (jn @t4 (jn @t5 (jn @t6 @tA_allD)))))) ?_
        by_cases h0 : 0 < O.length
        · refine HO_callX tyL_ok [] (cloneI_ac O.length (oD O) (by rw [oD_len]; omega) h0 (by omega)) (trivial) rfl ?_
          rintro v r' ⟨k, zs, hz, rfl, rfl⟩ _
          have ki := insI_l O.length p k ((oD O).take p) ((oD O).drop p) zs [.c (.int .i64 (L.length : Int))] (by rw [List.length_take, oD_len]; omega) (by rw [List.length_drop, oD_len]) (by omega) rfl h0 hp (by omega)
          rw [List.take_append_drop] at ki
          refine rn1 (jn @renL_map_d (jn @t1 (jn @t2 (jn @t3 (jn @t4 (jn @t5 (jn @t6 @tA_allD))))))) ?_
          first
            | refine HO_callX tyL_ok [2, 3] ki (ob2_hand _ _ _ _ _ rfl rfl) (ob2_wf _ _) ?_
            | refine HO_callX tyL_ok [3, 2] ki (ob2_hand _ _ _ _ _ rfl rfl) (ob2_wf _ _) ?_
          rintro v r' ⟨rfl, rfl⟩ _
          refine rn1 (jn @t1 (jn @t2 (jn @t3 (jn @t4 (jn @t5 (jn @t6 @tA_allD)))))) ?_
          refine ⟨[0, 1, 2, 3], [], ?_⟩
          rw [← hO1, ← hO2]
          exact ft1 (jn @teSt.eq_1 (jn @teRe.eq_1 (jn @tpC.eq_1 (jn @enC.eq_1 @tA_wf))))
        · have hO0 : O = [] := List.eq_nil_of_length_eq_zero (by omega)
          have hp0 : p = 0 := by rw [hO0] at hp; simpa using hp
          have ki := insI_0 [.c (.int .i64 (L.length : Int))] rfl
          have hod : oD O = [] := by rw [hO0]; rfl
          have hol : O.length = 0 := by omega
          rw [hod] at hO1 ⊢
          rw [hol] at hO2 ⊢
          rw [hp0] at hO1 ⊢
          refine HO_pureA tyL_ok cloneI_0 ?_
          refine rn1 (jn @t1 (jn @t2 (jn @t3 (jn @t4 (jn @t5 (jn @t6 @tA_allD)))))) ?_
          refine HO_callX tyL_ok [2] ki (ob1_hand _ _ _ rfl) (ob1_wf _) ?_
          rintro v r' ⟨rfl, rfl⟩ _
          refine rn1 (jn @t1 (jn @t2 (jn @t3 (jn @t4 (jn @t5 (jn @t6 @tA_allD)))))) ?_
          refine ⟨[0, 1, 2], [], ?_⟩
          simp only [List.take_nil, List.drop_nil, List.append_nil, List.nil_append] at hO1
          rw [Nat.zero_add] at hO2
          exact ft1 (jn @teSt.eq_1 (jn @teRe.eq_1 (jn @tpC.eq_1 (jn @enC.eq_1 (jn @tA_wf (jn @hO1 @hO2))))))
      · simp only [addAt]
        refine HV_order [] tyL_ok [0, 1, 2, 3, 4, 6, 7, 8, 9, 10, 11, 12, 5, 13, 14, 15, 16] (by kernel_rfl) rfl _ rfl ?_
        simp only [opl_nil', opl_cons', oplC_some, List.getElem?_toArray, List.getElem?_cons_zero, List.getElem?_cons_succ]
        refine rn1 (jn @t1 (jn @t2 (jn @t3 (jn @t4 (jn @t5 (jn @t6 @tA_allD)))))) ?_
        by_cases h0 : 0 < O.length
        · refine HO_callX tyL_ok [] (cloneI_ac O.length (oD O) (by rw [oD_len]; omega) h0 (by omega)) (trivial) rfl ?_
          rintro v r' ⟨k, zs, hz, rfl, rfl⟩ _
          have ki := insI_l O.length p k ((oD O).take p) ((oD O).drop p) zs [.c (.int .i64 (L.length : Int))] (by rw [List.length_take, oD_len]; omega) (by rw [List.length_drop, oD_len]) (by omega) rfl h0 hp (by omega)
          rw [List.take_append_drop] at ki
          refine rn1 (jn @renL_map_d (jn @t1 (jn @t2 (jn @t3 (jn @t4 (jn @t5 (jn @t6 @tA_allD))))))) ?_
          first
            | refine HO_callX tyL_ok [2, 3] ki (ob2_hand _ _ _ _ _ rfl rfl) (ob2_wf _ _) ?_
            | refine HO_callX tyL_ok [3, 2] ki (ob2_hand _ _ _ _ _ rfl rfl) (ob2_wf _ _) ?_
          rintro v r' ⟨rfl, rfl⟩ _
          refine rn1 (jn @t1 (jn @t2 (jn @t3 (jn @t4 (jn @t5 (jn @t6 @tA_allD)))))) ?_
          refine ⟨[0, 1, 2, 3], [], ?_⟩
          rw [← hO1, ← hO2]
          exact ft1 (jn @teSt.eq_1 (jn @teRe.eq_1 (jn @tpC.eq_1 (jn @enC.eq_1 @tA_wf))))
        · have hO0 : O = [] := List.eq_nil_of_length_eq_zero (by omega)
          have hp0 : p = 0 := by rw [hO0] at hp; simpa using hp
          have ki := insI_0 [.c (.int .i64 (L.length : Int))] rfl
          have hod : oD O = [] := by rw [hO0]; rfl
          have hol : O.length = 0 := by omega
          rw [hod] at hO1 ⊢
          rw [hol] at hO2 ⊢
          rw [hp0] at hO1 ⊢
          refine HO_pureA tyL_ok cloneI_0 ?_
          refine rn1 (jn @t1 (jn @t2 (jn @t3 (jn @t4 (jn @t5 (jn @t6 @tA_allD)))))) ?_
          refine HO_callX tyL_ok [2] ki (ob1_hand _ _ _ rfl) (ob1_wf _) ?_
          rintro v r' ⟨rfl, rfl⟩ _
          refine rn1 (jn @t1 (jn @t2 (jn @t3 (jn @t4 (jn @t5 (jn @t6 @tA_allD)))))) ?_
          refine ⟨[0, 1, 2], [], ?_⟩
          simp only [List.take_nil, List.drop_nil, List.append_nil, List.nil_append] at hO1
          rw [Nat.zero_add] at hO2
          exact ft1 (jn @teSt.eq_1 (jn @teRe.eq_1 (jn @tpC.eq_1 (jn @enC.eq_1 (jn @tA_wf (jn @hO1 @hO2))))))
    have ko := own_ac x hx
    simp only [entE, fctE, List.cons_append, List.nil_append] at ko
    have hfl := flE_len hL
    refine rn1 (jn @teSt.eq_1 (jn @teRe.eq_1 (jn @tpC.eq_1 (jn @enC.eq_1 (jn @t1 (jn @t2 (jn @t3 (jn @t4 (jn @t5 (jn @t6 @tA_allD)))))))))) ?_
    refine HC_plan [17] tyL_ok mix (by kernel_rfl) ?_
    refine rn1 (jn @t1 (jn @t2 (jn @t3 (jn @t4 (jn @t5 (jn @t6 @tA_allD)))))) ?_
    (repeat (refine And.intro (by omega) ?_))
    refine HO_pureA tyL_ok ko ?_
    refine rn1 (jn @t1 (jn @t2 (jn @t3 (jn @t4 (jn @t5 (jn @t6 @tA_allD)))))) ?_
    refine HO_appB tyL_ok rfl (by kernel_rfl) rfl ?_
    have he : flE (L ++ [x]) = flE L ++ entE x := by simp [flE, flatE]
    simp only [entE, fctE, List.cons_append, List.nil_append] at he
    have htk : (flE L).take (L.length * 39) = flE L := List.take_of_length_le (by omega)
    refine rn1 (jn @htk (jn @t1 (jn @t2 (jn @t3 (jn @t4 (jn @t5 (jn @t6 @tA_allD))))))) ?_
    (repeat (refine And.intro (by omega) ?_))
    rw [he]
    exact fv1 [0] [] (jn @tr.eq_1 @tpC.eq_1)
end Go.Proofs.Ythdjblfiiogmgaa

set_option linter.unusedVariables false
set_option linter.unusedSimpArgs false
set_option maxRecDepth 100000
namespace Go.Proofs.Ythdjblfiiogmgaa
open Go Go.ChangeShapes Go.WideShapes
/-! trail's doors: Base, Said, Rule, Place, Get, over a trail that a call made. -/
theorem wkDs_refl : ∀ l : List D, WkDs l l
  | [] => trivial
  | _ :: l => ⟨.inl rfl, wkDs_refl l⟩
theorem spl7 {tg : List UInt8} (ht : tg.length = 32) (c0 c1 c2 c3 c4 c5 c6 : AV) : splice (c0 :: c1 :: c2 :: c3 :: c4 :: c5 :: c6 :: [.d (.c (.int .u8 0)), .d (.c (.int .u8 0)), .d (.c (.int .u8 0)), .d (.c (.int .u8 0)), .d (.c (.int .u8 0)), .d (.c (.int .u8 0)), .d (.c (.int .u8 0)), .d (.c (.int .u8 0)), .d (.c (.int .u8 0)), .d (.c (.int .u8 0)), .d (.c (.int .u8 0)), .d (.c (.int .u8 0)), .d (.c (.int .u8 0)), .d (.c (.int .u8 0)), .d (.c (.int .u8 0)), .d (.c (.int .u8 0)), .d (.c (.int .u8 0)), .d (.c (.int .u8 0)), .d (.c (.int .u8 0)), .d (.c (.int .u8 0)), .d (.c (.int .u8 0)), .d (.c (.int .u8 0)), .d (.c (.int .u8 0)), .d (.c (.int .u8 0)), .d (.c (.int .u8 0)), .d (.c (.int .u8 0)), .d (.c (.int .u8 0)), .d (.c (.int .u8 0)), .d (.c (.int .u8 0)), .d (.c (.int .u8 0)), .d (.c (.int .u8 0)), .d (.c (.int .u8 0))]) 7 (tA tg) = c0 :: c1 :: c2 :: c3 :: c4 :: c5 :: c6 :: tA tg := by
  have hl : (tA tg).length = 32 := by rw [tA_len, ht]
  rw [splice_eq (by rw [hl]; exact Nat.le_refl _), hl]
  show [c0, c1, c2, c3, c4, c5, c6] ++ tA tg ++ [] = _
  rw [List.append_nil]; rfl
theorem tnone_ac (L : List Ntr) (O : List Nat) : AC Try.prog noG 67 [.ptr 0 0] (tr L O) (fun v r' => v = .d (.c (.bool false)) ∧ r' = tr L O) := by
  refine AC_of_R (N := 12) (res := [.tmp 2]) ty_ok Try.call67 Try.func67 rfl rfl rfl (Nat.le_of_ble_eq_true rfl) ?_
  exact rz1 (jn @tr.eq_1 @tpC.eq_1)
theorem tmay_ac (L : List Ntr) (O : List Nat) (f : Fct) (hf : f.l.length ≤ 140737488352000) : AC Try.prog noG 70 [.ptr 0 0, .d (.agg (fctE f))] (tr L O) (fun v r' => v = .d (.c (.int .i64 (chkE f))) ∧ r' = tr L O) := by
  refine AC.fit ?_
  refine AC_of_R (N := 13) (res := [.tmp 4]) ty_ok Try.call70 Try.func70 rfl rfl rfl (Nat.le_of_ble_eq_true rfl) ?_
  have kc := fchk_ac f hf
  simp only [fctE, List.cons_append, List.nil_append] at kc
  refine rn1 (jn @tr.eq_1 (jn @tpC.eq_1 @fctE.eq_1)) ?_
  refine HO_callX ty_ok [0] (tnone_ac L O) (tr_hand _ _ _ _ rfl) (tr_wf _ _) ?_
  rintro v r' ⟨rfl, rfl⟩ _
  refine rn1 (jn @tr.eq_1 @tpC.eq_1) ?_
  refine HO_pureA ty_ok kc ?_
  by_cases h : chkE f = 0
  · rw [h]
    refine rn0 ?_
    exact fv1 [0] [] (jn @tr.eq_1 @tpC.eq_1)
  · refine rn1 @h ?_
    exact fv1 [0] [] (jn @tr.eq_1 @tpC.eq_1)
def ordT (L : List Ntr) (x : Ntr) : Bool := x.body.all fun f => hasT L f
def errT (L : List Ntr) (x : Ntr) : Int := if chkE x.f ≠ 0 then chkE x.f else if x.why = 2 ∧ x.rule < 0 then 2 else if hasT L x.f = true then 151 else if x.why = 2 ∧ ordT L x = false then 200 else 0
/-- What an entry leaves. -/
def trN (L : List Ntr) (O : List Nat) (x : Ntr) : Rs := if errT L x = 0 then tr (L ++ [x]) (insT L O x.f) else tr L O
set_option maxHeartbeats 400000 in
theorem base_ac (L : List Ntr) (O : List Nat) (hL : okL L) (hI : TInv L O) (hn : L.length ≤ 100000) (f : Fct) (tg : List UInt8) (ht : tg.length = 32) (hf : f.l.length ≤ 1000000) :
    AC Try.prog noG 34 [.ptr 0 0, .d (.agg (fctE f)), .d (.agg (bD tg))] (tr L O) (fun v r' => v = .d (.c (.int .i64 (errT L ⟨f, 1, 0, [], tg⟩))) ∧ r' = trN L O ⟨f, 1, 0, [], tg⟩) := by
  skip
  refine AC.fit ?_
  refine AC_of_R (N := 19) (res := [.tmp 6]) ty_ok Try.call34 Try.func34 rfl rfl rfl (Nat.le_of_ble_eq_true rfl) ?_
  obtain ⟨t1, t2, t3, t4, t5, t6⟩ := tg32 tg ht
  have hx : okE ⟨f, 1, 0, [], tg⟩ := ⟨ht, hf, by simp⟩
  have km := tmay_ac L O f (by omega)
  have ke := enter_ac L O hL hI ⟨f, 1, 0, [], tg⟩ hx hn
  simp only [entE, fctE, List.cons_append, List.nil_append, List.length_nil, flatE_nil] at km ke
  rw [trN, errT]
  refine rn1 (jn @tr.eq_1 (jn @tpC.eq_1 (jn @fctE.eq_1 (jn @t1 (jn @t2 (jn @t3 (jn @t4 (jn @t5 (jn @t6 @tA_allD))))))))) ?_
  refine HO_callX ty_ok [0] (km) (tr_hand _ _ _ _ rfl) (tr_wf _ _) ?_
  rintro v r' ⟨rfl, rfl⟩ _
  by_cases h : chkE f = 0
  · rw [h] at *
    have hs7 := spl7 ht
    refine rn1 (jn @hs7 (jn @tr.eq_1 (jn @tpC.eq_1 (jn @t1 (jn @t2 (jn @t3 (jn @t4 (jn @t5 (jn @t6 @tA_allD))))))))) ?_
    refine HO_call ty_ok [0] (ke) rfl rfl rfl (by kernel_rfl) (by decide) ⟨(by simp), (by repeat' (first | exact trivial | exact WeakA.refl _ | exact WeakA.toD rfl | exact WeakA.nilD _ | exact WeakA.nils rfl (by repeat' (first | exact trivial | exact wkDs_refl _ | exact .inl rfl | exact .inr ⟨rfl, _, rfl⟩ | refine ⟨?_, ?_⟩)) | refine ⟨?_, ?_⟩)), rfl, tr_hand _ _ _ _ rfl, tr_wf _ _⟩ (by first | exact .inl rfl | exact .inr rfl) ?_
    rintro v r' ⟨rfl, rfl⟩ _
    cases hq : hasT L f with
    | true =>
      refine rn1 (jn @tr.eq_1 @tpC.eq_1) ?_
      exact fv1 [0] [] (jn @tr.eq_1 @tpC.eq_1)
    | false =>
      refine rn1 (jn @tr.eq_1 @tpC.eq_1) ?_
      exact fv1 [0] [] (jn @tr.eq_1 @tpC.eq_1)
  · refine rn1 (jn @h (jn @tr.eq_1 @tpC.eq_1)) ?_
    exact fv1 [0] [] (jn @tr.eq_1 @tpC.eq_1)
set_option maxHeartbeats 400000 in
theorem said_ac (L : List Ntr) (O : List Nat) (hL : okL L) (hI : TInv L O) (hn : L.length ≤ 100000) (f : Fct) (tg : List UInt8) (ht : tg.length = 32) (hf : f.l.length ≤ 1000000) :
    AC Try.prog noG 63 [.ptr 0 0, .d (.agg (fctE f)), .d (.agg (bD tg))] (tr L O) (fun v r' => v = .d (.c (.int .i64 (errT L ⟨f, 3, 0, [], tg⟩))) ∧ r' = trN L O ⟨f, 3, 0, [], tg⟩) := by
  skip
  refine AC.fit ?_
  refine AC_of_R (N := 19) (res := [.tmp 6]) ty_ok Try.call63 Try.func63 rfl rfl rfl (Nat.le_of_ble_eq_true rfl) ?_
  obtain ⟨t1, t2, t3, t4, t5, t6⟩ := tg32 tg ht
  have hx : okE ⟨f, 3, 0, [], tg⟩ := ⟨ht, hf, by simp⟩
  have km := tmay_ac L O f (by omega)
  have ke := enter_ac L O hL hI ⟨f, 3, 0, [], tg⟩ hx hn
  simp only [entE, fctE, List.cons_append, List.nil_append, List.length_nil, flatE_nil] at km ke
  rw [trN, errT]
  refine rn1 (jn @tr.eq_1 (jn @tpC.eq_1 (jn @fctE.eq_1 (jn @t1 (jn @t2 (jn @t3 (jn @t4 (jn @t5 (jn @t6 @tA_allD))))))))) ?_
  refine HO_callX ty_ok [0] (km) (tr_hand _ _ _ _ rfl) (tr_wf _ _) ?_
  rintro v r' ⟨rfl, rfl⟩ _
  by_cases h : chkE f = 0
  · rw [h] at *
    have hs7 := spl7 ht
    refine rn1 (jn @hs7 (jn @tr.eq_1 (jn @tpC.eq_1 (jn @t1 (jn @t2 (jn @t3 (jn @t4 (jn @t5 (jn @t6 @tA_allD))))))))) ?_
    refine HO_call ty_ok [0] (ke) rfl rfl rfl (by kernel_rfl) (by decide) ⟨(by simp), (by repeat' (first | exact trivial | exact WeakA.refl _ | exact WeakA.toD rfl | exact WeakA.nilD _ | exact WeakA.nils rfl (by repeat' (first | exact trivial | exact wkDs_refl _ | exact .inl rfl | exact .inr ⟨rfl, _, rfl⟩ | refine ⟨?_, ?_⟩)) | refine ⟨?_, ?_⟩)), rfl, tr_hand _ _ _ _ rfl, tr_wf _ _⟩ (by first | exact .inl rfl | exact .inr rfl) ?_
    rintro v r' ⟨rfl, rfl⟩ _
    cases hq : hasT L f with
    | true =>
      refine rn1 (jn @tr.eq_1 @tpC.eq_1) ?_
      exact fv1 [0] [] (jn @tr.eq_1 @tpC.eq_1)
    | false =>
      refine rn1 (jn @tr.eq_1 @tpC.eq_1) ?_
      exact fv1 [0] [] (jn @tr.eq_1 @tpC.eq_1)
  · refine rn1 (jn @h (jn @tr.eq_1 @tpC.eq_1)) ?_
    exact fv1 [0] [] (jn @tr.eq_1 @tpC.eq_1)
def derE (r : Int) (f : Fct) (b : List Fct) : List D := .c (.int .i64 r) :: (fctE f ++ [.sl 4 b.length (flatE fctE b)])
def ruSt (b : List Fct) (i : Nat) : List (Nat × AV) := [(0, .ptr 0 0), (4, .ptr 1 0), (5, .ptr 2 0), (33, .d (.sl 4 b.length (flatE fctE b))), (34, .d (.c (.int .i64 b.length))), (35, .d (.c (.int .i64 i)))]
def ruRe (L : List Ntr) (O : List Nat) (r : Int) (f : Fct) (b : List Fct) (tg : List UInt8) : Rs := [some (.obj (tpC L O)), some (.obj [.d (.c (.int .i64 r)), .d (.c (.string f.a)), .d (.c (.string f.b)), .d (.c (.string f.p)), .d (.sl 3 f.l.length (flatE cstE f.l)), .d (.sl 4 b.length (flatE fctE b))]), some (.obj (tA tg))]
theorem bd_take {p : Fct → Bool} {l : List Fct} {i : Nat} (h : i < l.length) : (l.take (i + 1)).all p = ((l.take i).all p && p l[i]) := by
  rw [List.take_succ_eq_append_getElem h, List.all_append, List.all_cons, List.all_nil, Bool.and_true]
theorem bd_not {p : Fct → Bool} {l : List Fct} {i : Nat} (h : i < l.length) (hp : p l[i] = false) : l.all p = false := by
  rw [List.all_eq_false]
  exact ⟨_, List.getElem_mem h, by simp [hp]⟩
set_option maxHeartbeats 400000 in
theorem rule_ac (L : List Ntr) (O : List Nat) (hL : okL L) (hI : TInv L O) (hn : L.length ≤ 100000) (x : Ntr) (hx : okE x) (hw : x.why = 2) :
    AC Try.prog noG 62 [.ptr 0 0, .d (.agg (derE x.rule x.f x.body)), .d (.agg (bD x.tg))] (tr L O) (fun v r' => v = .d (.c (.int .i64 (errT L x))) ∧ r' = trN L O x) := by
  refine AC.fit ?_
  refine AC_of_R (N := 58) (res := [.tmp 6]) ty_ok Try.call62 Try.func62 rfl rfl rfl (Nat.le_of_ble_eq_true rfl) ?_
  obtain ⟨t1, t2, t3, t4, t5, t6⟩ := tg32 x.tg hx.1
  have km := tmay_ac L O x.f (Nat.le_trans hx.2.1 (by decide))
  have kf := tfind_ac L O hL hI x.f (Nat.le_trans hx.2.1 (by decide))
  have ke := enter_ac L O hL hI x hx hn
  obtain ⟨f, why, r, b, tg⟩ := x
  have hs7 := spl7 (tg := tg) hx.1
  simp only at hw t1 t2 t3 t4 t5 t6 km kf ke
  subst hw
  have hbl : b.length ≤ 1000000 := hx.2.2.1
  simp only [entE, fctE, List.cons_append, List.nil_append] at km ke kf
  rw [trN, errT]
  refine rn1 (jn @tr.eq_1 (jn @tpC.eq_1 (jn @derE.eq_1 (jn @fctE.eq_1 (jn @t1 (jn @t2 (jn @t3 (jn @t4 (jn @t5 (jn @t6 @tA_allD)))))))))) ?_
  refine HO_callX ty_ok [0] (km) (tr_hand _ _ _ _ rfl) (tr_wf _ _) ?_
  rintro v r' ⟨rfl, rfl⟩ _
  by_cases h : chkE f = 0
  · rw [h] at *
    by_cases hr : r < 0
    · refine rn1 (jn @hr (jn @tr.eq_1 (jn @tpC.eq_1 (jn @t1 (jn @t2 (jn @t3 (jn @t4 (jn @t5 (jn @t6 @tA_allD))))))))) ?_
      exact fv1 [0] [] (jn @tr.eq_1 @tpC.eq_1)
    refine rn1 (jn @hr (jn @tr.eq_1 (jn @tpC.eq_1 (jn @t1 (jn @t2 (jn @t3 (jn @t4 (jn @t5 (jn @t6 @tA_allD))))))))) ?_
    refine HO_callX ty_ok [0] (kf) (tr_hand _ _ _ _ rfl) (tr_wf _ _) ?_
    rintro v r' ⟨rfl, rfl⟩ _
    cases hq : hasT L f with
    | true =>
      refine rn1 (jn @tr.eq_1 @tpC.eq_1) ?_
      exact fv1 [0] [] (jn @tr.eq_1 @tpC.eq_1)
    | false =>
      refine rn1 (jn @tr.eq_1 @tpC.eq_1) ?_
      refine HC_loopR (ruSt b) (fun _ => ruRe L O r f b tg) (fun i => i ≤ b.length ∧ (b.take i).all (fun f => hasT L f) = true) (fun i => b.length - i) 0 [0, 1, 2] [] ⟨by omega, rfl⟩ ?_ ?_
      · exact ft1 (jn @ruSt.eq_1 (jn @ruRe.eq_1 (jn @tpC.eq_1 @tA_wf)))
      intro i ⟨hi, hall⟩
      refine HC_of_R ty_ok ?_
      by_cases hlt : i < b.length
      · have hi' : (i : Int) < b.length := by omega
        have hd := flatE_drop fctE_len b i hlt
        have hle := flatE_len fctE_len b
        have hgb := hx.2.2.2 b[i] (List.getElem_mem hlt)
        have kg := tfind_ac L O hL hI b[i] (Nat.le_trans hgb (by decide))
        have ht := bd_take (p := fun f => hasT L f) hlt
        have hno := bd_not (p := fun f => hasT L f) hlt
        rw [hall, Bool.true_and] at ht
        generalize b[i] = g at *
        simp only [fctE, List.cons_append, List.nil_append] at hd kg
        refine rn1 (jn @ruSt.eq_1 (jn @ruRe.eq_1 (jn @tpC.eq_1 (jn @hi' (jn @hd @hle))))) ?_
        (repeat (refine And.intro (by omega) ?_))
        refine HO_callX ty_ok [0] (kg) (tr_hand _ _ _ _ rfl) (tr_wf _ _) ?_
        rintro v r' ⟨rfl, rfl⟩ _
        cases hg : hasT L g with
        | true =>
          refine rn1 (jn @tr.eq_1 @tpC.eq_1) ?_
          (repeat (refine And.intro (by omega) ?_))
          refine ⟨i + 1, ⟨by omega, by rw [ht, hg]⟩, by omega, [0, 1, 2], [], ?_⟩
          exact ft1 (jn @ruSt.eq_1 (jn @ruRe.eq_1 (jn @tpC.eq_1 @tA_wf)))
        | false =>
          have ho : ordT L ⟨f, 2, r, b, tg⟩ = false := hno hg
          rw [ho]
          refine rn1 (jn @tr.eq_1 @tpC.eq_1) ?_
          exact fv1 [0] [] (jn @tr.eq_1 @tpC.eq_1)
      · have hi' : ¬ (i : Int) < b.length := by omega
        have ho : ordT L ⟨f, 2, r, b, tg⟩ = true := by rw [ordT, ← hall, List.take_of_length_le (by omega)]
        rw [ho]
        refine rn1 (jn @ruSt.eq_1 (jn @ruRe.eq_1 (jn @tpC.eq_1 (jn @hi' (jn @hs7 (jn @t1 (jn @t2 (jn @t3 (jn @t4 (jn @t5 (jn @t6 @tA_allD))))))))))) ?_
        refine HO_callX ty_ok [0] (ke) (tr_hand _ _ _ _ rfl) (tr_wf _ _) ?_
        rintro v r' ⟨rfl, rfl⟩ _
        rw [hq]
        refine rn1 (jn @tr.eq_1 @tpC.eq_1) ?_
        exact fv1 [0] [] (jn @tr.eq_1 @tpC.eq_1)
  · refine rn1 (jn @h (jn @tr.eq_1 @tpC.eq_1)) ?_
    exact fv1 [0] [] (jn @tr.eq_1 @tpC.eq_1)
end Go.Proofs.Ythdjblfiiogmgaa

set_option linter.unusedVariables false
set_option linter.unusedSimpArgs false
set_option maxRecDepth 100000
namespace Go.Proofs.Ythdjblfiiogmgaa
open Go Go.ChangeShapes Go.WideShapes
/-! trail.Place, Get, New, Len; the statement's Enter. -/
def getT (L : List Ntr) (f : Fct) : Ntr := if hasT L f = true then L.getD (plc L f).toNat zE else zE
set_option maxHeartbeats 400000 in
theorem tplace_ac (L : List Ntr) (O : List Nat) (hL : okL L) (hI : TInv L O) (f : Fct) (hf : f.l.length ≤ 1000000) :
    AC Try.prog noG 31 [.ptr 0 0, .d (.agg (fctE f))] (tr L O) (fun v r' => v = .d (.c (.int .i64 (plc L f))) ∧ r' = tr L O) := by
  refine AC.fit ?_
  refine AC_of_R (N := 24) (res := [.tmp 4]) ty_ok Try.call31 Try.func31 rfl rfl rfl (Nat.le_of_ble_eq_true rfl) ?_
  have kf := tfind_ac L O hL hI f (Nat.le_trans hf (by decide))
  have hno := plc_none (L := L) (f := f)
  have hye := hI.place (f := f)
  simp only [fctE, List.cons_append, List.nil_append] at kf
  refine rn1 (jn @tr.eq_1 (jn @tpC.eq_1 @fctE.eq_1)) ?_
  refine HO_callX ty_ok [0] (tnone_ac L O) (tr_hand _ _ _ _ rfl) (tr_wf _ _) ?_
  rintro v r' ⟨rfl, rfl⟩ _
  refine rn1 (jn @tr.eq_1 @tpC.eq_1) ?_
  refine HO_callX ty_ok [0] (kf) (tr_hand _ _ _ _ rfl) (tr_wf _ _) ?_
  rintro v r' ⟨rfl, rfl⟩ _
  cases hq : hasT L f with
  | false =>
    rw [hno hq]
    refine rn1 (jn @tr.eq_1 @tpC.eq_1) ?_
    exact fv1 [0] [] (jn @tr.eq_1 @tpC.eq_1)
  | true =>
    obtain ⟨hp, h1, hk, h2⟩ := hye hq
    have hp' : (posT L O f : Int) < O.length := by omega
    have hd := oD_get O (posT L O f) hp
    rw [h1]
    generalize posT L O f = p at *
    refine rn1 (jn @tr.eq_1 (jn @tpC.eq_1 (jn @hp' @hd))) ?_
    (repeat (refine And.intro (by omega) ?_))
    exact fv1 [0] [] (jn @tr.eq_1 @tpC.eq_1)
set_option maxHeartbeats 400000 in
theorem tget_ac (L : List Ntr) (O : List Nat) (hL : okL L) (hI : TInv L O) (f : Fct) (hf : f.l.length ≤ 1000000) :
    AC Try.prog noG 39 [.ptr 0 0, .d (.agg (fctE f))] (tr L O) (fun v r' => v = .tup [.d (.agg (entE (getT L f))), .d (.c (.bool (hasT L f)))] ∧ r' = tr L O) := by
  refine AC.fit ?_
  refine AC_of_R (N := 21) (res := [.cell 4 51, .tmp 5]) ty_ok Try.call39 Try.func39 rfl rfl rfl (Nat.le_of_ble_eq_true rfl) ?_
  have hz : ([UInt8.ofNat 0, UInt8.ofNat 0, UInt8.ofNat 0, UInt8.ofNat 0, UInt8.ofNat 0, UInt8.ofNat 0, UInt8.ofNat 0, UInt8.ofNat 0, UInt8.ofNat 0, UInt8.ofNat 0, UInt8.ofNat 0, UInt8.ofNat 0, UInt8.ofNat 0, UInt8.ofNat 0, UInt8.ofNat 0, UInt8.ofNat 0, UInt8.ofNat 0, UInt8.ofNat 0, UInt8.ofNat 0, UInt8.ofNat 0, UInt8.ofNat 0, UInt8.ofNat 0, UInt8.ofNat 0, UInt8.ofNat 0, UInt8.ofNat 0, UInt8.ofNat 0, UInt8.ofNat 0, UInt8.ofNat 0, UInt8.ofNat 0, UInt8.ofNat 0, UInt8.ofNat 0, UInt8.ofNat 0] : List UInt8) = tgz := rfl
  obtain ⟨z1, z2, z3, z4, z5, z6⟩ := tg32 tgz rfl
  have z7 : (tA tgz).drop 32 = [] := List.drop_of_length_le (by omega)
  have kf := tplace_ac L O hL hI f hf
  have hno := plc_none (L := L) (f := f)
  have hye := hI.place (f := f)
  simp only [fctE, List.cons_append, List.nil_append] at kf
  refine rn1 (jn @tr.eq_1 (jn @tpC.eq_1 (jn @fctE.eq_1 (jn @hz (jn @z1 (jn @z2 (jn @z3 (jn @z4 (jn @z5 (jn @z6 @tA_allD)))))))))) ?_
  refine HO_callX ty_ok [0] (kf) (tr_hand _ _ _ _ rfl) (tr_wf _ _) ?_
  rintro v r' ⟨rfl, rfl⟩ _
  cases hq : hasT L f with
  | false =>
    have hg : getT L f = zE := by rw [getT, hq]; rfl
    rw [hno hq, hg]
    refine rn1 (jn @tr.eq_1 (jn @tpC.eq_1 (jn @hz (jn @z1 (jn @z2 (jn @z3 (jn @z4 (jn @z5 (jn @z6 @tA_allD))))))))) ?_
    have hz9 : (List.replicate 32 (0 : UInt8)) = tgz := rfl
    simp only [entE, fctE, zE, zE.zF0, flatE_nil, List.cons_append, List.nil_append, List.length_nil]
    rw [hz9]
    exact fv1 [0] [] (jn @tr.eq_1 @tpC.eq_1)
  | true =>
    obtain ⟨hp, h1, hk, h2⟩ := hye hq
    have hg : getT L f = L[O[posT L O f]] := by
      rw [getT, hq, if_pos rfl, h1, Int.toNat_natCast, List.getD_eq_getElem?_getD, List.getElem?_eq_getElem hk]; rfl
    rw [hg, h1]
    generalize O[posT L O f] = k at *
    have hd := flE_drop hL k hk
    have hle := flE_len hL
    have hx := hL.2 L[k] (List.getElem_mem hk)
    have hk' : (k : Int) < L.length := by omega
    have ko := own_ac L[k] hx
    generalize L[k] = x at *
    obtain ⟨t1, t2, t3, t4, t5, t6⟩ := tg32 x.tg hx.1
    simp only [entE, fctE, List.cons_append, List.nil_append] at hd ko
    have htk : (bD x.tg ++ flE (L.drop (k + 1))).take 32 = bD x.tg := by rw [← t2]; exact List.take_left
    refine rn1 (jn @tr.eq_1 (jn @tpC.eq_1 (jn @hk' (jn @hd (jn @hle (jn @htk (jn @t1 (jn @t2 (jn @t3 (jn @t4 (jn @t5 @t6))))))))))) ?_
    (repeat (refine And.intro (by omega) ?_))
    refine HO_pureA ty_ok ko ?_
    refine rn1 (jn @t1 (jn @t2 (jn @t3 (jn @t4 (jn @t5 (jn @t6 (jn @z7 @tA_allD))))))) ?_
    (repeat (refine And.intro (by omega) ?_))
    simp only [entE, fctE, List.cons_append, List.nil_append]
    exact fv1 [0] [] (jn @tr.eq_1 @tpC.eq_1)
theorem tnew_ac : AC Try.prog noG 26 [] [] (fun v r' => v = .ptr 0 0 ∧ r' = tr [] []) := by
  refine AC.fit ?_
  refine AC_of_R (N := 3) (res := [.tmp 0]) ty_ok Try.call26 Try.func26 rfl rfl rfl (Nat.le_of_ble_eq_true rfl) ?_
  refine rn0 ?_
  have h1 : flE [] = [] := rfl
  have h2 : oD [] = [] := rfl
  rw [tr, tpC, h1, h2]
  exact fv0 [0] []
end Go.Proofs.Ythdjblfiiogmgaa

set_option linter.unusedVariables false
set_option linter.unusedSimpArgs false
set_option maxRecDepth 100000
namespace Go.Proofs.Ythdjblfiiogmgaa
open Go Go.ChangeShapes Go.WideShapes
/-! A trail that no call made: nil, or one that says that it wasn't made. -/
end Go.Proofs.Ythdjblfiiogmgaa
