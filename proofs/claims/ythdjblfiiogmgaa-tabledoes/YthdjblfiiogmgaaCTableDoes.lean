import Derived.Test.YthdjblfiiogmgaaCJ11
import Derived.Test.YthdjblfiiogmgaaCJ12
set_option linter.unusedVariables false
set_option linter.unusedSimpArgs false
set_option maxRecDepth 100000
namespace Go.Proofs.Ythdjblfiiogmgaa
open Go Go.ChangeShapes Go.WideShapes
/-! TableDoes. -/
theorem bnewZ_ac (m : Int) (h : m < 1 ∨ m > 4096) : AC Try.prog noG 14 [.d (.c (.int .i64 m))] [] (fun v r' => v = .tup [.d (.c (.pointer none)), .d (.c (.int .i64 2))] ∧ r' = []) := by
  refine AC.fit ?_
  refine AC_of_R (N := 13) (res := [.tmp 2, .tmp 3]) ty_ok Try.call14 Try.func14 rfl rfl rfl (Nat.le_of_ble_eq_true rfl) ?_
  by_cases h1 : m < 1
  · refine rn1 @h1 ?_
    exact fv0 [] []
  · have h2 : m > 4096 := by omega
    refine rn1 (jn @h1 @h2) ?_
    exact fv0 [] []
theorem rnewZ_ac (m : Int) (h : m < 1 ∨ m > 4096) : AC Try.prog noG 41 [.d (.c (.int .i64 m))] [] (fun v r' => v = .tup [.d (.c (.pointer none)), .d (.c (.int .i64 2))] ∧ r' = []) := by
  refine AC.fit ?_
  refine AC_of_R (N := 13) (res := [.tmp 2, .tmp 3]) ty_ok Try.call41 Try.func41 rfl rfl rfl (Nat.le_of_ble_eq_true rfl) ?_
  by_cases h1 : m < 1
  · refine rn1 @h1 ?_
    exact fv0 [] []
  · have h2 : m > 4096 := by omega
    refine rn1 (jn @h1 @h2) ?_
    exact fv0 [] []
/-- What an act makes of a table. -/
def actT (m : Int) (M : List Fct) (x : Actt) : List Fct := if x.k = 0 then insB M m x.f else if x.k = 1 then tkB M x.f else M
def tdM (m : Int) (l : List Actt) (i : Nat) : List Fct := (l.take i).foldl (actT m) []
theorem actT_ok {m : Int} {M : List Fct} (h : okB M) (hl : M.length < 90000) (x : Actt) : okB (actT m M x) ∧ (actT m M x).length ≤ M.length + 1 := by
  rw [actT]
  split
  · exact ⟨h.put m x.f (by omega), insB_len _ _ _⟩
  · split
    · exact ⟨tkB_ok h _, by have := tkB_le h x.f; omega⟩
    · exact ⟨h, by omega⟩
theorem tdM_ok (m : Int) (l : List Actt) : ∀ i, i ≤ 300 → okB (tdM m l i) ∧ (tdM m l i).length ≤ i
  | 0, _ => ⟨okB0, Nat.le_refl _⟩
  | i + 1, hi => by
    obtain ⟨h1, h2⟩ := tdM_ok m l i (by omega)
    by_cases hlt : i < l.length
    · have e : tdM m l (i + 1) = actT m (tdM m l i) l[i] := by rw [tdM, List.take_succ_eq_append_getElem hlt, List.foldl_append]; rfl
      rw [e]
      have := actT_ok (m := m) h1 (by omega) l[i]
      exact ⟨this.1, by omega⟩
    · have e : tdM m l (i + 1) = tdM m l i := by rw [tdM, tdM, List.take_of_length_le (by omega), List.take_of_length_le (by omega)]
      rw [e]; exact ⟨h1, by omega⟩
def tdoS (l : List Actt) (i T : Nat) : List (Nat × AV) := [(1, .d (.sl 6 l.length (flatE aktE l))), (5, .ptr T 0), (7, .ptr 1 0), (9, .d (.c (.int .i64 i)))]
def tdoSz (l : List Actt) (z : Nat × Bool) : List (Nat × AV) := bif z.2 then tdoS l z.1 2 else tdoS l z.1 0
def tdo0 (M : List Fct) (m : Int) : Rs := [some (.obj (tblC M m)), some (.obj (tblC M m))]
def tdo2 (M : List Fct) (m : Int) : Rs := [none, some (.obj (tblC M m)), some (.obj (tblC M m))]
def tdoRz (m : Int) (l : List Actt) (z : Nat × Bool) : Rs := bif z.2 then tdo2 (tdM m l z.1) m else tdo0 (tdM m l z.1) m
set_option maxHeartbeats 4000000 in
theorem tableDoes_ac (m : Int) (l : List Actt) (hl : l.length ≤ 140737488352000) (hs : ∀ x ∈ l, szF x.f) : AC Try.prog noG 10 [.d (.c (.int .i64 m)), .d (.sl 6 l.length (flatE aktE l))] [] (fun v r' => v = .d (.c (.bool true)) ∧ r' = []) := by
  refine AC.pure ?_ (by rintro v rfl; rfl)
  refine AC_of_R (N := 227) (res := [.tmp 4]) ty_ok Try.call10 Try.func10 rfl rfl rfl (Nat.le_of_ble_eq_true rfl) ?_
  by_cases hm : 1 ≤ m ∧ m ≤ 4096
  · obtain ⟨hm1, hm2⟩ := hm
    have k1 := bnew_ac m hm1 hm2
    have k2 := rnew_ac m hm1 hm2
    have kl := light_ac l hl hs
    refine rn0 ?_
    refine HO_callX ty_ok [] k1 (trivial) rfl ?_
    rintro v r' ⟨rfl, rfl⟩ _
    refine rn1 (jn @tbl.eq_1 (jn @tblC.eq_1 @flatE_nil)) ?_
    refine HO_callX ty_ok [] k2 (trivial) rfl ?_
    rintro v r' ⟨rfl, rfl⟩ _
    refine rn1 (jn @tbl.eq_1 (jn @tblC.eq_1 @flatE_nil)) ?_
    refine HO_callX ty_ok [] kl (trivial) rfl ?_
    rintro v r' ⟨⟨b, rfl, hb⟩, rfl⟩ _
    cases b with
    | false =>
      refine rn0 ?_
      refine HO_pureA ty_ok blive_ac ?_
      exact rz0
    | true =>
      obtain ⟨hl2, hfl⟩ := hb rfl
      refine rn0 ?_
      refine HC_loopR (tdoSz l) (tdoRz m l) (fun z => z.1 ≤ l.length) (fun z => l.length - z.1) (0, false) [0, 1] [] (Nat.zero_le _) ?_ ?_
      · have e1 : tdoRz m l (0, false) = tdo0 [] m := rfl
        have e2 : tdoSz l (0, false) = tdoS l 0 0 := rfl
        rw [e1, e2]
        exact ft1 (jn @tdoS.eq_1 (jn @tdo0.eq_1 (jn @tblC.eq_1 @flatE_nil)))
      intro ⟨i, c⟩ hi1
      simp only at hi1
      refine HC_of_R ty_ok ?_
      by_cases hlt : i < l.length
      · have hi : (i : Int) < l.length := by omega
        have hd := flatE_drop aktE_len l i hlt
        have hle := flatE_len aktE_len l
        obtain ⟨hM, hMl⟩ := tdM_ok m l i (by omega)
        have hstp : tdM m l (i + 1) = actT m (tdM m l i) l[i] := by rw [tdM, List.take_succ_eq_append_getElem hlt, List.foldl_append]; rfl
        have hfx := hfl _ (List.getElem_mem hlt)
        have hrz : ∀ c, tdoRz m l (i, c) = bif c then tdo2 (tdM m l i) m else tdo0 (tdM m l i) m := fun _ => rfl
        have hrz1 : ∀ c, tdoRz m l (i + 1, c) = bif c then tdo2 (tdM m l (i + 1)) m else tdo0 (tdM m l (i + 1)) m := fun _ => rfl
        have hs1 : ∀ c, tdoSz l (i + 1, c) = bif c then tdoS l (i + 1) 2 else tdoS l (i + 1) 0 := fun _ => rfl
        rw [hrz]
        rw [hstp] at hrz1
        clear hrz hstp
        generalize l[i] = x at *
        generalize tdM m l i = M at *
        have hm0 : m ≠ 0 := by omega
        have hx6 : x.f.l.length ≤ 1000000 := by omega
        simp only [aktE, fctE, List.cons_append, List.nil_append] at hd
        cases c with
        | false =>
          show R _ _ _ _ _ _ ⟨fun _ => AV.top, tdoS l i 0, tdo0 M m⟩
          by_cases h0 : x.k = 0
          · have h0' : (x.k = 0) = True := eq_true h0
            have hact : actT m M x = insB M m x.f := by rw [actT, if_pos h0]
            have hM2 := hM.put m x.f (by omega)
            have k1 := bput_ac M m hm0 hM x.f (by omega)
            have k2 := rput_ac M m hM x.f (by omega)
            simp only [fctE, List.cons_append, List.nil_append] at k1 k2
            generalize errB M m x.f = e at *
            generalize insB M m x.f = M2 at *
            refine rn1 (jn @tdoS.eq_1 (jn @tdo0.eq_1 (jn @tblC.eq_1 (jn @hi (jn @hd (jn @hle @h0')))))) ?_
            (repeat (refine And.intro (by omega) ?_))
            refine HC_cutR (tdbS l 0 2 i) (tdb0 M2 m x) ?_ ?_
            · skip
              refine HC_of_HV mix ?_
              refine HV_split 6 3 (by decide) ?_ ?_
              · simp only [addAt]
                refine HV_order [] ty_ok [0, 1, 2, 4, 5, 6, 3, 7, 8, 9] (by kernel_rfl) rfl _ rfl ?_
                simp only [opl_nil', opl_cons', oplC_some, List.getElem?_toArray, List.getElem?_cons_zero, List.getElem?_cons_succ]
                refine rn0 ?_
                refine HO_callX ty_ok [0] k1 (tbl_hand _ _ _ _ rfl) (tbl_wf _ _) ?_
                rintro v r' ⟨rfl, rfl⟩ _
                refine rn1 (jn @tbl.eq_1 @tblC.eq_1) ?_
                refine HO_callX ty_ok [1] k2 (tbl_hand _ _ _ _ rfl) (tbl_wf _ _) ?_
                rintro v r' ⟨rfl, rfl⟩ _
                refine rn1 (jn @tbl.eq_1 @tblC.eq_1) ?_
                refine ⟨[0,1,2], [], ?_⟩
                exact ft1 (jn @tdbS.eq_1 (jn @tdb0.eq_1 (jn @tdb2.eq_1 (jn @tdA.eq_1 (jn @tblC.eq_1 (jn @aktE.eq_1 @fctE.eq_1))))))
              · simp only [addAt]
                refine HV_order [] ty_ok [0, 1, 2, 4, 5, 3, 6, 7, 8, 9] (by kernel_rfl) rfl _ rfl ?_
                simp only [opl_nil', opl_cons', oplC_some, List.getElem?_toArray, List.getElem?_cons_zero, List.getElem?_cons_succ]
                refine rn0 ?_
                refine HO_callX ty_ok [0] k1 (tbl_hand _ _ _ _ rfl) (tbl_wf _ _) ?_
                rintro v r' ⟨rfl, rfl⟩ _
                refine rn1 (jn @tbl.eq_1 @tblC.eq_1) ?_
                refine HO_callX ty_ok [1] k2 (tbl_hand _ _ _ _ rfl) (tbl_wf _ _) ?_
                rintro v r' ⟨rfl, rfl⟩ _
                refine rn1 (jn @tbl.eq_1 @tblC.eq_1) ?_
                refine ⟨[0,1,2], [], ?_⟩
                exact ft1 (jn @tdbS.eq_1 (jn @tdb0.eq_1 (jn @tdb2.eq_1 (jn @tdA.eq_1 (jn @tblC.eq_1 (jn @aktE.eq_1 @fctE.eq_1))))))
            refine rn1 (jn @tdbS.eq_1 (jn @tdb0.eq_1 (jn @tdA.eq_1 (jn @tblC.eq_1 (jn @aktE.eq_1 (jn @fctE.eq_1 @h0')))))) ?_
            refine HC_fitR (tdbS l 0 2 i) (tdb0 M2 m x) [0,1,2] [] ?_ (td31_a l i M2 m x hm0 (by first | assumption | exact hM2) hx6 _ _ rfl ?_)
            · exact ft1 (jn @tdbS.eq_1 (jn @tdo0.eq_1 (jn @tdo2.eq_1 (jn @tdb0.eq_1 (jn @tdb2.eq_1 (jn @tdb3.eq_1 (jn @tdb4.eq_1 (jn @tdb5.eq_1 (jn @tdb6.eq_1 (jn @tdcR.eq_1 (jn @tdA.eq_1 (jn @tblC.eq_1 (jn @aktE.eq_1 @fctE.eq_1)))))))))))))
            refine rn1 (jn @tdbS.eq_1 (jn @tdb0.eq_1 (jn @tdb2.eq_1 (jn @tdb3.eq_1 (jn @tdb4.eq_1 (jn @tdb5.eq_1 (jn @tdb6.eq_1 (jn @tdA.eq_1 @tblC.eq_1)))))))) ?_
            (repeat (refine And.intro (by omega) ?_))
            refine ⟨(i + 1, false), by simp only; omega, by simp only; omega, [0,1], [], ?_⟩
            rw [hrz1, hs1, hact, cond_false, cond_false]
            exact ft1 (jn @tdoS.eq_1 (jn @tdo0.eq_1 (jn @tdo2.eq_1 @tblC.eq_1)))
          by_cases h1 : x.k = 1
          · have h1' : (x.k = 1) = True := eq_true h1
            have hact : actT m M x = tkB M x.f := by rw [actT, if_neg h0, if_pos h1]
            have hM2 := tkB_ok hM x.f
            have k1 := btake_ac M m hm0 hM x.f (by omega)
            have k2 := rtake_ac M m hM x.f (by omega)
            simp only [fctE, List.cons_append, List.nil_append] at k1 k2
            generalize tkE M x.f = e at *
            generalize tkB M x.f = M2 at *
            refine rn1 (jn @tdoS.eq_1 (jn @tdo0.eq_1 (jn @tblC.eq_1 (jn @hi (jn @hd (jn @hle (jn @h0 @h1'))))))) ?_
            (repeat (refine And.intro (by omega) ?_))
            refine HC_cutR (tdbS l 0 2 i) (tdb0 M2 m x) ?_ ?_
            · skip
              refine HC_of_HV mix ?_
              refine HV_split 6 3 (by decide) ?_ ?_
              · simp only [addAt]
                refine HV_order [] ty_ok [0, 1, 2, 4, 5, 6, 3, 7, 8, 9] (by kernel_rfl) rfl _ rfl ?_
                simp only [opl_nil', opl_cons', oplC_some, List.getElem?_toArray, List.getElem?_cons_zero, List.getElem?_cons_succ]
                refine rn0 ?_
                refine HO_callX ty_ok [0] k1 (tbl_hand _ _ _ _ rfl) (tbl_wf _ _) ?_
                rintro v r' ⟨rfl, rfl⟩ _
                refine rn1 (jn @tbl.eq_1 @tblC.eq_1) ?_
                refine HO_callX ty_ok [1] k2 (tbl_hand _ _ _ _ rfl) (tbl_wf _ _) ?_
                rintro v r' ⟨rfl, rfl⟩ _
                refine rn1 (jn @tbl.eq_1 @tblC.eq_1) ?_
                refine ⟨[0,1,2], [], ?_⟩
                exact ft1 (jn @tdbS.eq_1 (jn @tdb0.eq_1 (jn @tdb2.eq_1 (jn @tdA.eq_1 (jn @tblC.eq_1 (jn @aktE.eq_1 @fctE.eq_1))))))
              · simp only [addAt]
                refine HV_order [] ty_ok [0, 1, 2, 4, 5, 3, 6, 7, 8, 9] (by kernel_rfl) rfl _ rfl ?_
                simp only [opl_nil', opl_cons', oplC_some, List.getElem?_toArray, List.getElem?_cons_zero, List.getElem?_cons_succ]
                refine rn0 ?_
                refine HO_callX ty_ok [0] k1 (tbl_hand _ _ _ _ rfl) (tbl_wf _ _) ?_
                rintro v r' ⟨rfl, rfl⟩ _
                refine rn1 (jn @tbl.eq_1 @tblC.eq_1) ?_
                refine HO_callX ty_ok [1] k2 (tbl_hand _ _ _ _ rfl) (tbl_wf _ _) ?_
                rintro v r' ⟨rfl, rfl⟩ _
                refine rn1 (jn @tbl.eq_1 @tblC.eq_1) ?_
                refine ⟨[0,1,2], [], ?_⟩
                exact ft1 (jn @tdbS.eq_1 (jn @tdb0.eq_1 (jn @tdb2.eq_1 (jn @tdA.eq_1 (jn @tblC.eq_1 (jn @aktE.eq_1 @fctE.eq_1))))))
            refine rn1 (jn @tdbS.eq_1 (jn @tdb0.eq_1 (jn @tdA.eq_1 (jn @tblC.eq_1 (jn @aktE.eq_1 (jn @fctE.eq_1 (jn @h0 @h1'))))))) ?_
            refine HC_fitR (tdbS l 0 2 i) (tdb0 M2 m x) [0,1,2] [] ?_ (td31_a l i M2 m x hm0 (by first | assumption | exact hM2) hx6 _ _ rfl ?_)
            · exact ft1 (jn @tdbS.eq_1 (jn @tdo0.eq_1 (jn @tdo2.eq_1 (jn @tdb0.eq_1 (jn @tdb2.eq_1 (jn @tdb3.eq_1 (jn @tdb4.eq_1 (jn @tdb5.eq_1 (jn @tdb6.eq_1 (jn @tdcR.eq_1 (jn @tdA.eq_1 (jn @tblC.eq_1 (jn @aktE.eq_1 @fctE.eq_1)))))))))))))
            refine rn1 (jn @tdbS.eq_1 (jn @tdb0.eq_1 (jn @tdb2.eq_1 (jn @tdb3.eq_1 (jn @tdb4.eq_1 (jn @tdb5.eq_1 (jn @tdb6.eq_1 (jn @tdA.eq_1 @tblC.eq_1)))))))) ?_
            (repeat (refine And.intro (by omega) ?_))
            refine ⟨(i + 1, false), by simp only; omega, by simp only; omega, [0,1], [], ?_⟩
            rw [hrz1, hs1, hact, cond_false, cond_false]
            exact ft1 (jn @tdoS.eq_1 (jn @tdo0.eq_1 (jn @tdo2.eq_1 @tblC.eq_1)))
          by_cases h2 : x.k = 2
          · have h2' : (x.k = 2) = True := eq_true h2
            have hact : actT m M x = M := by rw [actT, if_neg h0, if_neg h1]
            have hM3 := tkB_ok hM x.f
            have hMl3 := tkB_le hM x.f
            have kc := bclone_ac M m hm0 hM
            have kt := btake_ac M m hm0 hM x.f (by omega)
            have k9 := at15_ac 99
            have kp := bput_ac (tkB M x.f) m hm0 hM3 (fT 99) (by decide)
            simp only [fT, fctE, flatE_cons, flatE_nil, cstE, List.cons_append, List.nil_append, List.length_cons, List.length_nil] at kt k9 kp
            refine rn1 (jn @tdoS.eq_1 (jn @tdo0.eq_1 (jn @tblC.eq_1 (jn @hi (jn @hd (jn @hle (jn @h0 (jn @h1 @h2')))))))) ?_
            (repeat (refine And.intro (by omega) ?_))
            refine HO_callX ty_ok [0] kc (tbl_hand _ _ _ _ rfl) (tbl_wf _ _) ?_
            rintro v r' ⟨rfl, rfl⟩ _
            refine rn1 (jn @tbl.eq_1 @tblC.eq_1) ?_
            refine HO_callX ty_ok [0] kt (tbl_hand _ _ _ _ rfl) (tbl_wf _ _) ?_
            rintro v r' ⟨rfl, rfl⟩ _
            refine rn1 (jn @tbl.eq_1 @tblC.eq_1) ?_
            refine HO_pureA ty_ok k9 ?_
            refine rn0 ?_
            refine HO_callX ty_ok [0] kp (tbl_hand _ _ _ _ rfl) (tbl_wf _ _) ?_
            rintro v r' ⟨rfl, rfl⟩ _
            refine rn1 (jn @tbl.eq_1 @tblC.eq_1) ?_
            refine HC_fitR (tdbS l 3 2 i) (tdb3 M m x) [0,1,2,3] [] ?_ (td31_c l i M m x hm0 (by first | assumption | exact hM2) hx6 _ _ rfl ?_)
            · exact ft1 (jn @tdbS.eq_1 (jn @tdo0.eq_1 (jn @tdo2.eq_1 (jn @tdb0.eq_1 (jn @tdb2.eq_1 (jn @tdb3.eq_1 (jn @tdb4.eq_1 (jn @tdb5.eq_1 (jn @tdb6.eq_1 (jn @tdcR.eq_1 (jn @tdA.eq_1 (jn @tblC.eq_1 (jn @aktE.eq_1 @fctE.eq_1)))))))))))))
            refine rn1 (jn @tdbS.eq_1 (jn @tdb0.eq_1 (jn @tdb2.eq_1 (jn @tdb3.eq_1 (jn @tdb4.eq_1 (jn @tdb5.eq_1 (jn @tdb6.eq_1 (jn @tdA.eq_1 @tblC.eq_1)))))))) ?_
            (repeat (refine And.intro (by omega) ?_))
            refine ⟨(i + 1, true), by simp only; omega, by simp only; omega, [0,1,3], [], ?_⟩
            rw [hrz1, hs1, hact, cond_true, cond_true]
            exact ft1 (jn @tdoS.eq_1 (jn @tdo0.eq_1 (jn @tdo2.eq_1 @tblC.eq_1)))
          by_cases h3 : x.k = 3
          · have h3' : (x.k = 3) = True := eq_true h3
            have hact : actT m M x = M := by rw [actT, if_neg h0, if_neg h1]
            refine rn1 (jn @tdoS.eq_1 (jn @tdo0.eq_1 (jn @tblC.eq_1 (jn @hi (jn @hd (jn @hle (jn @h0 (jn @h1 (jn @h2 @h3'))))))))) ?_
            (repeat (refine And.intro (by omega) ?_))
            refine HC_fitR (tdbS l 0 2 i) (tdb0 M m x) [0,1,2] [] ?_ (td23_a l i M m x hm0 hM hx6 _ _ rfl ?_)
            · exact ft1 (jn @tdbS.eq_1 (jn @tdb0.eq_1 (jn @tdb2.eq_1 (jn @tdA.eq_1 (jn @tdcR.eq_1 (jn @tblC.eq_1 (jn @aktE.eq_1 @fctE.eq_1)))))))
            refine rn1 (jn @tdbS.eq_1 (jn @tdb0.eq_1 (jn @tdA.eq_1 (jn @tdcR.eq_1 (jn @tblC.eq_1 (jn @aktE.eq_1 @fctE.eq_1)))))) ?_
            refine HC_fitR (tdbS l 0 2 i) (tdb0 M m x) [0,1,2] [] ?_ (td31_a l i M m x hm0 (by first | assumption | exact hM2) hx6 _ _ rfl ?_)
            · exact ft1 (jn @tdbS.eq_1 (jn @tdo0.eq_1 (jn @tdo2.eq_1 (jn @tdb0.eq_1 (jn @tdb2.eq_1 (jn @tdb3.eq_1 (jn @tdb4.eq_1 (jn @tdb5.eq_1 (jn @tdb6.eq_1 (jn @tdcR.eq_1 (jn @tdA.eq_1 (jn @tblC.eq_1 (jn @aktE.eq_1 @fctE.eq_1)))))))))))))
            refine rn1 (jn @tdbS.eq_1 (jn @tdb0.eq_1 (jn @tdb2.eq_1 (jn @tdb3.eq_1 (jn @tdb4.eq_1 (jn @tdb5.eq_1 (jn @tdb6.eq_1 (jn @tdA.eq_1 @tblC.eq_1)))))))) ?_
            (repeat (refine And.intro (by omega) ?_))
            refine ⟨(i + 1, false), by simp only; omega, by simp only; omega, [0,1], [], ?_⟩
            rw [hrz1, hs1, hact, cond_false, cond_false]
            exact ft1 (jn @tdoS.eq_1 (jn @tdo0.eq_1 (jn @tdo2.eq_1 @tblC.eq_1)))
          by_cases h4 : x.k = 4
          · have h4' : (x.k = 4) = True := eq_true h4
            have hact : actT m M x = M := by rw [actT, if_neg h0, if_neg h1]
            refine rn1 (jn @tdoS.eq_1 (jn @tdo0.eq_1 (jn @tblC.eq_1 (jn @hi (jn @hd (jn @hle (jn @h0 (jn @h1 (jn @h2 (jn @h3 @h4')))))))))) ?_
            (repeat (refine And.intro (by omega) ?_))
            refine HC_loopR (fun k : Nat => (13, .d (.c (.int .i64 (k : Int)))) :: tdbS l 0 2 i) (fun _ => tdb0 M m x) (fun k => k ≤ x.f.l.length) (fun k => x.f.l.length - k) 0 [0,1,2] [] (Nat.zero_le _) ?_ ?_
            · exact ft1 (jn @tdbS.eq_1 (jn @tdb0.eq_1 (jn @tdb2.eq_1 (jn @tdA.eq_1 (jn @tdcR.eq_1 (jn @tblC.eq_1 (jn @aktE.eq_1 @fctE.eq_1)))))))
            intro k hk1
            refine HC_of_R ty_ok ?_
            by_cases hkt : k < x.f.l.length
            · have hk : (k : Int) < x.f.l.length := by omega
              refine rn1 (jn @tdbS.eq_1 (jn @tdb0.eq_1 (jn @tdA.eq_1 (jn @tdcR.eq_1 (jn @tblC.eq_1 (jn @aktE.eq_1 (jn @fctE.eq_1 @hk))))))) ?_
              (repeat (refine And.intro (by omega) ?_))
              refine HC_fitR ((13, .d (.c (.int .i64 (k : Int)))) :: tdbS l 0 2 i) (tdb0 M m x) [0,1,2] [] ?_ (td28_a l i M m x hm0 hM hx6 k hkt _ _ rfl ?_)
              · exact ft1 (jn @tdbS.eq_1 (jn @tdb0.eq_1 (jn @tdb2.eq_1 (jn @tdA.eq_1 (jn @tdcR.eq_1 (jn @tblC.eq_1 (jn @aktE.eq_1 @fctE.eq_1)))))))
              refine rn1 (jn @tdbS.eq_1 (jn @tdb0.eq_1 (jn @tdA.eq_1 (jn @tdcR.eq_1 (jn @tblC.eq_1 (jn @aktE.eq_1 @fctE.eq_1)))))) ?_
              (repeat (refine And.intro (by omega) ?_))
              refine ⟨k + 1, (by omega), by omega, [0,1,2], [], ?_⟩
              exact ft1 (jn @tdbS.eq_1 (jn @tdb0.eq_1 (jn @tdb2.eq_1 (jn @tdA.eq_1 (jn @tdcR.eq_1 (jn @tblC.eq_1 (jn @aktE.eq_1 @fctE.eq_1)))))))
            · have hk : ¬ (k : Int) < x.f.l.length := by omega
              refine rn1 (jn @tdbS.eq_1 (jn @tdb0.eq_1 (jn @tdA.eq_1 (jn @tdcR.eq_1 (jn @tblC.eq_1 (jn @aktE.eq_1 (jn @fctE.eq_1 @hk))))))) ?_
              (repeat (refine And.intro (by omega) ?_))
              refine HC_fitR ((14, .ptr 3 0) :: tdbS l 0 2 i) (tdb0 M m x ++ [tdcR]) [0,1,2,3] [] ?_ (td30_a l i M m x hm0 hM hx6 _ _ rfl ?_)
              · exact ft1 (jn @tdbS.eq_1 (jn @tdb0.eq_1 (jn @tdb2.eq_1 (jn @tdA.eq_1 (jn @tdcR.eq_1 (jn @tblC.eq_1 (jn @aktE.eq_1 @fctE.eq_1)))))))
              refine rn1 (jn @tdbS.eq_1 (jn @tdb0.eq_1 (jn @tdA.eq_1 (jn @tdcR.eq_1 (jn @tblC.eq_1 (jn @aktE.eq_1 @fctE.eq_1)))))) ?_
              refine HC_fitR (tdbS l 0 2 i) (tdb5 M m x) [0,1,2,3] [] ?_ (td31_e l i M m x hm0 (by first | assumption | exact hM2) hx6 _ _ rfl ?_)
              · exact ft1 (jn @tdbS.eq_1 (jn @tdo0.eq_1 (jn @tdo2.eq_1 (jn @tdb0.eq_1 (jn @tdb2.eq_1 (jn @tdb3.eq_1 (jn @tdb4.eq_1 (jn @tdb5.eq_1 (jn @tdb6.eq_1 (jn @tdcR.eq_1 (jn @tdA.eq_1 (jn @tblC.eq_1 (jn @aktE.eq_1 @fctE.eq_1)))))))))))))
              refine rn1 (jn @tdbS.eq_1 (jn @tdb0.eq_1 (jn @tdb2.eq_1 (jn @tdb3.eq_1 (jn @tdb4.eq_1 (jn @tdb5.eq_1 (jn @tdb6.eq_1 (jn @tdA.eq_1 @tblC.eq_1)))))))) ?_
              (repeat (refine And.intro (by omega) ?_))
              refine ⟨(i + 1, false), by simp only; omega, by simp only; omega, [0,1], [], ?_⟩
              rw [hrz1, hs1, hact, cond_false, cond_false]
              exact ft1 (jn @tdoS.eq_1 (jn @tdo0.eq_1 (jn @tdo2.eq_1 @tblC.eq_1)))
          have hact : actT m M x = M := by rw [actT, if_neg h0, if_neg h1]
          refine rn1 (jn @tdoS.eq_1 (jn @tdo0.eq_1 (jn @tblC.eq_1 (jn @hi (jn @hd (jn @hle (jn @h0 (jn @h1 (jn @h2 (jn @h3 @h4)))))))))) ?_
          (repeat (refine And.intro (by omega) ?_))
          refine HC_fitR (tdbS l 0 2 i) (tdb0 M m x) [0,1,2] [] ?_ (td31_a l i M m x hm0 (by first | assumption | exact hM2) hx6 _ _ rfl ?_)
          · exact ft1 (jn @tdbS.eq_1 (jn @tdo0.eq_1 (jn @tdo2.eq_1 (jn @tdb0.eq_1 (jn @tdb2.eq_1 (jn @tdb3.eq_1 (jn @tdb4.eq_1 (jn @tdb5.eq_1 (jn @tdb6.eq_1 (jn @tdcR.eq_1 (jn @tdA.eq_1 (jn @tblC.eq_1 (jn @aktE.eq_1 @fctE.eq_1)))))))))))))
          refine rn1 (jn @tdbS.eq_1 (jn @tdb0.eq_1 (jn @tdb2.eq_1 (jn @tdb3.eq_1 (jn @tdb4.eq_1 (jn @tdb5.eq_1 (jn @tdb6.eq_1 (jn @tdA.eq_1 @tblC.eq_1)))))))) ?_
          (repeat (refine And.intro (by omega) ?_))
          refine ⟨(i + 1, false), by simp only; omega, by simp only; omega, [0,1], [], ?_⟩
          rw [hrz1, hs1, hact, cond_false, cond_false]
          exact ft1 (jn @tdoS.eq_1 (jn @tdo0.eq_1 (jn @tdo2.eq_1 @tblC.eq_1)))
        | true =>
          show R _ _ _ _ _ _ ⟨fun _ => AV.top, tdoS l i 2, tdo2 M m⟩
          by_cases h0 : x.k = 0
          · have h0' : (x.k = 0) = True := eq_true h0
            have hact : actT m M x = insB M m x.f := by rw [actT, if_pos h0]
            have hM2 := hM.put m x.f (by omega)
            have k1 := bput_ac M m hm0 hM x.f (by omega)
            have k2 := rput_ac M m hM x.f (by omega)
            simp only [fctE, List.cons_append, List.nil_append] at k1 k2
            generalize errB M m x.f = e at *
            generalize insB M m x.f = M2 at *
            refine rn1 (jn @tdoS.eq_1 (jn @tdo2.eq_1 (jn @tblC.eq_1 (jn @hi (jn @hd (jn @hle @h0')))))) ?_
            (repeat (refine And.intro (by omega) ?_))
            refine HC_cutR (tdbS l 2 3 i) (tdb2 M2 m x) ?_ ?_
            · skip
              refine HC_of_HV mix ?_
              refine HV_split 6 3 (by decide) ?_ ?_
              · simp only [addAt]
                refine HV_order [] ty_ok [0, 1, 2, 4, 5, 6, 3, 7, 8, 9] (by kernel_rfl) rfl _ rfl ?_
                simp only [opl_nil', opl_cons', oplC_some, List.getElem?_toArray, List.getElem?_cons_zero, List.getElem?_cons_succ]
                refine rn0 ?_
                refine HO_callX ty_ok [2] k1 (tbl_hand _ _ _ _ rfl) (tbl_wf _ _) ?_
                rintro v r' ⟨rfl, rfl⟩ _
                refine rn1 (jn @tbl.eq_1 @tblC.eq_1) ?_
                refine HO_callX ty_ok [1] k2 (tbl_hand _ _ _ _ rfl) (tbl_wf _ _) ?_
                rintro v r' ⟨rfl, rfl⟩ _
                refine rn1 (jn @tbl.eq_1 @tblC.eq_1) ?_
                refine ⟨[0,1,2,3], [], ?_⟩
                exact ft1 (jn @tdbS.eq_1 (jn @tdb0.eq_1 (jn @tdb2.eq_1 (jn @tdA.eq_1 (jn @tblC.eq_1 (jn @aktE.eq_1 @fctE.eq_1))))))
              · simp only [addAt]
                refine HV_order [] ty_ok [0, 1, 2, 4, 5, 3, 6, 7, 8, 9] (by kernel_rfl) rfl _ rfl ?_
                simp only [opl_nil', opl_cons', oplC_some, List.getElem?_toArray, List.getElem?_cons_zero, List.getElem?_cons_succ]
                refine rn0 ?_
                refine HO_callX ty_ok [2] k1 (tbl_hand _ _ _ _ rfl) (tbl_wf _ _) ?_
                rintro v r' ⟨rfl, rfl⟩ _
                refine rn1 (jn @tbl.eq_1 @tblC.eq_1) ?_
                refine HO_callX ty_ok [1] k2 (tbl_hand _ _ _ _ rfl) (tbl_wf _ _) ?_
                rintro v r' ⟨rfl, rfl⟩ _
                refine rn1 (jn @tbl.eq_1 @tblC.eq_1) ?_
                refine ⟨[0,1,2,3], [], ?_⟩
                exact ft1 (jn @tdbS.eq_1 (jn @tdb0.eq_1 (jn @tdb2.eq_1 (jn @tdA.eq_1 (jn @tblC.eq_1 (jn @aktE.eq_1 @fctE.eq_1))))))
            refine rn1 (jn @tdbS.eq_1 (jn @tdb2.eq_1 (jn @tdA.eq_1 (jn @tblC.eq_1 (jn @aktE.eq_1 (jn @fctE.eq_1 @h0')))))) ?_
            refine HC_fitR (tdbS l 2 3 i) (tdb2 M2 m x) [0,1,2,3] [] ?_ (td31_b l i M2 m x hm0 (by first | assumption | exact hM2) hx6 _ _ rfl ?_)
            · exact ft1 (jn @tdbS.eq_1 (jn @tdo0.eq_1 (jn @tdo2.eq_1 (jn @tdb0.eq_1 (jn @tdb2.eq_1 (jn @tdb3.eq_1 (jn @tdb4.eq_1 (jn @tdb5.eq_1 (jn @tdb6.eq_1 (jn @tdcR.eq_1 (jn @tdA.eq_1 (jn @tblC.eq_1 (jn @aktE.eq_1 @fctE.eq_1)))))))))))))
            refine rn1 (jn @tdbS.eq_1 (jn @tdb0.eq_1 (jn @tdb2.eq_1 (jn @tdb3.eq_1 (jn @tdb4.eq_1 (jn @tdb5.eq_1 (jn @tdb6.eq_1 (jn @tdA.eq_1 @tblC.eq_1)))))))) ?_
            (repeat (refine And.intro (by omega) ?_))
            refine ⟨(i + 1, true), by simp only; omega, by simp only; omega, [0,1,2], [], ?_⟩
            rw [hrz1, hs1, hact, cond_true, cond_true]
            exact ft1 (jn @tdoS.eq_1 (jn @tdo0.eq_1 (jn @tdo2.eq_1 @tblC.eq_1)))
          by_cases h1 : x.k = 1
          · have h1' : (x.k = 1) = True := eq_true h1
            have hact : actT m M x = tkB M x.f := by rw [actT, if_neg h0, if_pos h1]
            have hM2 := tkB_ok hM x.f
            have k1 := btake_ac M m hm0 hM x.f (by omega)
            have k2 := rtake_ac M m hM x.f (by omega)
            simp only [fctE, List.cons_append, List.nil_append] at k1 k2
            generalize tkE M x.f = e at *
            generalize tkB M x.f = M2 at *
            refine rn1 (jn @tdoS.eq_1 (jn @tdo2.eq_1 (jn @tblC.eq_1 (jn @hi (jn @hd (jn @hle (jn @h0 @h1'))))))) ?_
            (repeat (refine And.intro (by omega) ?_))
            refine HC_cutR (tdbS l 2 3 i) (tdb2 M2 m x) ?_ ?_
            · skip
              refine HC_of_HV mix ?_
              refine HV_split 6 3 (by decide) ?_ ?_
              · simp only [addAt]
                refine HV_order [] ty_ok [0, 1, 2, 4, 5, 6, 3, 7, 8, 9] (by kernel_rfl) rfl _ rfl ?_
                simp only [opl_nil', opl_cons', oplC_some, List.getElem?_toArray, List.getElem?_cons_zero, List.getElem?_cons_succ]
                refine rn0 ?_
                refine HO_callX ty_ok [2] k1 (tbl_hand _ _ _ _ rfl) (tbl_wf _ _) ?_
                rintro v r' ⟨rfl, rfl⟩ _
                refine rn1 (jn @tbl.eq_1 @tblC.eq_1) ?_
                refine HO_callX ty_ok [1] k2 (tbl_hand _ _ _ _ rfl) (tbl_wf _ _) ?_
                rintro v r' ⟨rfl, rfl⟩ _
                refine rn1 (jn @tbl.eq_1 @tblC.eq_1) ?_
                refine ⟨[0,1,2,3], [], ?_⟩
                exact ft1 (jn @tdbS.eq_1 (jn @tdb0.eq_1 (jn @tdb2.eq_1 (jn @tdA.eq_1 (jn @tblC.eq_1 (jn @aktE.eq_1 @fctE.eq_1))))))
              · simp only [addAt]
                refine HV_order [] ty_ok [0, 1, 2, 4, 5, 3, 6, 7, 8, 9] (by kernel_rfl) rfl _ rfl ?_
                simp only [opl_nil', opl_cons', oplC_some, List.getElem?_toArray, List.getElem?_cons_zero, List.getElem?_cons_succ]
                refine rn0 ?_
                refine HO_callX ty_ok [2] k1 (tbl_hand _ _ _ _ rfl) (tbl_wf _ _) ?_
                rintro v r' ⟨rfl, rfl⟩ _
                refine rn1 (jn @tbl.eq_1 @tblC.eq_1) ?_
                refine HO_callX ty_ok [1] k2 (tbl_hand _ _ _ _ rfl) (tbl_wf _ _) ?_
                rintro v r' ⟨rfl, rfl⟩ _
                refine rn1 (jn @tbl.eq_1 @tblC.eq_1) ?_
                refine ⟨[0,1,2,3], [], ?_⟩
                exact ft1 (jn @tdbS.eq_1 (jn @tdb0.eq_1 (jn @tdb2.eq_1 (jn @tdA.eq_1 (jn @tblC.eq_1 (jn @aktE.eq_1 @fctE.eq_1))))))
            refine rn1 (jn @tdbS.eq_1 (jn @tdb2.eq_1 (jn @tdA.eq_1 (jn @tblC.eq_1 (jn @aktE.eq_1 (jn @fctE.eq_1 (jn @h0 @h1'))))))) ?_
            refine HC_fitR (tdbS l 2 3 i) (tdb2 M2 m x) [0,1,2,3] [] ?_ (td31_b l i M2 m x hm0 (by first | assumption | exact hM2) hx6 _ _ rfl ?_)
            · exact ft1 (jn @tdbS.eq_1 (jn @tdo0.eq_1 (jn @tdo2.eq_1 (jn @tdb0.eq_1 (jn @tdb2.eq_1 (jn @tdb3.eq_1 (jn @tdb4.eq_1 (jn @tdb5.eq_1 (jn @tdb6.eq_1 (jn @tdcR.eq_1 (jn @tdA.eq_1 (jn @tblC.eq_1 (jn @aktE.eq_1 @fctE.eq_1)))))))))))))
            refine rn1 (jn @tdbS.eq_1 (jn @tdb0.eq_1 (jn @tdb2.eq_1 (jn @tdb3.eq_1 (jn @tdb4.eq_1 (jn @tdb5.eq_1 (jn @tdb6.eq_1 (jn @tdA.eq_1 @tblC.eq_1)))))))) ?_
            (repeat (refine And.intro (by omega) ?_))
            refine ⟨(i + 1, true), by simp only; omega, by simp only; omega, [0,1,2], [], ?_⟩
            rw [hrz1, hs1, hact, cond_true, cond_true]
            exact ft1 (jn @tdoS.eq_1 (jn @tdo0.eq_1 (jn @tdo2.eq_1 @tblC.eq_1)))
          by_cases h2 : x.k = 2
          · have h2' : (x.k = 2) = True := eq_true h2
            have hact : actT m M x = M := by rw [actT, if_neg h0, if_neg h1]
            have hM3 := tkB_ok hM x.f
            have hMl3 := tkB_le hM x.f
            have kc := bclone_ac M m hm0 hM
            have kt := btake_ac M m hm0 hM x.f (by omega)
            have k9 := at15_ac 99
            have kp := bput_ac (tkB M x.f) m hm0 hM3 (fT 99) (by decide)
            simp only [fT, fctE, flatE_cons, flatE_nil, cstE, List.cons_append, List.nil_append, List.length_cons, List.length_nil] at kt k9 kp
            refine rn1 (jn @tdoS.eq_1 (jn @tdo2.eq_1 (jn @tblC.eq_1 (jn @hi (jn @hd (jn @hle (jn @h0 (jn @h1 @h2')))))))) ?_
            (repeat (refine And.intro (by omega) ?_))
            refine HO_callX ty_ok [2] kc (tbl_hand _ _ _ _ rfl) (tbl_wf _ _) ?_
            rintro v r' ⟨rfl, rfl⟩ _
            refine rn1 (jn @tbl.eq_1 @tblC.eq_1) ?_
            refine HO_callX ty_ok [2] kt (tbl_hand _ _ _ _ rfl) (tbl_wf _ _) ?_
            rintro v r' ⟨rfl, rfl⟩ _
            refine rn1 (jn @tbl.eq_1 @tblC.eq_1) ?_
            refine HO_pureA ty_ok k9 ?_
            refine rn0 ?_
            refine HO_callX ty_ok [2] kp (tbl_hand _ _ _ _ rfl) (tbl_wf _ _) ?_
            rintro v r' ⟨rfl, rfl⟩ _
            refine rn1 (jn @tbl.eq_1 @tblC.eq_1) ?_
            refine HC_fitR (tdbS l 4 3 i) (tdb4 M m x) [0,1,2,3,4] [] ?_ (td31_d l i M m x hm0 (by first | assumption | exact hM2) hx6 _ _ rfl ?_)
            · exact ft1 (jn @tdbS.eq_1 (jn @tdo0.eq_1 (jn @tdo2.eq_1 (jn @tdb0.eq_1 (jn @tdb2.eq_1 (jn @tdb3.eq_1 (jn @tdb4.eq_1 (jn @tdb5.eq_1 (jn @tdb6.eq_1 (jn @tdcR.eq_1 (jn @tdA.eq_1 (jn @tblC.eq_1 (jn @aktE.eq_1 @fctE.eq_1)))))))))))))
            refine rn1 (jn @tdbS.eq_1 (jn @tdb0.eq_1 (jn @tdb2.eq_1 (jn @tdb3.eq_1 (jn @tdb4.eq_1 (jn @tdb5.eq_1 (jn @tdb6.eq_1 (jn @tdA.eq_1 @tblC.eq_1)))))))) ?_
            (repeat (refine And.intro (by omega) ?_))
            refine ⟨(i + 1, true), by simp only; omega, by simp only; omega, [0,1,4], [], ?_⟩
            rw [hrz1, hs1, hact, cond_true, cond_true]
            exact ft1 (jn @tdoS.eq_1 (jn @tdo0.eq_1 (jn @tdo2.eq_1 @tblC.eq_1)))
          by_cases h3 : x.k = 3
          · have h3' : (x.k = 3) = True := eq_true h3
            have hact : actT m M x = M := by rw [actT, if_neg h0, if_neg h1]
            refine rn1 (jn @tdoS.eq_1 (jn @tdo2.eq_1 (jn @tblC.eq_1 (jn @hi (jn @hd (jn @hle (jn @h0 (jn @h1 (jn @h2 @h3'))))))))) ?_
            (repeat (refine And.intro (by omega) ?_))
            refine HC_fitR (tdbS l 2 3 i) (tdb2 M m x) [0,1,2,3] [] ?_ (td23_b l i M m x hm0 hM hx6 _ _ rfl ?_)
            · exact ft1 (jn @tdbS.eq_1 (jn @tdb0.eq_1 (jn @tdb2.eq_1 (jn @tdA.eq_1 (jn @tdcR.eq_1 (jn @tblC.eq_1 (jn @aktE.eq_1 @fctE.eq_1)))))))
            refine rn1 (jn @tdbS.eq_1 (jn @tdb2.eq_1 (jn @tdA.eq_1 (jn @tdcR.eq_1 (jn @tblC.eq_1 (jn @aktE.eq_1 @fctE.eq_1)))))) ?_
            refine HC_fitR (tdbS l 2 3 i) (tdb2 M m x) [0,1,2,3] [] ?_ (td31_b l i M m x hm0 (by first | assumption | exact hM2) hx6 _ _ rfl ?_)
            · exact ft1 (jn @tdbS.eq_1 (jn @tdo0.eq_1 (jn @tdo2.eq_1 (jn @tdb0.eq_1 (jn @tdb2.eq_1 (jn @tdb3.eq_1 (jn @tdb4.eq_1 (jn @tdb5.eq_1 (jn @tdb6.eq_1 (jn @tdcR.eq_1 (jn @tdA.eq_1 (jn @tblC.eq_1 (jn @aktE.eq_1 @fctE.eq_1)))))))))))))
            refine rn1 (jn @tdbS.eq_1 (jn @tdb0.eq_1 (jn @tdb2.eq_1 (jn @tdb3.eq_1 (jn @tdb4.eq_1 (jn @tdb5.eq_1 (jn @tdb6.eq_1 (jn @tdA.eq_1 @tblC.eq_1)))))))) ?_
            (repeat (refine And.intro (by omega) ?_))
            refine ⟨(i + 1, true), by simp only; omega, by simp only; omega, [0,1,2], [], ?_⟩
            rw [hrz1, hs1, hact, cond_true, cond_true]
            exact ft1 (jn @tdoS.eq_1 (jn @tdo0.eq_1 (jn @tdo2.eq_1 @tblC.eq_1)))
          by_cases h4 : x.k = 4
          · have h4' : (x.k = 4) = True := eq_true h4
            have hact : actT m M x = M := by rw [actT, if_neg h0, if_neg h1]
            refine rn1 (jn @tdoS.eq_1 (jn @tdo2.eq_1 (jn @tblC.eq_1 (jn @hi (jn @hd (jn @hle (jn @h0 (jn @h1 (jn @h2 (jn @h3 @h4')))))))))) ?_
            (repeat (refine And.intro (by omega) ?_))
            refine HC_loopR (fun k : Nat => (13, .d (.c (.int .i64 (k : Int)))) :: tdbS l 2 3 i) (fun _ => tdb2 M m x) (fun k => k ≤ x.f.l.length) (fun k => x.f.l.length - k) 0 [0,1,2,3] [] (Nat.zero_le _) ?_ ?_
            · exact ft1 (jn @tdbS.eq_1 (jn @tdb0.eq_1 (jn @tdb2.eq_1 (jn @tdA.eq_1 (jn @tdcR.eq_1 (jn @tblC.eq_1 (jn @aktE.eq_1 @fctE.eq_1)))))))
            intro k hk1
            refine HC_of_R ty_ok ?_
            by_cases hkt : k < x.f.l.length
            · have hk : (k : Int) < x.f.l.length := by omega
              refine rn1 (jn @tdbS.eq_1 (jn @tdb2.eq_1 (jn @tdA.eq_1 (jn @tdcR.eq_1 (jn @tblC.eq_1 (jn @aktE.eq_1 (jn @fctE.eq_1 @hk))))))) ?_
              (repeat (refine And.intro (by omega) ?_))
              refine HC_fitR ((13, .d (.c (.int .i64 (k : Int)))) :: tdbS l 2 3 i) (tdb2 M m x) [0,1,2,3] [] ?_ (td28_b l i M m x hm0 hM hx6 k hkt _ _ rfl ?_)
              · exact ft1 (jn @tdbS.eq_1 (jn @tdb0.eq_1 (jn @tdb2.eq_1 (jn @tdA.eq_1 (jn @tdcR.eq_1 (jn @tblC.eq_1 (jn @aktE.eq_1 @fctE.eq_1)))))))
              refine rn1 (jn @tdbS.eq_1 (jn @tdb2.eq_1 (jn @tdA.eq_1 (jn @tdcR.eq_1 (jn @tblC.eq_1 (jn @aktE.eq_1 @fctE.eq_1)))))) ?_
              (repeat (refine And.intro (by omega) ?_))
              refine ⟨k + 1, (by omega), by omega, [0,1,2,3], [], ?_⟩
              exact ft1 (jn @tdbS.eq_1 (jn @tdb0.eq_1 (jn @tdb2.eq_1 (jn @tdA.eq_1 (jn @tdcR.eq_1 (jn @tblC.eq_1 (jn @aktE.eq_1 @fctE.eq_1)))))))
            · have hk : ¬ (k : Int) < x.f.l.length := by omega
              refine rn1 (jn @tdbS.eq_1 (jn @tdb2.eq_1 (jn @tdA.eq_1 (jn @tdcR.eq_1 (jn @tblC.eq_1 (jn @aktE.eq_1 (jn @fctE.eq_1 @hk))))))) ?_
              (repeat (refine And.intro (by omega) ?_))
              refine HC_fitR ((14, .ptr 4 0) :: tdbS l 2 3 i) (tdb2 M m x ++ [tdcR]) [0,1,2,3,4] [] ?_ (td30_b l i M m x hm0 hM hx6 _ _ rfl ?_)
              · exact ft1 (jn @tdbS.eq_1 (jn @tdb0.eq_1 (jn @tdb2.eq_1 (jn @tdA.eq_1 (jn @tdcR.eq_1 (jn @tblC.eq_1 (jn @aktE.eq_1 @fctE.eq_1)))))))
              refine rn1 (jn @tdbS.eq_1 (jn @tdb2.eq_1 (jn @tdA.eq_1 (jn @tdcR.eq_1 (jn @tblC.eq_1 (jn @aktE.eq_1 @fctE.eq_1)))))) ?_
              refine HC_fitR (tdbS l 2 3 i) (tdb6 M m x) [0,1,2,3,4] [] ?_ (td31_f l i M m x hm0 (by first | assumption | exact hM2) hx6 _ _ rfl ?_)
              · exact ft1 (jn @tdbS.eq_1 (jn @tdo0.eq_1 (jn @tdo2.eq_1 (jn @tdb0.eq_1 (jn @tdb2.eq_1 (jn @tdb3.eq_1 (jn @tdb4.eq_1 (jn @tdb5.eq_1 (jn @tdb6.eq_1 (jn @tdcR.eq_1 (jn @tdA.eq_1 (jn @tblC.eq_1 (jn @aktE.eq_1 @fctE.eq_1)))))))))))))
              refine rn1 (jn @tdbS.eq_1 (jn @tdb0.eq_1 (jn @tdb2.eq_1 (jn @tdb3.eq_1 (jn @tdb4.eq_1 (jn @tdb5.eq_1 (jn @tdb6.eq_1 (jn @tdA.eq_1 @tblC.eq_1)))))))) ?_
              (repeat (refine And.intro (by omega) ?_))
              refine ⟨(i + 1, true), by simp only; omega, by simp only; omega, [0,1,2], [], ?_⟩
              rw [hrz1, hs1, hact, cond_true, cond_true]
              exact ft1 (jn @tdoS.eq_1 (jn @tdo0.eq_1 (jn @tdo2.eq_1 @tblC.eq_1)))
          have hact : actT m M x = M := by rw [actT, if_neg h0, if_neg h1]
          refine rn1 (jn @tdoS.eq_1 (jn @tdo2.eq_1 (jn @tblC.eq_1 (jn @hi (jn @hd (jn @hle (jn @h0 (jn @h1 (jn @h2 (jn @h3 @h4)))))))))) ?_
          (repeat (refine And.intro (by omega) ?_))
          refine HC_fitR (tdbS l 2 3 i) (tdb2 M m x) [0,1,2,3] [] ?_ (td31_b l i M m x hm0 (by first | assumption | exact hM2) hx6 _ _ rfl ?_)
          · exact ft1 (jn @tdbS.eq_1 (jn @tdo0.eq_1 (jn @tdo2.eq_1 (jn @tdb0.eq_1 (jn @tdb2.eq_1 (jn @tdb3.eq_1 (jn @tdb4.eq_1 (jn @tdb5.eq_1 (jn @tdb6.eq_1 (jn @tdcR.eq_1 (jn @tdA.eq_1 (jn @tblC.eq_1 (jn @aktE.eq_1 @fctE.eq_1)))))))))))))
          refine rn1 (jn @tdbS.eq_1 (jn @tdb0.eq_1 (jn @tdb2.eq_1 (jn @tdb3.eq_1 (jn @tdb4.eq_1 (jn @tdb5.eq_1 (jn @tdb6.eq_1 (jn @tdA.eq_1 @tblC.eq_1)))))))) ?_
          (repeat (refine And.intro (by omega) ?_))
          refine ⟨(i + 1, true), by simp only; omega, by simp only; omega, [0,1,2], [], ?_⟩
          rw [hrz1, hs1, hact, cond_true, cond_true]
          exact ft1 (jn @tdoS.eq_1 (jn @tdo0.eq_1 (jn @tdo2.eq_1 @tblC.eq_1)))
      · have hi : ¬ (i : Int) < l.length := by omega
        cases c with
        | false =>
          show R _ _ _ _ _ _ ⟨fun _ => AV.top, tdoS l i 0, tdo0 (tdM m l i) m⟩
          refine rn1 (jn @tdoS.eq_1 (jn @tdo0.eq_1 (jn @tblC.eq_1 @hi))) ?_
          refine HO_pureA ty_ok blive_ac ?_
          exact rz0
        | true =>
          show R _ _ _ _ _ _ ⟨fun _ => AV.top, tdoS l i 2, tdo2 (tdM m l i) m⟩
          refine rn1 (jn @tdoS.eq_1 (jn @tdo2.eq_1 (jn @tblC.eq_1 @hi))) ?_
          refine HO_pureA ty_ok blive_ac ?_
          exact rz0
  · have h : m < 1 ∨ m > 4096 := by omega
    have k1 := bnewZ_ac m h
    have k2 := rnewZ_ac m h
    refine rn0 ?_
    refine HO_pureA ty_ok k1 ?_
    refine rn0 ?_
    refine HO_pureA ty_ok k2 ?_
    refine rn0 ?_
    refine HO_pureA ty_ok blive_ac ?_
    exact rz0
end Go.Proofs.Ythdjblfiiogmgaa
