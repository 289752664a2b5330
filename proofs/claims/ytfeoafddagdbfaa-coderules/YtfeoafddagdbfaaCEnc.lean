import Derived.Test.YtfeoafddagdbfaaCREnc
set_option linter.unusedVariables false
set_option linter.unusedSimpArgs false
set_option maxRecDepth 100000
namespace Go.Proofs.Ytfeoafddagdbfaa
open Go Go.ChangeShapes Go.WideShapes
def okRs (l : List Rul) : Prop := ∀ r ∈ l, szR r ∧ okRl r
theorem enc_bad {l : List Rul} (h : ¬ 768 < l.length) (i : Nat) (hi : i < l.length) (hb : rightR l[i] = false) : encR l = ([], 50) := by
  rw [encR, if_neg h, if_neg]
  rw [all_ex rightR l i hi hb]; decide
theorem enc_ok {l : List Rul} (h : ¬ 768 < l.length) (ha : l.all rightR = true) : encR l = (l.foldl putR (leb (zig (l.length : Int))), 0) := by rw [encR, if_neg h, if_pos ha]
def reSt (l : List Rul) (x : Nat × List UInt8) : List (Nat × AV) := [(0, .d (.sl 11 l.length (flatE rulE l))), (4, .sl (.own 1) 1 x.2.length (bD x.2)), (5, .d (.c (.int .i64 x.1)))]
def reRe (x : Nat × List UInt8) : Rs := [none, some (.tok x.2.length)]
set_option maxHeartbeats 1000000 in
theorem renc_ac (l : List Rul) (ho : okRs l) (hl : l.length ≤ 140737488352000) : AC Try.prog noG 14 [.d (.sl 11 l.length (flatE rulE l))] []
    (fun v r' => v = enV (encR l) ∧ r' = []) := by
  refine AC.fit ?_
  refine AC_of_R (N := 31) (res := [.tmp 2, .tmp 3]) ty_ok Try.call14 Try.func14 rfl rfl rfl (Nat.le_of_ble_eq_true rfl) ?_
  by_cases h7 : 768 < l.length
  · have g7 : (l.length : Int) > 768 := by omega
    have e : encR l = ([], 3) := if_pos h7
    rw [e]
    refine rn1 @g7 ?_
    exact fv1 [] [] @enV.eq_1
  have g7 : ¬ (l.length : Int) > 768 := by omega
  have ke := rputInt_ac [] (l.length : Int) (by omega) (by omega) (by simp)
  rw [List.nil_append] at ke
  have hb0 := leb_nat (n := l.length) (by omega)
  obtain ⟨b0, hb0'⟩ : ∃ b0, b0 = leb (zig (l.length : Int)) := ⟨_, rfl⟩
  rw [← hb0'] at ke hb0
  refine rn1 @g7 ?_
  refine HO_callX ty_ok [] ke (trivial) rfl ?_
  rintro v r' ⟨rfl, rfl⟩ _
  refine rn0 ?_
  refine HC_loopR (reSt l) reRe (fun x => x.1 ≤ l.length ∧ x.2 = (l.take x.1).foldl putR b0 ∧ ∀ r ∈ l.take x.1, rightR r = true) (fun x => l.length - x.1) (0, b0) [0, 0] [] ⟨by simp only; omega, rfl, by simp⟩ ?_ ?_
  · exact ft1 (jn @reSt.eq_1 @reRe.eq_1)
  intro ⟨i, acc⟩ ⟨hi1, hi2, hi3⟩
  simp only at hi1 hi2 hi3
  refine HC_of_R ty_ok ?_
  by_cases hlt : i < l.length
  · have hi : (i : Int) < l.length := by omega
    have hd := flatE_drop rulE_len l i hlt
    have hle2 := flatE_len rulE_len l
    have hstep := fold_take putR l i hlt b0
    have hox := ho l[i] (List.getElem_mem hlt)
    have hbad := enc_bad h7 i hlt
    have hall : rightR l[i] = true → ∀ r ∈ l.take (i + 1), rightR r = true := by
      intro hr r hm
      rw [List.take_succ_eq_append_getElem hlt, List.mem_append] at hm
      rcases hm with hm | hm
      · exact hi3 r hm
      · simp only [List.mem_cons, List.not_mem_nil, or_false] at hm
        rw [hm]; exact hr
    have hacc := foldR_le (l.take i) b0 (fun t h => ⟨hi3 t h, (ho t (List.mem_of_mem_take h)).2⟩)
    rw [List.length_take] at hacc
    generalize l[i] = x at *
    rw [← hi2] at hstep hacc
    simp only [rulE, List.cons_append, List.nil_append] at hd
    have kr := rright_ac x hox.1
    simp only [rulE] at kr
    refine rn1 (jn @reSt.eq_1 (jn @reRe.eq_1 (jn @hi (jn @hd @hle2)))) ?_
    (repeat (refine And.intro (by omega) ?_))
    refine HO_pureA ty_ok kr ?_
    cases hr : rightR x with
    | false =>
      rw [hbad hr]
      refine rn0 ?_
      exact fv1 [] [] @enV.eq_1
    | true =>
      have kp := rputR_ac acc x hr hox.2 (by omega)
      rw [← hstep] at kp
      simp only [rulE] at kp
      refine rn1 (jn @hi (jn @hd @hle2)) ?_
      (repeat (refine And.intro (by omega) ?_))
      refine HO_callX ty_ok [1] kp (⟨fun y h => by injection h with h; subst h; rfl, trivial⟩) (rfl) ?_
      rintro v r' ⟨rfl, rfl⟩ _
      refine rn0 ?_
      (repeat (refine And.intro (by omega) ?_))
      refine ⟨(i + 1, (l.take (i + 1)).foldl putR b0), ⟨by simp only; omega, rfl, hall hr⟩, by simp only; omega, [0, 2], [], ?_⟩
      exact ft1 (jn @reSt.eq_1 @reRe.eq_1)
  · have hi : ¬ (i : Int) < l.length := by omega
    rw [List.take_of_length_le (by omega)] at hi2 hi3
    rw [enc_ok h7 (List.all_eq_true.2 hi3), ← hb0', ← hi2]
    refine rn1 (jn @reSt.eq_1 (jn @reRe.eq_1 @hi)) ?_
    exact fv1 [] [] @enV.eq_1
def ceSt (l : List Rul) (x : Nat × List UInt8) : List (Nat × AV) := [(15, .d (.sl 11 l.length (flatE rulE l))), (16, .d (.c (.int .i64 l.length))), (17, .d (.c (.int .i64 x.1))), (4, .sl (.own 1) 1 x.2.length (bD x.2))]
def ceFr (l : List Rul) (i : Nat) : List (Nat × AV) := [(15, .d (.sl 11 l.length (flatE rulE l))), (16, .d (.c (.int .i64 l.length))), (17, .d (.c (.int .i64 i)))]
def ceA (acc : List UInt8) : List (Nat × AV) := [(6, .ptr 2 0), (4, .sl (.own 3) 1 acc.length (bD acc))]
def ceB (acc : List UInt8) : List (Nat × AV) := [(6, .ptr 2 0), (4, .sl (.own 4) 1 acc.length (bD acc))]
def ceReA (r : Rul) (acc : List UInt8) : Rs := [none, none, some (.obj ((rulE r).map .d)), some (.tok acc.length)]
def ceReB (r : Rul) (acc : List UInt8) : Rs := [none, none, some (.obj ((rulE r).map .d)), none, some (.tok acc.length)]
def ceIn (r : Rul) (k : Nat) : List (Nat × AV) := [(43, .d (.sl 10 r.b.length (flatE litE r.b))), (44, .d (.c (.int .i64 r.b.length))), (45, .d (.c (.int .i64 k)))]
def ceI (acc : List UInt8) : List (Nat × AV) := [(4, .sl (.own 5) 1 acc.length (bD acc))]
def ceReI (acc : List UInt8) : Rs := [none, none, none, none, none, some (.tok acc.length)]
def ceJ (acc : List UInt8) : List (Nat × AV) := [(4, .sl (.own 7) 1 acc.length (bD acc))]
def ceReJ (acc : List UInt8) : Rs := [none, none, none, none, none, none, none, some (.tok acc.length)]
set_option maxHeartbeats 1000000 in
theorem enc_ac (l : List Rul) (ho : okRs l) (hl : l.length ≤ 140737488352000) : AC Try.prog noG 13 [.d (.sl 11 l.length (flatE rulE l))] []
    (fun v r' => v = enV (encR l) ∧ r' = []) := by
  refine AC.fit ?_
  refine AC_of_R (N := 65) (res := [.tmp 2, .tmp 3]) ty_ok Try.call13 Try.func13 rfl rfl rfl (Nat.le_of_ble_eq_true rfl) ?_
  by_cases h7 : 768 < l.length
  · have g7 : (l.length : Int) > 768 := by omega
    have e : encR l = ([], 3) := if_pos h7
    rw [e]
    refine rn1 @g7 ?_
    exact fv1 [] [] @enV.eq_1
  have g7 : ¬ (l.length : Int) > 768 := by omega
  have ke := putInt_ac [] (l.length : Int) (by omega) (by omega) (by simp)
  rw [List.nil_append] at ke
  have hb0 := leb_nat (n := l.length) (by omega)
  obtain ⟨b0, hb0'⟩ : ∃ b0, b0 = leb (zig (l.length : Int)) := ⟨_, rfl⟩
  rw [← hb0'] at ke hb0
  refine rn1 @g7 ?_
  refine HO_callX ty_ok [] ke (trivial) rfl ?_
  rintro v r' ⟨rfl, rfl⟩ _
  refine rn0 ?_
  refine HC_loopR (ceSt l) reRe (fun x => x.1 ≤ l.length ∧ x.2 = (l.take x.1).foldl putR b0 ∧ ∀ r ∈ l.take x.1, rightR r = true) (fun x => l.length - x.1) (0, b0) [0, 0] [] ⟨by simp only; omega, rfl, by simp⟩ ?_ ?_
  · exact ft1 (jn @ceSt.eq_1 @reRe.eq_1)
  intro ⟨i, acc⟩ ⟨hi1, hi2, hi3⟩
  simp only at hi1 hi2 hi3
  refine HC_of_R ty_ok ?_
  by_cases hlt : i < l.length
  · have hi : (i : Int) < l.length := by omega
    have hd := flatE_drop rulE_len l i hlt
    have hle2 := flatE_len rulE_len l
    have hstep := fold_take putR l i hlt b0
    have hox := ho l[i] (List.getElem_mem hlt)
    have hbad := enc_bad h7 i hlt
    have hall : rightR l[i] = true → ∀ r ∈ l.take (i + 1), rightR r = true := by
      intro hr r hm
      rw [List.take_succ_eq_append_getElem hlt, List.mem_append] at hm
      rcases hm with hm | hm
      · exact hi3 r hm
      · simp only [List.mem_cons, List.not_mem_nil, or_false] at hm
        rw [hm]; exact hr
    have hacc := foldR_le (l.take i) b0 (fun t h => ⟨hi3 t h, (ho t (List.mem_of_mem_take h)).2⟩)
    rw [List.length_take] at hacc
    generalize l[i] = r at *
    rw [← hi2] at hstep hacc
    simp only [rulE, List.cons_append, List.nil_append] at hd
    have kr := crule_ac r hox.1
    simp only [rulE] at kr
    refine rn1 (jn @ceSt.eq_1 (jn @reRe.eq_1 (jn @hi (jn @hd @hle2)))) ?_
    (repeat (refine And.intro (by omega) ?_))
    refine HO_pureA ty_ok kr ?_
    cases hr : rightR r with
    | false =>
      rw [hbad hr]
      refine rn0 ?_
      exact fv1 [] [] @enV.eq_1
    | true =>
      clear hbad kr
      have hall := hall hr
      obtain ⟨h1, h2, h3, ⟨h4, h4'⟩, h5, h6⟩ := rightR_iff hr hox.2
      obtain ⟨g1, g2, g3, g4⟩ := put4_le (b := acc) h1 h2 h3.2 h4 h4'
      have ka := putT_ac acc r.h h1.1 (by have := h1.2; omega)
      have kb := putText_ac (putT acc r.h) r.p (by omega) (by omega)
      have kc := putTs_ac (putTx (putT acc r.h) r.p) r.l h4' h4 (by omega)
      have kd := putT_ac (putTs (putTx (putT acc r.h) r.p) r.l) r.t h2.1 (by have := h2.2; omega)
      have hR : putR acc r = r.b.foldl putLt (putT (putTs (putTx (putT acc r.h) r.p) r.l) r.t ++ leb (zig (r.b.length : Int))) := rfl
      rw [hR] at hstep
      generalize putT acc r.h = b1 at *
      generalize putTx b1 r.p = b2 at *
      generalize putTs b2 r.l = b3 at *
      generalize putT b3 r.t = b4 at *
      have ki := putInt_ac b4 (r.b.length : Int) (by omega) (by omega) (by omega)
      have hle := leb_nat (n := r.b.length) (by omega)
      obtain ⟨b5, hb5⟩ : ∃ b5, b5 = b4 ++ leb (zig (r.b.length : Int)) := ⟨_, rfl⟩
      have hb5l : b5.length = b4.length + (leb (zig (r.b.length : Int))).length := by rw [hb5, List.length_append]
      rw [← hb5] at ki hstep
      simp only [trmE] at ka kd
      refine rn0 ?_
      refine HC_cutR (ceFr l i ++ ceA b3) (ceReA r b3) ?_ ?_
      · skip
        refine HC_of_HV mix ?_
        refine HV_split 5 3 (by decide) ?_ ?_
        · simp only [addAt]
          refine HV_split 8 3 (by decide) ?_ ?_
          · simp only [addAt]
            refine HV_order [] ty_ok [0, 1, 2, 4, 5, 7, 8, 3, 6, 9, 10] (by kernel_rfl) rfl _ rfl ?_
            simp only [opl_nil', opl_cons', oplC_some, List.getElem?_toArray, List.getElem?_cons_zero, List.getElem?_cons_succ]
            refine rn0 ?_
            (repeat (refine And.intro (by omega) ?_))
            refine HO_callX ty_ok [1] ka (⟨fun y h => by injection h with h; subst h; rfl, trivial⟩) (rfl) ?_
            rintro v r' ⟨rfl, rfl⟩ _
            refine rn0 ?_
            (repeat (refine And.intro (by omega) ?_))
            refine HO_callX ty_ok [] kb (trivial) rfl ?_
            rintro v r' ⟨rfl, rfl⟩ _
            refine rn0 ?_
            (repeat (refine And.intro (by omega) ?_))
            refine HO_callX ty_ok [4] kc (⟨fun y h => by injection h with h; subst h; rfl, trivial⟩) (rfl) ?_
            rintro v r' ⟨rfl, rfl⟩ _
            refine rn0 ?_
            (repeat (refine And.intro (by omega) ?_))
            refine ⟨[0, 1, 2, 5], [], ?_⟩
            exact ft1 (jn @ceFr.eq_1 (jn @ceA.eq_1 (jn @ceReA.eq_1 @rulE.eq_1)))
          · simp only [addAt]
            refine HV_split 8 6 (by decide) ?_ ?_
            · simp only [addAt]
              refine HV_order [] ty_ok [0, 1, 2, 4, 5, 7, 3, 8, 6, 9, 10] (by kernel_rfl) rfl _ rfl ?_
              simp only [opl_nil', opl_cons', oplC_some, List.getElem?_toArray, List.getElem?_cons_zero, List.getElem?_cons_succ]
              refine rn0 ?_
              (repeat (refine And.intro (by omega) ?_))
              refine HO_callX ty_ok [1] ka (⟨fun y h => by injection h with h; subst h; rfl, trivial⟩) (rfl) ?_
              rintro v r' ⟨rfl, rfl⟩ _
              refine rn0 ?_
              (repeat (refine And.intro (by omega) ?_))
              refine HO_callX ty_ok [] kb (trivial) rfl ?_
              rintro v r' ⟨rfl, rfl⟩ _
              refine rn0 ?_
              (repeat (refine And.intro (by omega) ?_))
              refine HO_callX ty_ok [4] kc (⟨fun y h => by injection h with h; subst h; rfl, trivial⟩) (rfl) ?_
              rintro v r' ⟨rfl, rfl⟩ _
              refine rn0 ?_
              (repeat (refine And.intro (by omega) ?_))
              refine ⟨[0, 1, 2, 5], [], ?_⟩
              exact ft1 (jn @ceFr.eq_1 (jn @ceA.eq_1 (jn @ceReA.eq_1 @rulE.eq_1)))
            · simp only [addAt]
              refine HV_order [] ty_ok [0, 1, 2, 4, 5, 7, 3, 6, 8, 9, 10] (by kernel_rfl) rfl _ rfl ?_
              simp only [opl_nil', opl_cons', oplC_some, List.getElem?_toArray, List.getElem?_cons_zero, List.getElem?_cons_succ]
              refine rn0 ?_
              (repeat (refine And.intro (by omega) ?_))
              refine HO_callX ty_ok [1] ka (⟨fun y h => by injection h with h; subst h; rfl, trivial⟩) (rfl) ?_
              rintro v r' ⟨rfl, rfl⟩ _
              refine rn0 ?_
              (repeat (refine And.intro (by omega) ?_))
              refine HO_callX ty_ok [] kb (trivial) rfl ?_
              rintro v r' ⟨rfl, rfl⟩ _
              refine rn0 ?_
              (repeat (refine And.intro (by omega) ?_))
              refine HO_callX ty_ok [4] kc (⟨fun y h => by injection h with h; subst h; rfl, trivial⟩) (rfl) ?_
              rintro v r' ⟨rfl, rfl⟩ _
              refine rn0 ?_
              (repeat (refine And.intro (by omega) ?_))
              refine ⟨[0, 1, 2, 5], [], ?_⟩
              exact ft1 (jn @ceFr.eq_1 (jn @ceA.eq_1 (jn @ceReA.eq_1 @rulE.eq_1)))
        · simp only [addAt]
          refine HV_split 8 3 (by decide) ?_ ?_
          · simp only [addAt]
            refine HV_order [] ty_ok [0, 1, 2, 4, 7, 8, 3, 5, 6, 9, 10] (by kernel_rfl) rfl _ rfl ?_
            simp only [opl_nil', opl_cons', oplC_some, List.getElem?_toArray, List.getElem?_cons_zero, List.getElem?_cons_succ]
            refine rn0 ?_
            (repeat (refine And.intro (by omega) ?_))
            refine HO_callX ty_ok [1] ka (⟨fun y h => by injection h with h; subst h; rfl, trivial⟩) (rfl) ?_
            rintro v r' ⟨rfl, rfl⟩ _
            refine rn0 ?_
            (repeat (refine And.intro (by omega) ?_))
            refine HO_callX ty_ok [] kb (trivial) rfl ?_
            rintro v r' ⟨rfl, rfl⟩ _
            refine rn0 ?_
            (repeat (refine And.intro (by omega) ?_))
            refine HO_callX ty_ok [4] kc (⟨fun y h => by injection h with h; subst h; rfl, trivial⟩) (rfl) ?_
            rintro v r' ⟨rfl, rfl⟩ _
            refine rn0 ?_
            (repeat (refine And.intro (by omega) ?_))
            refine ⟨[0, 1, 2, 5], [], ?_⟩
            exact ft1 (jn @ceFr.eq_1 (jn @ceA.eq_1 (jn @ceReA.eq_1 @rulE.eq_1)))
          · simp only [addAt]
            refine HV_split 8 6 (by decide) ?_ ?_
            · simp only [addAt]
              refine HV_order [] ty_ok [0, 1, 2, 4, 7, 3, 5, 8, 6, 9, 10] (by kernel_rfl) rfl _ rfl ?_
              simp only [opl_nil', opl_cons', oplC_some, List.getElem?_toArray, List.getElem?_cons_zero, List.getElem?_cons_succ]
              refine rn0 ?_
              (repeat (refine And.intro (by omega) ?_))
              refine HO_callX ty_ok [1] ka (⟨fun y h => by injection h with h; subst h; rfl, trivial⟩) (rfl) ?_
              rintro v r' ⟨rfl, rfl⟩ _
              refine rn0 ?_
              (repeat (refine And.intro (by omega) ?_))
              refine HO_callX ty_ok [] kb (trivial) rfl ?_
              rintro v r' ⟨rfl, rfl⟩ _
              refine rn0 ?_
              (repeat (refine And.intro (by omega) ?_))
              refine HO_callX ty_ok [4] kc (⟨fun y h => by injection h with h; subst h; rfl, trivial⟩) (rfl) ?_
              rintro v r' ⟨rfl, rfl⟩ _
              refine rn0 ?_
              (repeat (refine And.intro (by omega) ?_))
              refine ⟨[0, 1, 2, 5], [], ?_⟩
              exact ft1 (jn @ceFr.eq_1 (jn @ceA.eq_1 (jn @ceReA.eq_1 @rulE.eq_1)))
            · simp only [addAt]
              refine HV_order [] ty_ok [0, 1, 2, 4, 7, 3, 5, 6, 8, 9, 10] (by kernel_rfl) rfl _ rfl ?_
              simp only [opl_nil', opl_cons', oplC_some, List.getElem?_toArray, List.getElem?_cons_zero, List.getElem?_cons_succ]
              refine rn0 ?_
              (repeat (refine And.intro (by omega) ?_))
              refine HO_callX ty_ok [1] ka (⟨fun y h => by injection h with h; subst h; rfl, trivial⟩) (rfl) ?_
              rintro v r' ⟨rfl, rfl⟩ _
              refine rn0 ?_
              (repeat (refine And.intro (by omega) ?_))
              refine HO_callX ty_ok [] kb (trivial) rfl ?_
              rintro v r' ⟨rfl, rfl⟩ _
              refine rn0 ?_
              (repeat (refine And.intro (by omega) ?_))
              refine HO_callX ty_ok [4] kc (⟨fun y h => by injection h with h; subst h; rfl, trivial⟩) (rfl) ?_
              rintro v r' ⟨rfl, rfl⟩ _
              refine rn0 ?_
              (repeat (refine And.intro (by omega) ?_))
              refine ⟨[0, 1, 2, 5], [], ?_⟩
              exact ft1 (jn @ceFr.eq_1 (jn @ceA.eq_1 (jn @ceReA.eq_1 @rulE.eq_1)))
      refine rn1 (jn @ceFr.eq_1 (jn @ceA.eq_1 (jn @ceReA.eq_1 @rulE.eq_1))) ?_
      refine HC_cutR (ceFr l i ++ ceB b5) (ceReB r b5) ?_ ?_
      · skip
        refine HC_of_HV mix ?_
        refine HV_split 5 3 (by decide) ?_ ?_
        · simp only [addAt]
          refine HV_order [] ty_ok [0, 1, 2, 4, 5, 6, 3, 7, 8] (by kernel_rfl) rfl _ rfl ?_
          simp only [opl_nil', opl_cons', oplC_some, List.getElem?_toArray, List.getElem?_cons_zero, List.getElem?_cons_succ]
          refine rn0 ?_
          (repeat (refine And.intro (by omega) ?_))
          refine HO_callX ty_ok [3] kd (⟨fun y h => by injection h with h; subst h; rfl, trivial⟩) (rfl) ?_
          rintro v r' ⟨rfl, rfl⟩ _
          refine rn0 ?_
          (repeat (refine And.intro (by omega) ?_))
          refine HO_callX ty_ok [] ki (trivial) rfl ?_
          rintro v r' ⟨rfl, rfl⟩ _
          refine rn0 ?_
          (repeat (refine And.intro (by omega) ?_))
          refine ⟨[0, 1, 2, 3, 5], [], ?_⟩
          exact ft1 (jn @ceFr.eq_1 (jn @ceB.eq_1 (jn @ceReB.eq_1 @rulE.eq_1)))
        · simp only [addAt]
          refine HV_order [] ty_ok [0, 1, 2, 4, 3, 5, 6, 7, 8] (by kernel_rfl) rfl _ rfl ?_
          simp only [opl_nil', opl_cons', oplC_some, List.getElem?_toArray, List.getElem?_cons_zero, List.getElem?_cons_succ]
          refine rn0 ?_
          (repeat (refine And.intro (by omega) ?_))
          refine HO_callX ty_ok [3] kd (⟨fun y h => by injection h with h; subst h; rfl, trivial⟩) (rfl) ?_
          rintro v r' ⟨rfl, rfl⟩ _
          refine rn0 ?_
          (repeat (refine And.intro (by omega) ?_))
          refine HO_callX ty_ok [] ki (trivial) rfl ?_
          rintro v r' ⟨rfl, rfl⟩ _
          refine rn0 ?_
          (repeat (refine And.intro (by omega) ?_))
          refine ⟨[0, 1, 2, 3, 5], [], ?_⟩
          exact ft1 (jn @ceFr.eq_1 (jn @ceB.eq_1 (jn @ceReB.eq_1 @rulE.eq_1)))
      refine rn1 (jn @ceFr.eq_1 (jn @ceB.eq_1 (jn @ceReB.eq_1 @rulE.eq_1))) ?_
      clear ka kb kc kd ki g1 g2 g3
      refine HC_loopR (fun x : Nat × List UInt8 => ceFr l i ++ (ceIn r x.1 ++ ceI x.2)) (fun x => ceReI x.2) (fun x => x.1 ≤ r.b.length ∧ x.2 = (r.b.take x.1).foldl putLt b5) (fun x => r.b.length - x.1) (0, b5) [0, 0, 0, 0, 0, 4] [] ⟨by simp only; omega, rfl⟩ ?_ ?_
      · exact ft1 (jn @ceFr.eq_1 (jn @ceIn.eq_1 (jn @ceI.eq_1 @ceReI.eq_1)))
      intro ⟨k, ac2⟩ ⟨hk1, hk2⟩
      simp only at hk1 hk2
      refine HC_of_R ty_ok ?_
      by_cases hklt : k < r.b.length
      · have hk : (k : Int) < r.b.length := by omega
        have hd2 := flatE_drop litE_len r.b k hklt
        have hle3 := flatE_len litE_len r.b
        have hst2 := fold_take putLt r.b k hklt b5
        have hrx := h6 r.b[k] (List.getElem_mem hklt)
        have hacc2 := foldI_le (r.b.take k) b5 (fun t h => h6 t (List.mem_of_mem_take h))
        rw [List.length_take] at hacc2
        generalize r.b[k] = x at *
        rw [← hk2] at hst2 hacc2
        simp only [litE, List.cons_append, List.nil_append] at hd2
        clear h1 h2 h3 h4 h4'
        obtain ⟨h1, h2, h3, h4, h5'⟩ := rightI_iff hrx.1 hrx.2
        obtain ⟨g1, g2, g3, g5⟩ := put4_le (b := ac2) h1 h2 h3.2 h4 h5'
        have ka := putT_ac ac2 x.b h1.1 (by have := h1.2; omega)
        have kb := putText_ac (putT ac2 x.b) x.p (by omega) (by omega)
        have kc := putTs_ac (putTx (putT ac2 x.b) x.p) x.l h5' h4 (by omega)
        have kd := putT_ac (putTs (putTx (putT ac2 x.b) x.p) x.l) x.a h2.1 (by have := h2.2; omega)
        unfold putLt at hst2
        generalize putT ac2 x.b = c1 at *
        generalize putTx c1 x.p = c2 at *
        generalize putTs c2 x.l = c3 at *
        generalize putT c3 x.a = c4 at *
        simp only [trmE] at ka kd
        refine rn1 (jn @ceFr.eq_1 (jn @ceIn.eq_1 (jn @ceI.eq_1 (jn @ceReI.eq_1 (jn @hk (jn @hd2 @hle3)))))) ?_
        (repeat (refine And.intro (by omega) ?_))
        refine HC_cutR (ceFr l i ++ (ceIn r k ++ ceJ c4)) (ceReJ c4) ?_ ?_
        · skip
          refine HC_of_HV mix ?_
          refine HV_split 5 3 (by decide) ?_ ?_
          · simp only [addAt]
            refine HV_split 8 3 (by decide) ?_ ?_
            · simp only [addAt]
              refine HV_split 11 3 (by decide) ?_ ?_
              · simp only [addAt]
                refine HV_order [] ty_ok [0, 1, 2, 4, 5, 7, 8, 10, 11, 3, 6, 9, 12, 13] (by kernel_rfl) rfl _ rfl ?_
                simp only [opl_nil', opl_cons', oplC_some, List.getElem?_toArray, List.getElem?_cons_zero, List.getElem?_cons_succ]
                refine rn0 ?_
                (repeat (refine And.intro (by omega) ?_))
                refine HO_callX ty_ok [5] ka (⟨fun y h => by injection h with h; subst h; rfl, trivial⟩) (rfl) ?_
                rintro v r' ⟨rfl, rfl⟩ _
                refine rn0 ?_
                (repeat (refine And.intro (by omega) ?_))
                refine HO_callX ty_ok [] kb (trivial) rfl ?_
                rintro v r' ⟨rfl, rfl⟩ _
                refine rn0 ?_
                (repeat (refine And.intro (by omega) ?_))
                refine HO_callX ty_ok [8] kc (⟨fun y h => by injection h with h; subst h; rfl, trivial⟩) (rfl) ?_
                rintro v r' ⟨rfl, rfl⟩ _
                refine rn0 ?_
                (repeat (refine And.intro (by omega) ?_))
                refine HO_callX ty_ok [9] kd (⟨fun y h => by injection h with h; subst h; rfl, trivial⟩) (rfl) ?_
                rintro v r' ⟨rfl, rfl⟩ _
                refine rn0 ?_
                (repeat (refine And.intro (by omega) ?_))
                refine ⟨[0, 0, 0, 0, 0, 0, 0, 10], [], ?_⟩
                exact ft1 (jn @ceFr.eq_1 (jn @ceIn.eq_1 (jn @ceJ.eq_1 (jn @ceReJ.eq_1 @litE.eq_1))))
              · simp only [addAt]
                refine HV_split 11 6 (by decide) ?_ ?_
                · simp only [addAt]
                  refine HV_order [] ty_ok [0, 1, 2, 4, 5, 7, 8, 10, 3, 11, 6, 9, 12, 13] (by kernel_rfl) rfl _ rfl ?_
                  simp only [opl_nil', opl_cons', oplC_some, List.getElem?_toArray, List.getElem?_cons_zero, List.getElem?_cons_succ]
                  refine rn0 ?_
                  (repeat (refine And.intro (by omega) ?_))
                  refine HO_callX ty_ok [5] ka (⟨fun y h => by injection h with h; subst h; rfl, trivial⟩) (rfl) ?_
                  rintro v r' ⟨rfl, rfl⟩ _
                  refine rn0 ?_
                  (repeat (refine And.intro (by omega) ?_))
                  refine HO_callX ty_ok [] kb (trivial) rfl ?_
                  rintro v r' ⟨rfl, rfl⟩ _
                  refine rn0 ?_
                  (repeat (refine And.intro (by omega) ?_))
                  refine HO_callX ty_ok [8] kc (⟨fun y h => by injection h with h; subst h; rfl, trivial⟩) (rfl) ?_
                  rintro v r' ⟨rfl, rfl⟩ _
                  refine rn0 ?_
                  (repeat (refine And.intro (by omega) ?_))
                  refine HO_callX ty_ok [9] kd (⟨fun y h => by injection h with h; subst h; rfl, trivial⟩) (rfl) ?_
                  rintro v r' ⟨rfl, rfl⟩ _
                  refine rn0 ?_
                  (repeat (refine And.intro (by omega) ?_))
                  refine ⟨[0, 0, 0, 0, 0, 0, 0, 10], [], ?_⟩
                  exact ft1 (jn @ceFr.eq_1 (jn @ceIn.eq_1 (jn @ceJ.eq_1 (jn @ceReJ.eq_1 @litE.eq_1))))
                · simp only [addAt]
                  refine HV_split 11 9 (by decide) ?_ ?_
                  · simp only [addAt]
                    refine HV_order [] ty_ok [0, 1, 2, 4, 5, 7, 8, 10, 3, 6, 11, 9, 12, 13] (by kernel_rfl) rfl _ rfl ?_
                    simp only [opl_nil', opl_cons', oplC_some, List.getElem?_toArray, List.getElem?_cons_zero, List.getElem?_cons_succ]
                    refine rn0 ?_
                    (repeat (refine And.intro (by omega) ?_))
                    refine HO_callX ty_ok [5] ka (⟨fun y h => by injection h with h; subst h; rfl, trivial⟩) (rfl) ?_
                    rintro v r' ⟨rfl, rfl⟩ _
                    refine rn0 ?_
                    (repeat (refine And.intro (by omega) ?_))
                    refine HO_callX ty_ok [] kb (trivial) rfl ?_
                    rintro v r' ⟨rfl, rfl⟩ _
                    refine rn0 ?_
                    (repeat (refine And.intro (by omega) ?_))
                    refine HO_callX ty_ok [8] kc (⟨fun y h => by injection h with h; subst h; rfl, trivial⟩) (rfl) ?_
                    rintro v r' ⟨rfl, rfl⟩ _
                    refine rn0 ?_
                    (repeat (refine And.intro (by omega) ?_))
                    refine HO_callX ty_ok [9] kd (⟨fun y h => by injection h with h; subst h; rfl, trivial⟩) (rfl) ?_
                    rintro v r' ⟨rfl, rfl⟩ _
                    refine rn0 ?_
                    (repeat (refine And.intro (by omega) ?_))
                    refine ⟨[0, 0, 0, 0, 0, 0, 0, 10], [], ?_⟩
                    exact ft1 (jn @ceFr.eq_1 (jn @ceIn.eq_1 (jn @ceJ.eq_1 (jn @ceReJ.eq_1 @litE.eq_1))))
                  · simp only [addAt]
                    refine HV_order [] ty_ok [0, 1, 2, 4, 5, 7, 8, 10, 3, 6, 9, 11, 12, 13] (by kernel_rfl) rfl _ rfl ?_
                    simp only [opl_nil', opl_cons', oplC_some, List.getElem?_toArray, List.getElem?_cons_zero, List.getElem?_cons_succ]
                    refine rn0 ?_
                    (repeat (refine And.intro (by omega) ?_))
                    refine HO_callX ty_ok [5] ka (⟨fun y h => by injection h with h; subst h; rfl, trivial⟩) (rfl) ?_
                    rintro v r' ⟨rfl, rfl⟩ _
                    refine rn0 ?_
                    (repeat (refine And.intro (by omega) ?_))
                    refine HO_callX ty_ok [] kb (trivial) rfl ?_
                    rintro v r' ⟨rfl, rfl⟩ _
                    refine rn0 ?_
                    (repeat (refine And.intro (by omega) ?_))
                    refine HO_callX ty_ok [8] kc (⟨fun y h => by injection h with h; subst h; rfl, trivial⟩) (rfl) ?_
                    rintro v r' ⟨rfl, rfl⟩ _
                    refine rn0 ?_
                    (repeat (refine And.intro (by omega) ?_))
                    refine HO_callX ty_ok [9] kd (⟨fun y h => by injection h with h; subst h; rfl, trivial⟩) (rfl) ?_
                    rintro v r' ⟨rfl, rfl⟩ _
                    refine rn0 ?_
                    (repeat (refine And.intro (by omega) ?_))
                    refine ⟨[0, 0, 0, 0, 0, 0, 0, 10], [], ?_⟩
                    exact ft1 (jn @ceFr.eq_1 (jn @ceIn.eq_1 (jn @ceJ.eq_1 (jn @ceReJ.eq_1 @litE.eq_1))))
            · simp only [addAt]
              refine HV_split 11 3 (by decide) ?_ ?_
              · simp only [addAt]
                refine HV_split 8 6 (by decide) ?_ ?_
                · simp only [addAt]
                  refine HV_order [] ty_ok [0, 1, 2, 4, 5, 7, 10, 11, 3, 8, 6, 9, 12, 13] (by kernel_rfl) rfl _ rfl ?_
                  simp only [opl_nil', opl_cons', oplC_some, List.getElem?_toArray, List.getElem?_cons_zero, List.getElem?_cons_succ]
                  refine rn0 ?_
                  (repeat (refine And.intro (by omega) ?_))
                  refine HO_callX ty_ok [5] ka (⟨fun y h => by injection h with h; subst h; rfl, trivial⟩) (rfl) ?_
                  rintro v r' ⟨rfl, rfl⟩ _
                  refine rn0 ?_
                  (repeat (refine And.intro (by omega) ?_))
                  refine HO_callX ty_ok [] kb (trivial) rfl ?_
                  rintro v r' ⟨rfl, rfl⟩ _
                  refine rn0 ?_
                  (repeat (refine And.intro (by omega) ?_))
                  refine HO_callX ty_ok [8] kc (⟨fun y h => by injection h with h; subst h; rfl, trivial⟩) (rfl) ?_
                  rintro v r' ⟨rfl, rfl⟩ _
                  refine rn0 ?_
                  (repeat (refine And.intro (by omega) ?_))
                  refine HO_callX ty_ok [9] kd (⟨fun y h => by injection h with h; subst h; rfl, trivial⟩) (rfl) ?_
                  rintro v r' ⟨rfl, rfl⟩ _
                  refine rn0 ?_
                  (repeat (refine And.intro (by omega) ?_))
                  refine ⟨[0, 0, 0, 0, 0, 0, 0, 10], [], ?_⟩
                  exact ft1 (jn @ceFr.eq_1 (jn @ceIn.eq_1 (jn @ceJ.eq_1 (jn @ceReJ.eq_1 @litE.eq_1))))
                · simp only [addAt]
                  refine HV_order [] ty_ok [0, 1, 2, 4, 5, 7, 10, 11, 3, 6, 8, 9, 12, 13] (by kernel_rfl) rfl _ rfl ?_
                  simp only [opl_nil', opl_cons', oplC_some, List.getElem?_toArray, List.getElem?_cons_zero, List.getElem?_cons_succ]
                  refine rn0 ?_
                  (repeat (refine And.intro (by omega) ?_))
                  refine HO_callX ty_ok [5] ka (⟨fun y h => by injection h with h; subst h; rfl, trivial⟩) (rfl) ?_
                  rintro v r' ⟨rfl, rfl⟩ _
                  refine rn0 ?_
                  (repeat (refine And.intro (by omega) ?_))
                  refine HO_callX ty_ok [] kb (trivial) rfl ?_
                  rintro v r' ⟨rfl, rfl⟩ _
                  refine rn0 ?_
                  (repeat (refine And.intro (by omega) ?_))
                  refine HO_callX ty_ok [8] kc (⟨fun y h => by injection h with h; subst h; rfl, trivial⟩) (rfl) ?_
                  rintro v r' ⟨rfl, rfl⟩ _
                  refine rn0 ?_
                  (repeat (refine And.intro (by omega) ?_))
                  refine HO_callX ty_ok [9] kd (⟨fun y h => by injection h with h; subst h; rfl, trivial⟩) (rfl) ?_
                  rintro v r' ⟨rfl, rfl⟩ _
                  refine rn0 ?_
                  (repeat (refine And.intro (by omega) ?_))
                  refine ⟨[0, 0, 0, 0, 0, 0, 0, 10], [], ?_⟩
                  exact ft1 (jn @ceFr.eq_1 (jn @ceIn.eq_1 (jn @ceJ.eq_1 (jn @ceReJ.eq_1 @litE.eq_1))))
              · simp only [addAt]
                refine HV_split 8 6 (by decide) ?_ ?_
                · simp only [addAt]
                  refine HV_split 11 6 (by decide) ?_ ?_
                  · simp only [addAt]
                    refine HV_order [] ty_ok [0, 1, 2, 4, 5, 7, 10, 3, 8, 11, 6, 9, 12, 13] (by kernel_rfl) rfl _ rfl ?_
                    simp only [opl_nil', opl_cons', oplC_some, List.getElem?_toArray, List.getElem?_cons_zero, List.getElem?_cons_succ]
                    refine rn0 ?_
                    (repeat (refine And.intro (by omega) ?_))
                    refine HO_callX ty_ok [5] ka (⟨fun y h => by injection h with h; subst h; rfl, trivial⟩) (rfl) ?_
                    rintro v r' ⟨rfl, rfl⟩ _
                    refine rn0 ?_
                    (repeat (refine And.intro (by omega) ?_))
                    refine HO_callX ty_ok [] kb (trivial) rfl ?_
                    rintro v r' ⟨rfl, rfl⟩ _
                    refine rn0 ?_
                    (repeat (refine And.intro (by omega) ?_))
                    refine HO_callX ty_ok [8] kc (⟨fun y h => by injection h with h; subst h; rfl, trivial⟩) (rfl) ?_
                    rintro v r' ⟨rfl, rfl⟩ _
                    refine rn0 ?_
                    (repeat (refine And.intro (by omega) ?_))
                    refine HO_callX ty_ok [9] kd (⟨fun y h => by injection h with h; subst h; rfl, trivial⟩) (rfl) ?_
                    rintro v r' ⟨rfl, rfl⟩ _
                    refine rn0 ?_
                    (repeat (refine And.intro (by omega) ?_))
                    refine ⟨[0, 0, 0, 0, 0, 0, 0, 10], [], ?_⟩
                    exact ft1 (jn @ceFr.eq_1 (jn @ceIn.eq_1 (jn @ceJ.eq_1 (jn @ceReJ.eq_1 @litE.eq_1))))
                  · simp only [addAt]
                    refine HV_split 11 9 (by decide) ?_ ?_
                    · simp only [addAt]
                      refine HV_order [] ty_ok [0, 1, 2, 4, 5, 7, 10, 3, 8, 6, 11, 9, 12, 13] (by kernel_rfl) rfl _ rfl ?_
                      simp only [opl_nil', opl_cons', oplC_some, List.getElem?_toArray, List.getElem?_cons_zero, List.getElem?_cons_succ]
                      refine rn0 ?_
                      (repeat (refine And.intro (by omega) ?_))
                      refine HO_callX ty_ok [5] ka (⟨fun y h => by injection h with h; subst h; rfl, trivial⟩) (rfl) ?_
                      rintro v r' ⟨rfl, rfl⟩ _
                      refine rn0 ?_
                      (repeat (refine And.intro (by omega) ?_))
                      refine HO_callX ty_ok [] kb (trivial) rfl ?_
                      rintro v r' ⟨rfl, rfl⟩ _
                      refine rn0 ?_
                      (repeat (refine And.intro (by omega) ?_))
                      refine HO_callX ty_ok [8] kc (⟨fun y h => by injection h with h; subst h; rfl, trivial⟩) (rfl) ?_
                      rintro v r' ⟨rfl, rfl⟩ _
                      refine rn0 ?_
                      (repeat (refine And.intro (by omega) ?_))
                      refine HO_callX ty_ok [9] kd (⟨fun y h => by injection h with h; subst h; rfl, trivial⟩) (rfl) ?_
                      rintro v r' ⟨rfl, rfl⟩ _
                      refine rn0 ?_
                      (repeat (refine And.intro (by omega) ?_))
                      refine ⟨[0, 0, 0, 0, 0, 0, 0, 10], [], ?_⟩
                      exact ft1 (jn @ceFr.eq_1 (jn @ceIn.eq_1 (jn @ceJ.eq_1 (jn @ceReJ.eq_1 @litE.eq_1))))
                    · simp only [addAt]
                      refine HV_order [] ty_ok [0, 1, 2, 4, 5, 7, 10, 3, 8, 6, 9, 11, 12, 13] (by kernel_rfl) rfl _ rfl ?_
                      simp only [opl_nil', opl_cons', oplC_some, List.getElem?_toArray, List.getElem?_cons_zero, List.getElem?_cons_succ]
                      refine rn0 ?_
                      (repeat (refine And.intro (by omega) ?_))
                      refine HO_callX ty_ok [5] ka (⟨fun y h => by injection h with h; subst h; rfl, trivial⟩) (rfl) ?_
                      rintro v r' ⟨rfl, rfl⟩ _
                      refine rn0 ?_
                      (repeat (refine And.intro (by omega) ?_))
                      refine HO_callX ty_ok [] kb (trivial) rfl ?_
                      rintro v r' ⟨rfl, rfl⟩ _
                      refine rn0 ?_
                      (repeat (refine And.intro (by omega) ?_))
                      refine HO_callX ty_ok [8] kc (⟨fun y h => by injection h with h; subst h; rfl, trivial⟩) (rfl) ?_
                      rintro v r' ⟨rfl, rfl⟩ _
                      refine rn0 ?_
                      (repeat (refine And.intro (by omega) ?_))
                      refine HO_callX ty_ok [9] kd (⟨fun y h => by injection h with h; subst h; rfl, trivial⟩) (rfl) ?_
                      rintro v r' ⟨rfl, rfl⟩ _
                      refine rn0 ?_
                      (repeat (refine And.intro (by omega) ?_))
                      refine ⟨[0, 0, 0, 0, 0, 0, 0, 10], [], ?_⟩
                      exact ft1 (jn @ceFr.eq_1 (jn @ceIn.eq_1 (jn @ceJ.eq_1 (jn @ceReJ.eq_1 @litE.eq_1))))
                · simp only [addAt]
                  refine HV_split 11 6 (by decide) ?_ ?_
                  · simp only [addAt]
                    refine HV_order [] ty_ok [0, 1, 2, 4, 5, 7, 10, 3, 11, 6, 8, 9, 12, 13] (by kernel_rfl) rfl _ rfl ?_
                    simp only [opl_nil', opl_cons', oplC_some, List.getElem?_toArray, List.getElem?_cons_zero, List.getElem?_cons_succ]
                    refine rn0 ?_
                    (repeat (refine And.intro (by omega) ?_))
                    refine HO_callX ty_ok [5] ka (⟨fun y h => by injection h with h; subst h; rfl, trivial⟩) (rfl) ?_
                    rintro v r' ⟨rfl, rfl⟩ _
                    refine rn0 ?_
                    (repeat (refine And.intro (by omega) ?_))
                    refine HO_callX ty_ok [] kb (trivial) rfl ?_
                    rintro v r' ⟨rfl, rfl⟩ _
                    refine rn0 ?_
                    (repeat (refine And.intro (by omega) ?_))
                    refine HO_callX ty_ok [8] kc (⟨fun y h => by injection h with h; subst h; rfl, trivial⟩) (rfl) ?_
                    rintro v r' ⟨rfl, rfl⟩ _
                    refine rn0 ?_
                    (repeat (refine And.intro (by omega) ?_))
                    refine HO_callX ty_ok [9] kd (⟨fun y h => by injection h with h; subst h; rfl, trivial⟩) (rfl) ?_
                    rintro v r' ⟨rfl, rfl⟩ _
                    refine rn0 ?_
                    (repeat (refine And.intro (by omega) ?_))
                    refine ⟨[0, 0, 0, 0, 0, 0, 0, 10], [], ?_⟩
                    exact ft1 (jn @ceFr.eq_1 (jn @ceIn.eq_1 (jn @ceJ.eq_1 (jn @ceReJ.eq_1 @litE.eq_1))))
                  · simp only [addAt]
                    refine HV_split 11 9 (by decide) ?_ ?_
                    · simp only [addAt]
                      refine HV_order [] ty_ok [0, 1, 2, 4, 5, 7, 10, 3, 6, 8, 11, 9, 12, 13] (by kernel_rfl) rfl _ rfl ?_
                      simp only [opl_nil', opl_cons', oplC_some, List.getElem?_toArray, List.getElem?_cons_zero, List.getElem?_cons_succ]
                      refine rn0 ?_
                      (repeat (refine And.intro (by omega) ?_))
                      refine HO_callX ty_ok [5] ka (⟨fun y h => by injection h with h; subst h; rfl, trivial⟩) (rfl) ?_
                      rintro v r' ⟨rfl, rfl⟩ _
                      refine rn0 ?_
                      (repeat (refine And.intro (by omega) ?_))
                      refine HO_callX ty_ok [] kb (trivial) rfl ?_
                      rintro v r' ⟨rfl, rfl⟩ _
                      refine rn0 ?_
                      (repeat (refine And.intro (by omega) ?_))
                      refine HO_callX ty_ok [8] kc (⟨fun y h => by injection h with h; subst h; rfl, trivial⟩) (rfl) ?_
                      rintro v r' ⟨rfl, rfl⟩ _
                      refine rn0 ?_
                      (repeat (refine And.intro (by omega) ?_))
                      refine HO_callX ty_ok [9] kd (⟨fun y h => by injection h with h; subst h; rfl, trivial⟩) (rfl) ?_
                      rintro v r' ⟨rfl, rfl⟩ _
                      refine rn0 ?_
                      (repeat (refine And.intro (by omega) ?_))
                      refine ⟨[0, 0, 0, 0, 0, 0, 0, 10], [], ?_⟩
                      exact ft1 (jn @ceFr.eq_1 (jn @ceIn.eq_1 (jn @ceJ.eq_1 (jn @ceReJ.eq_1 @litE.eq_1))))
                    · simp only [addAt]
                      refine HV_order [] ty_ok [0, 1, 2, 4, 5, 7, 10, 3, 6, 8, 9, 11, 12, 13] (by kernel_rfl) rfl _ rfl ?_
                      simp only [opl_nil', opl_cons', oplC_some, List.getElem?_toArray, List.getElem?_cons_zero, List.getElem?_cons_succ]
                      refine rn0 ?_
                      (repeat (refine And.intro (by omega) ?_))
                      refine HO_callX ty_ok [5] ka (⟨fun y h => by injection h with h; subst h; rfl, trivial⟩) (rfl) ?_
                      rintro v r' ⟨rfl, rfl⟩ _
                      refine rn0 ?_
                      (repeat (refine And.intro (by omega) ?_))
                      refine HO_callX ty_ok [] kb (trivial) rfl ?_
                      rintro v r' ⟨rfl, rfl⟩ _
                      refine rn0 ?_
                      (repeat (refine And.intro (by omega) ?_))
                      refine HO_callX ty_ok [8] kc (⟨fun y h => by injection h with h; subst h; rfl, trivial⟩) (rfl) ?_
                      rintro v r' ⟨rfl, rfl⟩ _
                      refine rn0 ?_
                      (repeat (refine And.intro (by omega) ?_))
                      refine HO_callX ty_ok [9] kd (⟨fun y h => by injection h with h; subst h; rfl, trivial⟩) (rfl) ?_
                      rintro v r' ⟨rfl, rfl⟩ _
                      refine rn0 ?_
                      (repeat (refine And.intro (by omega) ?_))
                      refine ⟨[0, 0, 0, 0, 0, 0, 0, 10], [], ?_⟩
                      exact ft1 (jn @ceFr.eq_1 (jn @ceIn.eq_1 (jn @ceJ.eq_1 (jn @ceReJ.eq_1 @litE.eq_1))))
          · simp only [addAt]
            refine HV_split 8 3 (by decide) ?_ ?_
            · simp only [addAt]
              refine HV_split 11 3 (by decide) ?_ ?_
              · simp only [addAt]
                refine HV_order [] ty_ok [0, 1, 2, 4, 7, 8, 10, 11, 3, 5, 6, 9, 12, 13] (by kernel_rfl) rfl _ rfl ?_
                simp only [opl_nil', opl_cons', oplC_some, List.getElem?_toArray, List.getElem?_cons_zero, List.getElem?_cons_succ]
                refine rn0 ?_
                (repeat (refine And.intro (by omega) ?_))
                refine HO_callX ty_ok [5] ka (⟨fun y h => by injection h with h; subst h; rfl, trivial⟩) (rfl) ?_
                rintro v r' ⟨rfl, rfl⟩ _
                refine rn0 ?_
                (repeat (refine And.intro (by omega) ?_))
                refine HO_callX ty_ok [] kb (trivial) rfl ?_
                rintro v r' ⟨rfl, rfl⟩ _
                refine rn0 ?_
                (repeat (refine And.intro (by omega) ?_))
                refine HO_callX ty_ok [8] kc (⟨fun y h => by injection h with h; subst h; rfl, trivial⟩) (rfl) ?_
                rintro v r' ⟨rfl, rfl⟩ _
                refine rn0 ?_
                (repeat (refine And.intro (by omega) ?_))
                refine HO_callX ty_ok [9] kd (⟨fun y h => by injection h with h; subst h; rfl, trivial⟩) (rfl) ?_
                rintro v r' ⟨rfl, rfl⟩ _
                refine rn0 ?_
                (repeat (refine And.intro (by omega) ?_))
                refine ⟨[0, 0, 0, 0, 0, 0, 0, 10], [], ?_⟩
                exact ft1 (jn @ceFr.eq_1 (jn @ceIn.eq_1 (jn @ceJ.eq_1 (jn @ceReJ.eq_1 @litE.eq_1))))
              · simp only [addAt]
                refine HV_split 11 6 (by decide) ?_ ?_
                · simp only [addAt]
                  refine HV_order [] ty_ok [0, 1, 2, 4, 7, 8, 10, 3, 5, 11, 6, 9, 12, 13] (by kernel_rfl) rfl _ rfl ?_
                  simp only [opl_nil', opl_cons', oplC_some, List.getElem?_toArray, List.getElem?_cons_zero, List.getElem?_cons_succ]
                  refine rn0 ?_
                  (repeat (refine And.intro (by omega) ?_))
                  refine HO_callX ty_ok [5] ka (⟨fun y h => by injection h with h; subst h; rfl, trivial⟩) (rfl) ?_
                  rintro v r' ⟨rfl, rfl⟩ _
                  refine rn0 ?_
                  (repeat (refine And.intro (by omega) ?_))
                  refine HO_callX ty_ok [] kb (trivial) rfl ?_
                  rintro v r' ⟨rfl, rfl⟩ _
                  refine rn0 ?_
                  (repeat (refine And.intro (by omega) ?_))
                  refine HO_callX ty_ok [8] kc (⟨fun y h => by injection h with h; subst h; rfl, trivial⟩) (rfl) ?_
                  rintro v r' ⟨rfl, rfl⟩ _
                  refine rn0 ?_
                  (repeat (refine And.intro (by omega) ?_))
                  refine HO_callX ty_ok [9] kd (⟨fun y h => by injection h with h; subst h; rfl, trivial⟩) (rfl) ?_
                  rintro v r' ⟨rfl, rfl⟩ _
                  refine rn0 ?_
                  (repeat (refine And.intro (by omega) ?_))
                  refine ⟨[0, 0, 0, 0, 0, 0, 0, 10], [], ?_⟩
                  exact ft1 (jn @ceFr.eq_1 (jn @ceIn.eq_1 (jn @ceJ.eq_1 (jn @ceReJ.eq_1 @litE.eq_1))))
                · simp only [addAt]
                  refine HV_split 11 9 (by decide) ?_ ?_
                  · simp only [addAt]
                    refine HV_order [] ty_ok [0, 1, 2, 4, 7, 8, 10, 3, 5, 6, 11, 9, 12, 13] (by kernel_rfl) rfl _ rfl ?_
                    simp only [opl_nil', opl_cons', oplC_some, List.getElem?_toArray, List.getElem?_cons_zero, List.getElem?_cons_succ]
                    refine rn0 ?_
                    (repeat (refine And.intro (by omega) ?_))
                    refine HO_callX ty_ok [5] ka (⟨fun y h => by injection h with h; subst h; rfl, trivial⟩) (rfl) ?_
                    rintro v r' ⟨rfl, rfl⟩ _
                    refine rn0 ?_
                    (repeat (refine And.intro (by omega) ?_))
                    refine HO_callX ty_ok [] kb (trivial) rfl ?_
                    rintro v r' ⟨rfl, rfl⟩ _
                    refine rn0 ?_
                    (repeat (refine And.intro (by omega) ?_))
                    refine HO_callX ty_ok [8] kc (⟨fun y h => by injection h with h; subst h; rfl, trivial⟩) (rfl) ?_
                    rintro v r' ⟨rfl, rfl⟩ _
                    refine rn0 ?_
                    (repeat (refine And.intro (by omega) ?_))
                    refine HO_callX ty_ok [9] kd (⟨fun y h => by injection h with h; subst h; rfl, trivial⟩) (rfl) ?_
                    rintro v r' ⟨rfl, rfl⟩ _
                    refine rn0 ?_
                    (repeat (refine And.intro (by omega) ?_))
                    refine ⟨[0, 0, 0, 0, 0, 0, 0, 10], [], ?_⟩
                    exact ft1 (jn @ceFr.eq_1 (jn @ceIn.eq_1 (jn @ceJ.eq_1 (jn @ceReJ.eq_1 @litE.eq_1))))
                  · simp only [addAt]
                    refine HV_order [] ty_ok [0, 1, 2, 4, 7, 8, 10, 3, 5, 6, 9, 11, 12, 13] (by kernel_rfl) rfl _ rfl ?_
                    simp only [opl_nil', opl_cons', oplC_some, List.getElem?_toArray, List.getElem?_cons_zero, List.getElem?_cons_succ]
                    refine rn0 ?_
                    (repeat (refine And.intro (by omega) ?_))
                    refine HO_callX ty_ok [5] ka (⟨fun y h => by injection h with h; subst h; rfl, trivial⟩) (rfl) ?_
                    rintro v r' ⟨rfl, rfl⟩ _
                    refine rn0 ?_
                    (repeat (refine And.intro (by omega) ?_))
                    refine HO_callX ty_ok [] kb (trivial) rfl ?_
                    rintro v r' ⟨rfl, rfl⟩ _
                    refine rn0 ?_
                    (repeat (refine And.intro (by omega) ?_))
                    refine HO_callX ty_ok [8] kc (⟨fun y h => by injection h with h; subst h; rfl, trivial⟩) (rfl) ?_
                    rintro v r' ⟨rfl, rfl⟩ _
                    refine rn0 ?_
                    (repeat (refine And.intro (by omega) ?_))
                    refine HO_callX ty_ok [9] kd (⟨fun y h => by injection h with h; subst h; rfl, trivial⟩) (rfl) ?_
                    rintro v r' ⟨rfl, rfl⟩ _
                    refine rn0 ?_
                    (repeat (refine And.intro (by omega) ?_))
                    refine ⟨[0, 0, 0, 0, 0, 0, 0, 10], [], ?_⟩
                    exact ft1 (jn @ceFr.eq_1 (jn @ceIn.eq_1 (jn @ceJ.eq_1 (jn @ceReJ.eq_1 @litE.eq_1))))
            · simp only [addAt]
              refine HV_split 11 3 (by decide) ?_ ?_
              · simp only [addAt]
                refine HV_split 8 6 (by decide) ?_ ?_
                · simp only [addAt]
                  refine HV_order [] ty_ok [0, 1, 2, 4, 7, 10, 11, 3, 5, 8, 6, 9, 12, 13] (by kernel_rfl) rfl _ rfl ?_
                  simp only [opl_nil', opl_cons', oplC_some, List.getElem?_toArray, List.getElem?_cons_zero, List.getElem?_cons_succ]
                  refine rn0 ?_
                  (repeat (refine And.intro (by omega) ?_))
                  refine HO_callX ty_ok [5] ka (⟨fun y h => by injection h with h; subst h; rfl, trivial⟩) (rfl) ?_
                  rintro v r' ⟨rfl, rfl⟩ _
                  refine rn0 ?_
                  (repeat (refine And.intro (by omega) ?_))
                  refine HO_callX ty_ok [] kb (trivial) rfl ?_
                  rintro v r' ⟨rfl, rfl⟩ _
                  refine rn0 ?_
                  (repeat (refine And.intro (by omega) ?_))
                  refine HO_callX ty_ok [8] kc (⟨fun y h => by injection h with h; subst h; rfl, trivial⟩) (rfl) ?_
                  rintro v r' ⟨rfl, rfl⟩ _
                  refine rn0 ?_
                  (repeat (refine And.intro (by omega) ?_))
                  refine HO_callX ty_ok [9] kd (⟨fun y h => by injection h with h; subst h; rfl, trivial⟩) (rfl) ?_
                  rintro v r' ⟨rfl, rfl⟩ _
                  refine rn0 ?_
                  (repeat (refine And.intro (by omega) ?_))
                  refine ⟨[0, 0, 0, 0, 0, 0, 0, 10], [], ?_⟩
                  exact ft1 (jn @ceFr.eq_1 (jn @ceIn.eq_1 (jn @ceJ.eq_1 (jn @ceReJ.eq_1 @litE.eq_1))))
                · simp only [addAt]
                  refine HV_order [] ty_ok [0, 1, 2, 4, 7, 10, 11, 3, 5, 6, 8, 9, 12, 13] (by kernel_rfl) rfl _ rfl ?_
                  simp only [opl_nil', opl_cons', oplC_some, List.getElem?_toArray, List.getElem?_cons_zero, List.getElem?_cons_succ]
                  refine rn0 ?_
                  (repeat (refine And.intro (by omega) ?_))
                  refine HO_callX ty_ok [5] ka (⟨fun y h => by injection h with h; subst h; rfl, trivial⟩) (rfl) ?_
                  rintro v r' ⟨rfl, rfl⟩ _
                  refine rn0 ?_
                  (repeat (refine And.intro (by omega) ?_))
                  refine HO_callX ty_ok [] kb (trivial) rfl ?_
                  rintro v r' ⟨rfl, rfl⟩ _
                  refine rn0 ?_
                  (repeat (refine And.intro (by omega) ?_))
                  refine HO_callX ty_ok [8] kc (⟨fun y h => by injection h with h; subst h; rfl, trivial⟩) (rfl) ?_
                  rintro v r' ⟨rfl, rfl⟩ _
                  refine rn0 ?_
                  (repeat (refine And.intro (by omega) ?_))
                  refine HO_callX ty_ok [9] kd (⟨fun y h => by injection h with h; subst h; rfl, trivial⟩) (rfl) ?_
                  rintro v r' ⟨rfl, rfl⟩ _
                  refine rn0 ?_
                  (repeat (refine And.intro (by omega) ?_))
                  refine ⟨[0, 0, 0, 0, 0, 0, 0, 10], [], ?_⟩
                  exact ft1 (jn @ceFr.eq_1 (jn @ceIn.eq_1 (jn @ceJ.eq_1 (jn @ceReJ.eq_1 @litE.eq_1))))
              · simp only [addAt]
                refine HV_split 8 6 (by decide) ?_ ?_
                · simp only [addAt]
                  refine HV_split 11 6 (by decide) ?_ ?_
                  · simp only [addAt]
                    refine HV_order [] ty_ok [0, 1, 2, 4, 7, 10, 3, 5, 8, 11, 6, 9, 12, 13] (by kernel_rfl) rfl _ rfl ?_
                    simp only [opl_nil', opl_cons', oplC_some, List.getElem?_toArray, List.getElem?_cons_zero, List.getElem?_cons_succ]
                    refine rn0 ?_
                    (repeat (refine And.intro (by omega) ?_))
                    refine HO_callX ty_ok [5] ka (⟨fun y h => by injection h with h; subst h; rfl, trivial⟩) (rfl) ?_
                    rintro v r' ⟨rfl, rfl⟩ _
                    refine rn0 ?_
                    (repeat (refine And.intro (by omega) ?_))
                    refine HO_callX ty_ok [] kb (trivial) rfl ?_
                    rintro v r' ⟨rfl, rfl⟩ _
                    refine rn0 ?_
                    (repeat (refine And.intro (by omega) ?_))
                    refine HO_callX ty_ok [8] kc (⟨fun y h => by injection h with h; subst h; rfl, trivial⟩) (rfl) ?_
                    rintro v r' ⟨rfl, rfl⟩ _
                    refine rn0 ?_
                    (repeat (refine And.intro (by omega) ?_))
                    refine HO_callX ty_ok [9] kd (⟨fun y h => by injection h with h; subst h; rfl, trivial⟩) (rfl) ?_
                    rintro v r' ⟨rfl, rfl⟩ _
                    refine rn0 ?_
                    (repeat (refine And.intro (by omega) ?_))
                    refine ⟨[0, 0, 0, 0, 0, 0, 0, 10], [], ?_⟩
                    exact ft1 (jn @ceFr.eq_1 (jn @ceIn.eq_1 (jn @ceJ.eq_1 (jn @ceReJ.eq_1 @litE.eq_1))))
                  · simp only [addAt]
                    refine HV_split 11 9 (by decide) ?_ ?_
                    · simp only [addAt]
                      refine HV_order [] ty_ok [0, 1, 2, 4, 7, 10, 3, 5, 8, 6, 11, 9, 12, 13] (by kernel_rfl) rfl _ rfl ?_
                      simp only [opl_nil', opl_cons', oplC_some, List.getElem?_toArray, List.getElem?_cons_zero, List.getElem?_cons_succ]
                      refine rn0 ?_
                      (repeat (refine And.intro (by omega) ?_))
                      refine HO_callX ty_ok [5] ka (⟨fun y h => by injection h with h; subst h; rfl, trivial⟩) (rfl) ?_
                      rintro v r' ⟨rfl, rfl⟩ _
                      refine rn0 ?_
                      (repeat (refine And.intro (by omega) ?_))
                      refine HO_callX ty_ok [] kb (trivial) rfl ?_
                      rintro v r' ⟨rfl, rfl⟩ _
                      refine rn0 ?_
                      (repeat (refine And.intro (by omega) ?_))
                      refine HO_callX ty_ok [8] kc (⟨fun y h => by injection h with h; subst h; rfl, trivial⟩) (rfl) ?_
                      rintro v r' ⟨rfl, rfl⟩ _
                      refine rn0 ?_
                      (repeat (refine And.intro (by omega) ?_))
                      refine HO_callX ty_ok [9] kd (⟨fun y h => by injection h with h; subst h; rfl, trivial⟩) (rfl) ?_
                      rintro v r' ⟨rfl, rfl⟩ _
                      refine rn0 ?_
                      (repeat (refine And.intro (by omega) ?_))
                      refine ⟨[0, 0, 0, 0, 0, 0, 0, 10], [], ?_⟩
                      exact ft1 (jn @ceFr.eq_1 (jn @ceIn.eq_1 (jn @ceJ.eq_1 (jn @ceReJ.eq_1 @litE.eq_1))))
                    · simp only [addAt]
                      refine HV_order [] ty_ok [0, 1, 2, 4, 7, 10, 3, 5, 8, 6, 9, 11, 12, 13] (by kernel_rfl) rfl _ rfl ?_
                      simp only [opl_nil', opl_cons', oplC_some, List.getElem?_toArray, List.getElem?_cons_zero, List.getElem?_cons_succ]
                      refine rn0 ?_
                      (repeat (refine And.intro (by omega) ?_))
                      refine HO_callX ty_ok [5] ka (⟨fun y h => by injection h with h; subst h; rfl, trivial⟩) (rfl) ?_
                      rintro v r' ⟨rfl, rfl⟩ _
                      refine rn0 ?_
                      (repeat (refine And.intro (by omega) ?_))
                      refine HO_callX ty_ok [] kb (trivial) rfl ?_
                      rintro v r' ⟨rfl, rfl⟩ _
                      refine rn0 ?_
                      (repeat (refine And.intro (by omega) ?_))
                      refine HO_callX ty_ok [8] kc (⟨fun y h => by injection h with h; subst h; rfl, trivial⟩) (rfl) ?_
                      rintro v r' ⟨rfl, rfl⟩ _
                      refine rn0 ?_
                      (repeat (refine And.intro (by omega) ?_))
                      refine HO_callX ty_ok [9] kd (⟨fun y h => by injection h with h; subst h; rfl, trivial⟩) (rfl) ?_
                      rintro v r' ⟨rfl, rfl⟩ _
                      refine rn0 ?_
                      (repeat (refine And.intro (by omega) ?_))
                      refine ⟨[0, 0, 0, 0, 0, 0, 0, 10], [], ?_⟩
                      exact ft1 (jn @ceFr.eq_1 (jn @ceIn.eq_1 (jn @ceJ.eq_1 (jn @ceReJ.eq_1 @litE.eq_1))))
                · simp only [addAt]
                  refine HV_split 11 6 (by decide) ?_ ?_
                  · simp only [addAt]
                    refine HV_order [] ty_ok [0, 1, 2, 4, 7, 10, 3, 5, 11, 6, 8, 9, 12, 13] (by kernel_rfl) rfl _ rfl ?_
                    simp only [opl_nil', opl_cons', oplC_some, List.getElem?_toArray, List.getElem?_cons_zero, List.getElem?_cons_succ]
                    refine rn0 ?_
                    (repeat (refine And.intro (by omega) ?_))
                    refine HO_callX ty_ok [5] ka (⟨fun y h => by injection h with h; subst h; rfl, trivial⟩) (rfl) ?_
                    rintro v r' ⟨rfl, rfl⟩ _
                    refine rn0 ?_
                    (repeat (refine And.intro (by omega) ?_))
                    refine HO_callX ty_ok [] kb (trivial) rfl ?_
                    rintro v r' ⟨rfl, rfl⟩ _
                    refine rn0 ?_
                    (repeat (refine And.intro (by omega) ?_))
                    refine HO_callX ty_ok [8] kc (⟨fun y h => by injection h with h; subst h; rfl, trivial⟩) (rfl) ?_
                    rintro v r' ⟨rfl, rfl⟩ _
                    refine rn0 ?_
                    (repeat (refine And.intro (by omega) ?_))
                    refine HO_callX ty_ok [9] kd (⟨fun y h => by injection h with h; subst h; rfl, trivial⟩) (rfl) ?_
                    rintro v r' ⟨rfl, rfl⟩ _
                    refine rn0 ?_
                    (repeat (refine And.intro (by omega) ?_))
                    refine ⟨[0, 0, 0, 0, 0, 0, 0, 10], [], ?_⟩
                    exact ft1 (jn @ceFr.eq_1 (jn @ceIn.eq_1 (jn @ceJ.eq_1 (jn @ceReJ.eq_1 @litE.eq_1))))
                  · simp only [addAt]
                    refine HV_split 11 9 (by decide) ?_ ?_
                    · simp only [addAt]
                      refine HV_order [] ty_ok [0, 1, 2, 4, 7, 10, 3, 5, 6, 8, 11, 9, 12, 13] (by kernel_rfl) rfl _ rfl ?_
                      simp only [opl_nil', opl_cons', oplC_some, List.getElem?_toArray, List.getElem?_cons_zero, List.getElem?_cons_succ]
                      refine rn0 ?_
                      (repeat (refine And.intro (by omega) ?_))
                      refine HO_callX ty_ok [5] ka (⟨fun y h => by injection h with h; subst h; rfl, trivial⟩) (rfl) ?_
                      rintro v r' ⟨rfl, rfl⟩ _
                      refine rn0 ?_
                      (repeat (refine And.intro (by omega) ?_))
                      refine HO_callX ty_ok [] kb (trivial) rfl ?_
                      rintro v r' ⟨rfl, rfl⟩ _
                      refine rn0 ?_
                      (repeat (refine And.intro (by omega) ?_))
                      refine HO_callX ty_ok [8] kc (⟨fun y h => by injection h with h; subst h; rfl, trivial⟩) (rfl) ?_
                      rintro v r' ⟨rfl, rfl⟩ _
                      refine rn0 ?_
                      (repeat (refine And.intro (by omega) ?_))
                      refine HO_callX ty_ok [9] kd (⟨fun y h => by injection h with h; subst h; rfl, trivial⟩) (rfl) ?_
                      rintro v r' ⟨rfl, rfl⟩ _
                      refine rn0 ?_
                      (repeat (refine And.intro (by omega) ?_))
                      refine ⟨[0, 0, 0, 0, 0, 0, 0, 10], [], ?_⟩
                      exact ft1 (jn @ceFr.eq_1 (jn @ceIn.eq_1 (jn @ceJ.eq_1 (jn @ceReJ.eq_1 @litE.eq_1))))
                    · simp only [addAt]
                      refine HV_order [] ty_ok [0, 1, 2, 4, 7, 10, 3, 5, 6, 8, 9, 11, 12, 13] (by kernel_rfl) rfl _ rfl ?_
                      simp only [opl_nil', opl_cons', oplC_some, List.getElem?_toArray, List.getElem?_cons_zero, List.getElem?_cons_succ]
                      refine rn0 ?_
                      (repeat (refine And.intro (by omega) ?_))
                      refine HO_callX ty_ok [5] ka (⟨fun y h => by injection h with h; subst h; rfl, trivial⟩) (rfl) ?_
                      rintro v r' ⟨rfl, rfl⟩ _
                      refine rn0 ?_
                      (repeat (refine And.intro (by omega) ?_))
                      refine HO_callX ty_ok [] kb (trivial) rfl ?_
                      rintro v r' ⟨rfl, rfl⟩ _
                      refine rn0 ?_
                      (repeat (refine And.intro (by omega) ?_))
                      refine HO_callX ty_ok [8] kc (⟨fun y h => by injection h with h; subst h; rfl, trivial⟩) (rfl) ?_
                      rintro v r' ⟨rfl, rfl⟩ _
                      refine rn0 ?_
                      (repeat (refine And.intro (by omega) ?_))
                      refine HO_callX ty_ok [9] kd (⟨fun y h => by injection h with h; subst h; rfl, trivial⟩) (rfl) ?_
                      rintro v r' ⟨rfl, rfl⟩ _
                      refine rn0 ?_
                      (repeat (refine And.intro (by omega) ?_))
                      refine ⟨[0, 0, 0, 0, 0, 0, 0, 10], [], ?_⟩
                      exact ft1 (jn @ceFr.eq_1 (jn @ceIn.eq_1 (jn @ceJ.eq_1 (jn @ceReJ.eq_1 @litE.eq_1))))
        refine rn1 (jn @ceFr.eq_1 (jn @ceIn.eq_1 (jn @ceJ.eq_1 @ceReJ.eq_1))) ?_
        (repeat (refine And.intro (by omega) ?_))
        refine ⟨(k + 1, c4), ⟨by simp only; omega, hst2.symm⟩, by simp only; omega, [0, 0, 0, 0, 0, 7], [], ?_⟩
        exact ft1 (jn @ceFr.eq_1 (jn @ceIn.eq_1 (jn @ceI.eq_1 @ceReI.eq_1)))
      · have hk : ¬ (k : Int) < r.b.length := by omega
        rw [List.take_of_length_le (by omega)] at hk2
        rw [← hk2] at hstep
        refine rn1 (jn @ceFr.eq_1 (jn @ceIn.eq_1 (jn @ceI.eq_1 (jn @ceReI.eq_1 @hk)))) ?_
        (repeat (refine And.intro (by omega) ?_))
        refine ⟨(i + 1, ac2), ⟨by simp only; omega, hstep.symm, hall⟩, by simp only; omega, [0, 5], [], ?_⟩
        exact ft1 (jn @ceSt.eq_1 @reRe.eq_1)
  · have hi : ¬ (i : Int) < l.length := by omega
    rw [List.take_of_length_le (by omega)] at hi2 hi3
    rw [enc_ok h7 (List.all_eq_true.2 hi3), ← hb0', ← hi2]
    refine rn1 (jn @ceSt.eq_1 (jn @reRe.eq_1 @hi)) ?_
    exact fv1 [] [] @enV.eq_1
end Go.Proofs.Ytfeoafddagdbfaa
