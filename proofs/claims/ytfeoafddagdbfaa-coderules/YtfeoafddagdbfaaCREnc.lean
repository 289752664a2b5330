import Derived.Test.YtfeoafddagdbfaaCEncM
set_option linter.unusedVariables false
set_option linter.unusedSimpArgs false
set_option maxRecDepth 100000
namespace Go.Proofs.Ytfeoafddagdbfaa
open Go Go.ChangeShapes Go.WideShapes
def prA (r : Rul) (acc : List UInt8) : List (Nat × AV) := [(3, .ptr 1 0), (0, .sl (.own 2) 1 acc.length (bD acc))]
def prB (r : Rul) (acc : List UInt8) : List (Nat × AV) := [(3, .ptr 1 0), (0, .sl (.own 3) 1 acc.length (bD acc))]
def reA (r : Rul) (acc : List UInt8) : Rs := [none, some (.obj ((rulE r).map .d)), some (.tok acc.length)]
def reB (r : Rul) (acc : List UInt8) : Rs := [none, some (.obj ((rulE r).map .d)), none, some (.tok acc.length)]
def prSt (r : Rul) (x : Nat × List UInt8) : List (Nat × AV) := [(3, .ptr 1 0), (0, .sl (.own 5) 1 x.2.length (bD x.2)), (5, .d (.c (.int .i64 x.1)))]
def prRe (r : Rul) (x : Nat × List UInt8) : Rs := [none, some (.obj ((rulE r).map .d)), none, none, none, some (.tok x.2.length)]
def prC (i : Nat) (acc : List UInt8) : List (Nat × AV) := [(3, .ptr 1 0), (0, .sl (.own 7) 1 acc.length (bD acc)), (5, .d (.c (.int .i64 i))), (6, .ptr 6 0)]
def reC (r : Rul) (x : Lit) (acc : List UInt8) : Rs := [none, some (.obj ((rulE r).map .d)), none, none, none, none, some (.obj ((litE x).map .d)), some (.tok acc.length)]
set_option maxHeartbeats 1000000 in
theorem rputR_ac (b : List UInt8) (r : Rul) (hr : rightR r = true) (ho : okRl r) (hb : b.length ≤ 140737488200000) : AC Try.prog noG 38 [.sl (.own 0) 1 b.length (bD b), .d (.agg (rulE r))] [some (.tok b.length)]
    (fun v r' => v = .sl (.own 1) 1 (putR b r).length (bD (putR b r)) ∧ r' = [none, some (.tok (putR b r).length)]) := by
  refine AC.fit ?_
  refine AC_of_R (N := 53) (res := [.tmp 4]) ty_ok Try.call38 Try.func38 rfl rfl rfl (Nat.le_of_ble_eq_true rfl) ?_
  obtain ⟨h1, h2, h3, ⟨h4, h4'⟩, h5, h6⟩ := rightR_iff hr ho
  obtain ⟨g1, g2, g3, g4⟩ := put4_le (b := b) h1 h2 h3.2 h4 h4'
  have hB := g4
  have ka := rputT_ac b r.h h1.1 (by have := h1.2; omega)
  have kb := rputText_ac (putT b r.h) r.p (by omega) (by omega)
  have kc := rputTs_ac (putTx (putT b r.h) r.p) r.l h4' h4 (by omega)
  have kd := rputT_ac (putTs (putTx (putT b r.h) r.p) r.l) r.t h2.1 (by have := h2.2; omega)
  have hR : putR b r = r.b.foldl putLt (putT (putTs (putTx (putT b r.h) r.p) r.l) r.t ++ leb (zig (r.b.length : Int))) := rfl
  rw [hR]
  generalize putT b r.h = b1 at *
  generalize putTx b1 r.p = b2 at *
  generalize putTs b2 r.l = b3 at *
  generalize putT b3 r.t = b4 at *
  have ke := rputInt_ac b4 (r.b.length : Int) (by omega) (by omega) (by omega)
  have hle := leb_nat (n := r.b.length) (by omega)
  obtain ⟨b5, hb5⟩ : ∃ b5, b5 = b4 ++ leb (zig (r.b.length : Int)) := ⟨_, rfl⟩
  have hb5l : b5.length = b4.length + (leb (zig (r.b.length : Int))).length := by rw [hb5, List.length_append]
  rw [← hb5] at ke ⊢
  simp only [trmE] at ka kd
  refine rn1 @rulE.eq_1 ?_
  refine HC_cutR (prA r b2) (reA r b2) ?_ ?_
  · skip
    refine HC_of_HV mix ?_
    refine HV_split 5 3 (by decide) ?_ ?_
    · simp only [addAt]
      refine HV_order [] ty_ok [0, 1, 2, 4, 5, 3, 6, 7] (by kernel_rfl) rfl _ rfl ?_
      simp only [opl_nil', opl_cons', oplC_some, List.getElem?_toArray, List.getElem?_cons_zero, List.getElem?_cons_succ]
      refine rn0 ?_
      (repeat (refine And.intro (by omega) ?_))
      refine HO_callX ty_ok [0] ka (⟨fun y h => by injection h with h; subst h; rfl, trivial⟩) (rfl) ?_
      rintro v r' ⟨rfl, rfl⟩ _
      refine rn0 ?_
      (repeat (refine And.intro (by omega) ?_))
      refine HO_callX ty_ok [] kb (trivial) rfl ?_
      rintro v r' ⟨rfl, rfl⟩ _
      refine rn0 ?_
      (repeat (refine And.intro (by omega) ?_))
      refine ⟨[0, 1, 3], [], ?_⟩
      exact ft1 (jn @prA.eq_1 (jn @reA.eq_1 @rulE.eq_1))
    · simp only [addAt]
      refine HV_order [] ty_ok [0, 1, 2, 4, 3, 5, 6, 7] (by kernel_rfl) rfl _ rfl ?_
      simp only [opl_nil', opl_cons', oplC_some, List.getElem?_toArray, List.getElem?_cons_zero, List.getElem?_cons_succ]
      refine rn0 ?_
      (repeat (refine And.intro (by omega) ?_))
      refine HO_callX ty_ok [0] ka (⟨fun y h => by injection h with h; subst h; rfl, trivial⟩) (rfl) ?_
      rintro v r' ⟨rfl, rfl⟩ _
      refine rn0 ?_
      (repeat (refine And.intro (by omega) ?_))
      refine HO_callX ty_ok [] kb (trivial) rfl ?_
      rintro v r' ⟨rfl, rfl⟩ _
      refine rn0 ?_
      (repeat (refine And.intro (by omega) ?_))
      refine ⟨[0, 1, 3], [], ?_⟩
      exact ft1 (jn @prA.eq_1 (jn @reA.eq_1 @rulE.eq_1))
  refine rn1 (jn @prA.eq_1 (jn @reA.eq_1 @rulE.eq_1)) ?_
  refine HC_cutR (prB r b4) (reB r b4) ?_ ?_
  · skip
    refine HC_of_HV mix ?_
    refine HV_split 5 3 (by decide) ?_ ?_
    · simp only [addAt]
      refine HV_order [] ty_ok [0, 1, 2, 4, 5, 3, 6, 7] (by kernel_rfl) rfl _ rfl ?_
      simp only [opl_nil', opl_cons', oplC_some, List.getElem?_toArray, List.getElem?_cons_zero, List.getElem?_cons_succ]
      refine rn0 ?_
      (repeat (refine And.intro (by omega) ?_))
      refine HO_callX ty_ok [2] kc (⟨fun y h => by injection h with h; subst h; rfl, trivial⟩) (rfl) ?_
      rintro v r' ⟨rfl, rfl⟩ _
      refine rn0 ?_
      (repeat (refine And.intro (by omega) ?_))
      refine HO_callX ty_ok [3] kd (⟨fun y h => by injection h with h; subst h; rfl, trivial⟩) (rfl) ?_
      rintro v r' ⟨rfl, rfl⟩ _
      refine rn0 ?_
      (repeat (refine And.intro (by omega) ?_))
      refine ⟨[0, 1, 2, 4], [], ?_⟩
      exact ft1 (jn @prB.eq_1 (jn @reB.eq_1 @rulE.eq_1))
    · simp only [addAt]
      refine HV_order [] ty_ok [0, 1, 2, 4, 3, 5, 6, 7] (by kernel_rfl) rfl _ rfl ?_
      simp only [opl_nil', opl_cons', oplC_some, List.getElem?_toArray, List.getElem?_cons_zero, List.getElem?_cons_succ]
      refine rn0 ?_
      (repeat (refine And.intro (by omega) ?_))
      refine HO_callX ty_ok [2] kc (⟨fun y h => by injection h with h; subst h; rfl, trivial⟩) (rfl) ?_
      rintro v r' ⟨rfl, rfl⟩ _
      refine rn0 ?_
      (repeat (refine And.intro (by omega) ?_))
      refine HO_callX ty_ok [3] kd (⟨fun y h => by injection h with h; subst h; rfl, trivial⟩) (rfl) ?_
      rintro v r' ⟨rfl, rfl⟩ _
      refine rn0 ?_
      (repeat (refine And.intro (by omega) ?_))
      refine ⟨[0, 1, 2, 4], [], ?_⟩
      exact ft1 (jn @prB.eq_1 (jn @reB.eq_1 @rulE.eq_1))
  refine rn1 (jn @prB.eq_1 (jn @reB.eq_1 @rulE.eq_1)) ?_
  refine HO_callX ty_ok [] ke (trivial) rfl ?_
  rintro v r' ⟨rfl, rfl⟩ _
  refine rn0 ?_
  refine HC_loopR (prSt r) (prRe r) (fun x => x.1 ≤ r.b.length ∧ x.2 = (r.b.take x.1).foldl putLt b5) (fun x => r.b.length - x.1) (0, b5) [0, 1, 2, 3, 4, 4] [] ⟨by simp only; omega, rfl⟩ ?_ ?_
  · exact ft1 (jn @prSt.eq_1 (jn @prRe.eq_1 @rulE.eq_1))
  intro ⟨i, acc⟩ ⟨hi1, hi2⟩
  simp only at hi1 hi2
  refine HC_of_R ty_ok ?_
  by_cases hlt : i < r.b.length
  · have hi : (i : Int) < r.b.length := by omega
    have hd := flatE_drop litE_len r.b i hlt
    have hle2 := flatE_len litE_len r.b
    have hstep := fold_take putLt r.b i hlt b5
    have hrx := h6 r.b[i] (List.getElem_mem hlt)
    have hacc := foldI_le (r.b.take i) b5 (fun t h => h6 t (List.mem_of_mem_take h))
    rw [List.length_take] at hacc
    generalize r.b[i] = x at *
    rw [← hi2] at hstep hacc
    simp only [litE, List.cons_append, List.nil_append] at hd
    clear ka kb kc kd ke g1 g2 g3 g4
    obtain ⟨h1, h2, h3, h4, h5'⟩ := rightI_iff hrx.1 hrx.2
    obtain ⟨g1, g2, g3, g4⟩ := put4_le (b := acc) h1 h2 h3.2 h4 h5'
    have ka := rputT_ac acc x.b h1.1 (by have := h1.2; omega)
    have kb := rputText_ac (putT acc x.b) x.p (by omega) (by omega)
    have kc := rputTs_ac (putTx (putT acc x.b) x.p) x.l h5' h4 (by omega)
    have kd := rputT_ac (putTs (putTx (putT acc x.b) x.p) x.l) x.a h2.1 (by have := h2.2; omega)
    unfold putLt at hstep
    generalize putT acc x.b = c1 at *
    generalize putTx c1 x.p = c2 at *
    generalize putTs c2 x.l = c3 at *
    generalize putT c3 x.a = c4 at *
    simp only [trmE] at ka kd
    refine rn1 (jn @prSt.eq_1 (jn @prRe.eq_1 (jn @rulE.eq_1 (jn @hi (jn @hd @hle2))))) ?_
    (repeat (refine And.intro (by omega) ?_))
    refine HC_cutR (prC i c2) (reC r x c2) ?_ ?_
    · skip
      refine HC_of_HV mix ?_
      refine HV_split 5 3 (by decide) ?_ ?_
      · simp only [addAt]
        refine HV_order [] ty_ok [0, 1, 2, 4, 5, 3, 6, 7] (by kernel_rfl) rfl _ rfl ?_
        simp only [opl_nil', opl_cons', oplC_some, List.getElem?_toArray, List.getElem?_cons_zero, List.getElem?_cons_succ]
        refine rn0 ?_
        (repeat (refine And.intro (by omega) ?_))
        refine HO_callX ty_ok [5] ka (⟨fun y h => by injection h with h; subst h; rfl, trivial⟩) (rfl) ?_
        rintro v r' ⟨rfl, rfl⟩ _
        refine rn0 ?_
        (repeat (refine And.intro (by omega) ?_))
        refine HO_callX ty_ok [] kb (trivial) rfl ?_
        rintro v r' ⟨rfl, rfl⟩ _
        refine rn0 ?_
        (repeat (refine And.intro (by omega) ?_))
        refine ⟨[0, 1, 2, 3, 4, 5, 6, 8], [], ?_⟩
        exact ft1 (jn @prC.eq_1 (jn @reC.eq_1 (jn @rulE.eq_1 @litE.eq_1)))
      · simp only [addAt]
        refine HV_order [] ty_ok [0, 1, 2, 4, 3, 5, 6, 7] (by kernel_rfl) rfl _ rfl ?_
        simp only [opl_nil', opl_cons', oplC_some, List.getElem?_toArray, List.getElem?_cons_zero, List.getElem?_cons_succ]
        refine rn0 ?_
        (repeat (refine And.intro (by omega) ?_))
        refine HO_callX ty_ok [5] ka (⟨fun y h => by injection h with h; subst h; rfl, trivial⟩) (rfl) ?_
        rintro v r' ⟨rfl, rfl⟩ _
        refine rn0 ?_
        (repeat (refine And.intro (by omega) ?_))
        refine HO_callX ty_ok [] kb (trivial) rfl ?_
        rintro v r' ⟨rfl, rfl⟩ _
        refine rn0 ?_
        (repeat (refine And.intro (by omega) ?_))
        refine ⟨[0, 1, 2, 3, 4, 5, 6, 8], [], ?_⟩
        exact ft1 (jn @prC.eq_1 (jn @reC.eq_1 (jn @rulE.eq_1 @litE.eq_1)))
    refine rn1 (jn @prC.eq_1 (jn @reC.eq_1 (jn @rulE.eq_1 @litE.eq_1))) ?_
    refine HC_of_HV mix ?_
    refine HV_split 5 3 (by decide) ?_ ?_
    · simp only [addAt]
      refine HV_order [] ty_ok [0, 1, 2, 4, 5, 3, 6, 7] (by kernel_rfl) rfl _ rfl ?_
      simp only [opl_nil', opl_cons', oplC_some, List.getElem?_toArray, List.getElem?_cons_zero, List.getElem?_cons_succ]
      refine rn0 ?_
      (repeat (refine And.intro (by omega) ?_))
      refine HO_callX ty_ok [7] kc (⟨fun y h => by injection h with h; subst h; rfl, trivial⟩) (rfl) ?_
      rintro v r' ⟨rfl, rfl⟩ _
      refine rn0 ?_
      (repeat (refine And.intro (by omega) ?_))
      refine HO_callX ty_ok [8] kd (⟨fun y h => by injection h with h; subst h; rfl, trivial⟩) (rfl) ?_
      rintro v r' ⟨rfl, rfl⟩ _
      refine rn0 ?_
      (repeat (refine And.intro (by omega) ?_))
      refine ⟨(i + 1, c4), ⟨by simp only; omega, hstep.symm⟩, by simp only; omega, [0, 1, 2, 3, 4, 9], [], ?_⟩
      exact ft1 (jn @prSt.eq_1 (jn @prRe.eq_1 @rulE.eq_1))
    · simp only [addAt]
      refine HV_order [] ty_ok [0, 1, 2, 4, 3, 5, 6, 7] (by kernel_rfl) rfl _ rfl ?_
      simp only [opl_nil', opl_cons', oplC_some, List.getElem?_toArray, List.getElem?_cons_zero, List.getElem?_cons_succ]
      refine rn0 ?_
      (repeat (refine And.intro (by omega) ?_))
      refine HO_callX ty_ok [7] kc (⟨fun y h => by injection h with h; subst h; rfl, trivial⟩) (rfl) ?_
      rintro v r' ⟨rfl, rfl⟩ _
      refine rn0 ?_
      (repeat (refine And.intro (by omega) ?_))
      refine HO_callX ty_ok [8] kd (⟨fun y h => by injection h with h; subst h; rfl, trivial⟩) (rfl) ?_
      rintro v r' ⟨rfl, rfl⟩ _
      refine rn0 ?_
      (repeat (refine And.intro (by omega) ?_))
      refine ⟨(i + 1, c4), ⟨by simp only; omega, hstep.symm⟩, by simp only; omega, [0, 1, 2, 3, 4, 9], [], ?_⟩
      exact ft1 (jn @prSt.eq_1 (jn @prRe.eq_1 @rulE.eq_1))
  · have hi : ¬ (i : Int) < r.b.length := by omega
    rw [List.take_of_length_le (by omega)] at hi2
    rw [← hi2]
    refine rn1 (jn @prSt.eq_1 (jn @prRe.eq_1 (jn @rulE.eq_1 @hi))) ?_
    exact fv0 [0,5] []
end Go.Proofs.Ytfeoafddagdbfaa
