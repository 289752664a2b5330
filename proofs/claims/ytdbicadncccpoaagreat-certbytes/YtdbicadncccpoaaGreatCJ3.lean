/- Parts of the proof: InsertI, Ins0, FOrd, OrdT, TrailD. -/
import Derived.Test.YtdbicadncccpoaaGreatCJ2
import Derived.Test.YtdbicadncccpoaaGreatCJ0
set_option linter.unusedVariables false
set_option linter.unusedSimpArgs false
set_option maxRecDepth 100000
namespace Go.Proofs.YtdbicadncccpoaaGreat
open Go Go.ChangeShapes Go.WideShapes
set_option maxHeartbeats 400000 in
theorem insI_ac (n i k : Nat) (A B zs x : List D) (hA : A.length = i) (hB : B.length = (n - i)) (hz : zs.length = k) (hx : x.length = 1) (h0 : 0 < n) (hi : i ≤ n) (h : n ≤ 1000000) :
    AC Tryz.prog noG 55 [.csl 0 0 1 n (n + k), .d (.c (.int .i64 i)), .osl 1 0 1 1] [some (.obj ((A ++ B ++ zs).map .d)), some (.obj (x.map .d))] (insO 1 (n + 1) (A ++ x ++ B)) := by
  refine AC.fit ?_
  refine AC_of_R (N := 95) (res := [.tmp 6]) tyL_ok Tryz.call55 Tryz.func55 rfl rfl rfl (Nat.le_of_ble_eq_true rfl) ?_
  have hrl : ((A ++ B ++ zs).map AV.d).length = (n + k) := by rw [List.length_map, List.length_append, List.length_append, hA, hB, hz]; omega
  by_cases hin : i = n
  · have hin2 : (i : Int) = n := by omega
    have hB0 : B = [] := List.eq_nil_of_length_eq_zero (by rw [hB, hin]; omega)
    subst hB0
    rw [hin] at hA
    refine rn1 @hin2 ?_
    refine ⟨by omega, ?_⟩
    refine HO_appC tyL_ok (e := 3) (sz := 1) (m := 1) (ys := x) (l := (A ++ zs).map .d) (l1 := (A ++ x ++ zs.drop 1).map .d) (l2 := fun k => (A ++ x ++ repD zI k).map .d) (zl := zI.map .d) rfl rfl (src_x hx (by decide)) rfl (by omega) (by simp only [ST]) (by simp only [ST]; rfl) ⟨by simp only [ST], by simp only [ST]⟩ (by simp only [ST]; rfl) (by decide) (by decide) (by omega) (by simp only [ST]; omega) (by kernel_rfl) rfl (fun hc => ?_) (fun k => ?_) (fun hc => ?_) (fun hc k2 => ?_)
    · simp only [Nat.mul_one]
      simp only [← List.map_take, ← List.map_drop, ← List.map_append]
      rw [ia1 hA]
    · rw [repA_map, Nat.mul_one]
      simp only [← List.map_take, ← List.map_drop, ← List.map_append]
      rw [tk_app hA]
    · refine rn0 ?_
      refine ⟨_, _, [0,1], [], (.inl ⟨n + k, zs.drop 1, by omega, by simp only [List.length_append, List.length_drop]; omega, rfl, rfl⟩), ⟨?_, (by first | (simp only [wfSt, wfRs, wfL, wfA, wfM, wfL_append, wfL_map_d, Bool.and_true, Bool.and_self, decide_true, Nat.reduceLT, Nat.reduceAdd, List.length_cons, List.length_nil, Nat.zero_add]; done) | rfl), ?_, (by first | (simp only [wfSt, wfRs, wfL, wfA, wfM, wfL_append, wfL_map_d, Bool.and_true, Bool.and_self, decide_true, Nat.reduceLT, Nat.reduceAdd, List.length_cons, List.length_nil, Nat.zero_add]; done) | rfl), rfl, rfl⟩⟩ <;> exact fitT
    · refine rn0 ?_
      refine ⟨_, _, [0,1,2], [], (.inr ⟨n + 1 + k2, repD zI k2, by omega, by simp only [List.length_append, repD_len]; simp only [zI, List.length_cons, List.length_nil]; omega, rfl, rfl⟩), ⟨?_, (by first | (simp only [wfSt, wfRs, wfL, wfA, wfM, wfL_append, wfL_map_d, Bool.and_true, Bool.and_self, decide_true, Nat.reduceLT, Nat.reduceAdd, List.length_cons, List.length_nil, Nat.zero_add]; done) | rfl), ?_, (by first | (simp only [wfSt, wfRs, wfL, wfA, wfM, wfL_append, wfL_map_d, Bool.and_true, Bool.and_self, decide_true, Nat.reduceLT, Nat.reduceAdd, List.length_cons, List.length_nil, Nat.zero_add]; done) | rfl), rfl, rfl⟩⟩ <;> exact fitT
  · have hin2 : ¬ (i : Int) = n := by omega
    refine rn1 @hin2 ?_
    refine ⟨by omega, ?_⟩
    refine HO_capC tyL_ok rfl rfl (by simp only [ST]; rfl) (by kernel_rfl) ?_
    have e1 : ((n : Int) + ((1 : Nat) : Int)).toNat = n + 1 := by omega
    have e2 : (n : Int) + ((1 : Nat) : Int) - i = ((n + 1 - i : Nat) : Int) := by omega
    have e3 : ((i : Int) + ((1 : Nat) : Int)).toNat = i + 1 := by omega
    by_cases hk0 : k = 0
    · subst hk0
      have hz0 : zs = [] := List.eq_nil_of_length_eq_zero (by omega)
      subst hz0
      have hcap : ((n : Int) + 1 > ((n + 0 : Nat) : Int)) := by omega
      refine rn1 (jn @hcap (jn @e1 (jn @e2 @e3))) ?_
      refine ⟨by omega, ?_⟩
      rw [List.append_nil] at hrl
      refine HO_appZ tyL_ok (e := 3) (sz := 1) (q := n + 1 - i) (l := (A ++ B).map .d) (l2 := fun k => (A ++ (repD zI (n + 1 - i) ++ repD zI k)).map .d) (zl := zI.map .d) rfl rfl rfl rfl (by omega) (by simp only [ST]) (by simp only [ST]) ⟨by simp only [ST], by simp only [ST]⟩ (by simp only [ST]; rfl) (by decide) (by omega) (by omega) (by omega) (by simp only [ST]; omega) (by kernel_rfl) rfl (fun k => ?_) (fun k2 => ?_)
      · rw [repA_map, repA_map, Nat.mul_one]
        simp only [← List.map_take, ← List.map_drop, ← List.map_append]
        rw [tk_app hA, List.append_assoc]
      have hY : (repD zI (n + 1 - i) ++ repD zI k2).length = (n + 1 - i + k2) := by rw [List.length_append, repD_len, repD_len]; simp only [zI, List.length_cons, List.length_nil]; omega
      generalize repD zI (n + 1 - i) ++ repD zI k2 = Y at *
      have e4 : i + (n + 1 - i) = n + 1 := by omega
      refine rn1 (jn @e1 (jn @e2 (jn @e3 @e4))) ?_
      refine ⟨by omega, ?_⟩
      have hYs : 1 ≤ Y.length := by omega
      have hYs2 : 1 + (n - i) ≤ Y.length := by omega
      refine HO_copyCD tyL_ok (e := 3) (m := 1) (k := 1) (ys := x) (l := (A ++ Y).map .d) (l' := (A ++ x ++ Y.drop 1).map .d) rfl rfl (src_x hx (by decide)) rfl (by simp only [ST]) ⟨by simp only [ST], by simp only [ST]⟩ (by omega) (Nat.min_eq_left (by omega)) rfl ?_ (by kernel_rfl) rfl ?_
      · simp only [Nat.mul_one]
        simp only [← List.map_take, ← List.map_drop, ← List.map_append]
        rw [gr1 hA]
      refine rn0 ?_
      refine HC_plan [] tyL_ok mix (by kernel_rfl) ?_
      refine rn1 (jn @e1 (jn @e2 (jn @e3 @e4))) ?_
      refine ⟨by omega, by omega, ?_⟩
      refine HO_copyCC tyL_ok (e := 3) (k := n - i) (l := (A ++ x ++ Y.drop 1).map .d) (l2 := (A ++ B).map .d) (l' := (A ++ x ++ B ++ Y.drop (1 + (n - i))).map .d) rfl rfl rfl rfl rfl (by simp only [ST]) ⟨by simp only [ST], by simp only [ST]⟩ (by omega) (by omega) (Nat.min_eq_left (by omega)) ?_ (by kernel_rfl) rfl ?_
      · simp only [Nat.mul_one]
        simp only [← List.map_take, ← List.map_drop, ← List.map_append]
        rw [gr2 hA hB hx hYs rfl]
      refine rn0 ?_
      refine ⟨_, _, [0,1,2], [], (.inr ⟨n + 1 + k2, Y.drop (1 + (n - i)), by omega, by simp only [List.length_append, List.length_drop]; omega, rfl, rfl⟩), ⟨?_, (by first | (simp only [wfSt, wfRs, wfL, wfA, wfM, wfL_append, wfL_map_d, Bool.and_true, Bool.and_self, decide_true, Nat.reduceLT, Nat.reduceAdd, List.length_cons, List.length_nil, Nat.zero_add]; done) | rfl), ?_, (by first | (simp only [wfSt, wfRs, wfL, wfA, wfM, wfL_append, wfL_map_d, Bool.and_true, Bool.and_self, decide_true, Nat.reduceLT, Nat.reduceAdd, List.length_cons, List.length_nil, Nat.zero_add]; done) | rfl), rfl, rfl⟩⟩ <;> exact fitT
    · have hcap : ¬ ((n : Int) + 1 > ((n + k : Nat) : Int)) := by omega
      refine rn1 (jn @hcap (jn @e1 (jn @e2 @e3))) ?_
      refine ⟨by omega, by omega, ?_⟩
      refine HO_overlaps tyL_ok (fn := Tryz.f77) (tS := 69) (tR := 4) (e := 3) (l := x.map .d) (l2 := (A ++ B ++ zs).map .d) rfl rfl Tryz.func77 rfl rfl rfl rfl (by simp only [ST]) (by simp only [ST]) rfl rfl rfl rfl (by decide) (by decide) (by omega) (by omega) (by kernel_rfl) ?_
      refine rn1 (jn @e1 (jn @e2 @e3)) ?_
      refine HC_plan [] tyL_ok mix (by kernel_rfl) ?_
      refine rn1 (jn @e1 (jn @e2 @e3)) ?_
      refine ⟨by omega, by omega, ?_⟩
      have hzs : 1 ≤ zs.length := by omega
      refine HO_copyCC tyL_ok (e := 3) (k := n - i) (l := (A ++ B ++ zs).map .d) (l2 := (A ++ B ++ zs).map .d) (l' := ((A ++ B ++ zs).take (i + 1) ++ B ++ zs.drop 1).map .d) rfl rfl rfl rfl rfl (by simp only [ST]) ⟨by simp only [ST], by simp only [ST]⟩ (by omega) (by omega) (by show min _ _ = _; omega) ?_ (by kernel_rfl) rfl ?_
      · simp only [Nat.mul_one]
        simp only [← List.map_take, ← List.map_drop, ← List.map_append]
        rw [in1 hA hB]
      refine rn1 (jn @e1 (jn @e2 @e3)) ?_
      refine ⟨by omega, ?_⟩
      refine HO_copyCD tyL_ok (e := 3) (m := 1) (k := 1) (ys := x) (l := ((A ++ B ++ zs).take (i + 1) ++ B ++ zs.drop 1).map .d) (l' := (A ++ x ++ B ++ zs.drop 1).map .d) rfl rfl (src_x hx (by decide)) rfl (by simp only [ST]) ⟨by simp only [ST], by simp only [ST]⟩ (by omega) (Nat.min_eq_left (by omega)) rfl ?_ (by kernel_rfl) rfl ?_
      · simp only [Nat.mul_one]
        simp only [← List.map_take, ← List.map_drop, ← List.map_append]
        rw [in2 hA hB hzs]
      refine rn0 ?_
      refine ⟨_, _, [0,1], [], (.inl ⟨n + k, zs.drop 1, by omega, by simp only [List.length_append, List.length_drop]; omega, rfl, rfl⟩), ⟨?_, (by first | (simp only [wfSt, wfRs, wfL, wfA, wfM, wfL_append, wfL_map_d, Bool.and_true, Bool.and_self, decide_true, Nat.reduceLT, Nat.reduceAdd, List.length_cons, List.length_nil, Nat.zero_add]; done) | rfl), ?_, (by first | (simp only [wfSt, wfRs, wfL, wfA, wfM, wfL_append, wfL_map_d, Bool.and_true, Bool.and_self, decide_true, Nat.reduceLT, Nat.reduceAdd, List.length_cons, List.length_nil, Nat.zero_add]; done) | rfl), rfl, rfl⟩⟩ <;> exact fitT
end Go.Proofs.YtdbicadncccpoaaGreat

set_option linter.unusedVariables false
set_option linter.unusedSimpArgs false
set_option maxRecDepth 100000
namespace Go.Proofs.YtdbicadncccpoaaGreat
open Go Go.ChangeShapes Go.WideShapes
/-! .. of a slice without elements. -/
theorem cloneI_0 : AC Tryz.prog noG 56 [.d (.sl 1 0 [])] [] (fun v r' => v = .sl .full 1 0 [] ∧ r' = []) := by
  skip
  refine AC.empty ?_
  intro A c
  refine AC.fit ?_
  refine AC_of_R (N := 8) (res := [.tmp 2]) tyL_ok Tryz.call56 Tryz.func56 rfl rfl rfl (Nat.le_of_ble_eq_true rfl) ?_
  cases A with
  | none =>
    refine rn0 ?_
    exact fv0 [] []
  | some a =>
    refine rn0 ?_
    refine HO_app0 tyL_ok (e := 3) (sz := 1) rfl (by simp only [ST]) (by simp only [ST]; rfl) ⟨by simp only [ST], by simp only [ST]⟩ rfl rfl (by kernel_rfl) ?_
    refine rn0 ?_
    exact fv0 [] []
theorem cloneF_0 : AC Tryz.prog noG 80 [.d (.sl 4 0 [])] [] (fun v r' => v = .sl .full 4 0 [] ∧ r' = []) := by
  skip
  refine AC.empty ?_
  intro A c
  refine AC.fit ?_
  refine AC_of_R (N := 8) (res := [.tmp 2]) tyL_ok Tryz.call80 Tryz.func80 rfl rfl rfl (Nat.le_of_ble_eq_true rfl) ?_
  cases A with
  | none =>
    refine rn0 ?_
    exact fv0 [] []
  | some a =>
    refine rn0 ?_
    refine HO_app0 tyL_ok (e := 38) (sz := 4) rfl (by simp only [ST]) (by simp only [ST]; rfl) ⟨by simp only [ST], by simp only [ST]⟩ rfl rfl (by kernel_rfl) ?_
    refine rn0 ?_
    exact fv0 [] []
theorem cloneC_0 : AC Tryz.prog noG 79 [.d (.sl 3 0 [])] [] (fun v r' => v = .sl .full 3 0 [] ∧ r' = []) := by
  skip
  refine AC.empty ?_
  intro A c
  refine AC.fit ?_
  refine AC_of_R (N := 8) (res := [.tmp 2]) tyL_ok Tryz.call79 Tryz.func79 rfl rfl rfl (Nat.le_of_ble_eq_true rfl) ?_
  cases A with
  | none =>
    refine rn0 ?_
    exact fv0 [] []
  | some a =>
    refine rn0 ?_
    refine HO_app0 tyL_ok (e := 68) (sz := 3) rfl (by simp only [ST]) (by simp only [ST]; rfl) ⟨by simp only [ST], by simp only [ST]⟩ rfl rfl (by kernel_rfl) ?_
    refine rn0 ?_
    exact fv0 [] []
theorem AC.nones {f : FuncId} {P : Program} {G : Nat → List D} {args : List AV} {r : Rs} {y : D} (m : Nat) (hm : r.length ≤ m) (h : AC P G f args r (fun v r' => v = .d y ∧ m ≤ r'.length ∧ ∀ x ∈ r', x = none)) : AC P G f args r (fun v r' => v = .d y ∧ r' = List.replicate m (none : Option Res)) := by
  refine ⟨h.1, fun E w vals hG hA => (h.2 E w vals hG hA).mono fun e w' ⟨v, x, r', E', he, ⟨ho, hl, hn⟩, k1, k2, k3⟩ => ?_⟩
  have hW : WeakR r' (List.replicate m (none : Option Res)) := ⟨by simpa using hl, fun i x hx => by
    rw [List.getElem?_replicate] at hx
    split at hx <;> simp at hx⟩
  have hwf : ∀ k, wfRs (List.replicate m (none : Option Res)).length (List.replicate k none) = true := by
    intro k; induction k with
    | zero => rfl
    | succ k ih => exact ih
  subst ho
  exact ⟨.d y, x, _, E', he, ⟨rfl, rfl⟩, RA_weak hW _ x rfl k1, k2.weak hW (hwf m), k3.weak hW (by simpa using hm)⟩
theorem src_x0 {sz : Nat} {x : List D} (hx : x.length = sz) (h0 : 0 < sz) {r : Rs} : srcOf (some (.obj (x.map .d)) :: r) sz (.osl 0 0 sz 1) = some (1, x) := by
  have h1 : (x.map AV.d).take sz = x.map .d := List.take_of_length_le (by rw [List.length_map]; omega)
  simp only [srcOf, objOf, List.getElem?_cons_succ, List.getElem?_cons_zero, List.drop_zero, Nat.one_mul, h1, allD_map]
  rw [if_pos ⟨trivial, by omega⟩]; rfl
theorem one_lay {sz : Nat} {x : List D} (hx : x.length = sz) {f : FuncId} {P : Program} {G : Nat → List D} {args : List AV} {r : Rs} (hr : r.length ≤ 1) (h : AC P G f args r (fun v r' => ∃ (k : Nat) (zs : List D), v = .csl 1 0 sz 1 (1 + k) ∧ r' = [none, some (.obj ((x ++ zs).map .d))])) : AC P G f args r (fun v r' => v = .d (.sl sz 1 x) ∧ r' = [none]) := by
  refine AC.nones (y := .sl sz 1 x) 1 hr (h.lay fun v r' ⟨k, zs, hv, hr⟩ => ⟨1, (x ++ zs).map .d, x ++ zs, by rw [hr]; rfl, allD_map _, ?_⟩)
  rw [hv, hr]
  refine ⟨?_, by simp, by simp⟩
  simp only [fzA]
  rw [if_pos ⟨trivial, by omega⟩, List.drop_zero, Nat.one_mul, ← hx, List.take_left]
set_option maxHeartbeats 400000 in
theorem insI_0 (x : List D) (hx : x.length = 1) : AC Tryz.prog noG 55 [.sl .full 1 0 [], .d (.c (.int .i64 0)), .osl 0 0 1 1] [some (.obj (x.map .d))] (fun v r' => v = .d (.sl 1 1 x) ∧ r' = [none]) := by
  skip
  refine one_lay hx (by simp) ?_
  refine AC.fit ?_
  refine AC_of_R (N := 95) (res := [.tmp 6]) tyL_ok Tryz.call55 Tryz.func55 rfl rfl rfl (Nat.le_of_ble_eq_true rfl) ?_
  refine rn0 ?_
  (repeat (refine And.intro (by omega) ?_))
  refine HO_appE tyL_ok (e := 3) (sz := 1) (m := 1) (ys := x) (zl := zI.map .d) rfl (by simp only [ST]) (by simp only [ST]; rfl) ⟨by simp only [ST], by simp only [ST]⟩ rfl (src_x0 hx (by decide)) (by simp only [ST]; rfl) (by decide) (by decide) (by omega) (by simp only [ST]; omega) (by kernel_rfl) fun k => ?_
  refine rn0 ?_
  simp only [repA_map, ← List.map_append]
  refine ⟨_, _, [0, 1], [], ⟨k, repD zI k, rfl, rfl⟩, ⟨?_, (by first | (simp only [wfSt, wfRs, wfL, wfA, wfM, wfL_append, wfL_map_d, Bool.and_true, Bool.and_self, decide_true, Nat.reduceLT, Nat.reduceAdd, List.length_cons, List.length_nil, Nat.zero_add]; done) | rfl), ?_, (by first | (simp only [wfSt, wfRs, wfL, wfA, wfM, wfL_append, wfL_map_d, Bool.and_true, Bool.and_self, decide_true, Nat.reduceLT, Nat.reduceAdd, List.length_cons, List.length_nil, Nat.zero_add]; done) | rfl), rfl, rfl⟩⟩ <;> exact fitT
end Go.Proofs.YtdbicadncccpoaaGreat

set_option linter.unusedVariables false
set_option linter.unusedSimpArgs false
set_option maxRecDepth 100000
namespace Go.Proofs.YtdbicadncccpoaaGreat
open Go Go.ChangeShapes Go.WideShapes
/-! The program's order of facts, and the library's search by it. -/
def cpaSt (l m : List Cst) (i : Nat) : List (Nat × AV) := [(0, .d (.sl 3 l.length (flatE cstE l))), (1, .d (.sl 3 m.length (flatE cstE m))), (2, .fn (.func 76) [] []), (11, .d (.sl 3 l.length (flatE cstE l))), (12, .d (.c (.int .i64 l.length))), (13, .d (.c (.int .i64 i)))]
set_option maxHeartbeats 400000 in
theorem cmpA_ac (l m : List Cst) (hl : l.length ≤ 140737488352000) (hm : m.length ≤ 140737488352000) : AC Tryz.prog noG 83
    [.d (.sl 3 l.length (flatE cstE l)), .d (.sl 3 m.length (flatE cstE m)), .fn (.func 76) [] []] [] (fun v r' => v = .d (.c (.int .i64 (argC l m))) ∧ r' = []) := by
  refine AC.pure ?_ (by rintro v rfl; rfl)
  refine AC_of_R (N := 39) (res := [.tmp 6]) ty_ok Tryz.call83 Tryz.func83 rfl rfl rfl (Nat.le_of_ble_eq_true rfl) ?_
  refine rn0 ?_
  refine HC_loopR (cpaSt l m) (fun _ => []) (fun i => i ≤ l.length ∧ i ≤ m.length ∧ argC (l.drop i) (m.drop i) = argC l m) (fun i => l.length - i) 0 [] [] ⟨by omega, by omega, rfl⟩ ?_ ?_
  · exact ft1 @cpaSt.eq_1
  intro i ⟨hi1, hi2, hi3⟩
  refine HC_of_R ty_ok ?_
  by_cases hlt : i < l.length
  · have hi : (i : Int) < l.length := by omega
    have hd := flatE_drop cstE_len l i hlt
    have hle := flatE_len cstE_len l
    by_cases hlt' : i < m.length
    · have hi' : ¬ (i : Int) ≥ m.length := by omega
      have hi'' : (i : Int) < m.length := by omega
      have hd2 := flatE_drop cstE_len m i hlt'
      have hle2 := flatE_len cstE_len m
      rw [List.drop_eq_getElem_cons hlt, List.drop_eq_getElem_cons hlt', argC] at hi3
      have hg := fcmp_ac l[i] m[i]
      generalize l[i] = c at *
      generalize m[i] = d at *
      simp only [cstE, List.cons_append, List.nil_append] at hd hd2
      refine rn1 (jn @cpaSt.eq_1 (jn @hi (jn @hi' (jn @hi'' (jn @hd (jn @hle (jn @hd2 (jn @hle2 @cstE.eq_1)))))))) ?_
      (repeat (refine And.intro (by omega) ?_))
      refine HO_pureA ty_ok hg ?_
      by_cases hc : cstC c d = 0
      · rw [if_pos hc] at hi3
        refine rn1 @hc ?_
        (repeat (refine And.intro (by omega) ?_))
        refine ⟨i + 1, ⟨by omega, by omega, hi3⟩, by omega, [], [], ?_⟩
        exact ft1 @cpaSt.eq_1
      · rw [if_neg hc] at hi3
        refine rn1 @hc ?_
        rw [hi3]
    · have hi' : (i : Int) ≥ m.length := by omega
      have hz : m.drop i = [] := List.drop_of_length_le (by omega)
      rw [List.drop_eq_getElem_cons hlt, hz, argC] at hi3
      generalize l[i] = c at *
      simp only [cstE, List.cons_append, List.nil_append] at hd
      refine rn1 (jn @cpaSt.eq_1 (jn @hi (jn @hi' (jn @hd (jn @hle @cstE.eq_1))))) ?_
      rw [← hi3]
      exact ⟨by omega, rfl⟩
  · have hi : ¬ (i : Int) < l.length := by omega
    by_cases hm2 : i < m.length
    · have hi' : (l.length : Int) < m.length := by omega
      rw [List.drop_of_length_le (by omega), List.drop_eq_getElem_cons hm2, argC] at hi3
      refine rn1 (jn @cpaSt.eq_1 (jn @hi @hi')) ?_
      rw [← hi3]
    · have hi' : ¬ (l.length : Int) < m.length := by omega
      rw [List.drop_of_length_le (by omega), List.drop_of_length_le (by omega), argC] at hi3
      refine rn1 (jn @cpaSt.eq_1 (jn @hi @hi')) ?_
      rw [← hi3]
theorem orV_ord (f g : Fct) : orV [txC f.a g.a, txC f.b g.b, txC f.p g.p, argC f.l g.l] = ordC f g := by
  unfold ordC
  simp only [orV]
  by_cases h1 : f.a = g.a
  · rw [if_pos h1, if_pos (txC_zero.2 h1)]
    by_cases h2 : f.b = g.b
    · rw [if_pos h2, if_pos (txC_zero.2 h2)]
      by_cases h3 : f.p = g.p
      · rw [if_pos h3, if_pos (txC_zero.2 h3)]
        split
        · rename_i h; exact h.symm
        · rfl
      · rw [if_neg h3, if_neg (fun h => h3 (txC_zero.1 h))]
    · rw [if_neg h2, if_neg (fun h => h2 (txC_zero.1 h))]
  · rw [if_neg h1, if_neg (fun h => h1 (txC_zero.1 h))]
set_option maxHeartbeats 400000 in
theorem ford_ac (f g : Fct) (hf : f.l.length ≤ 140737488352000) (hg : g.l.length ≤ 140737488352000) : AC Tryz.prog noG 60 [.d (.agg (fctE f)), .d (.agg (fctE g))] [] (fun v r' => v = .d (.c (.int .i64 (ordC f g))) ∧ r' = []) := by
  refine AC.pure ?_ (by rintro v rfl; rfl)
  refine AC_of_R (N := 27) (res := [.tmp 4]) ty_ok Tryz.call60 Tryz.func60 rfl rfl rfl (Nat.le_of_ble_eq_true rfl) ?_
  rw [← orV_ord]
  have ko := or_ac [txC f.a g.a, txC f.b g.b, txC f.p g.p, argC f.l g.l] (by simp)
  refine rn1 @fctE.eq_1 ?_
  refine HC_order [4, 9, 14] ty_ok mix [0, 1, 2, 3, 5, 6, 7, 8, 10, 11, 12, 13, 15, 16, 17, 18, 4, 9, 14, 19, 20, 21, 22] (by kernel_rfl) rfl _ rfl ?_
  simp only [opl_nil', opl_cons', oplC_some, List.getElem?_toArray, List.getElem?_cons_zero, List.getElem?_cons_succ]
  refine rn0 ?_
  refine HO_pureA ty_ok (cmpS_ac f.a g.a) ?_
  refine rn0 ?_
  refine HO_pureA ty_ok (cmpS_ac f.b g.b) ?_
  refine rn0 ?_
  refine HO_pureA ty_ok (cmpS_ac f.p g.p) ?_
  refine rn0 ?_
  refine HO_pureA ty_ok (cmpA_ac f.l g.l hf hg) ?_
  refine rn0 ?_
  refine HO_pureA ty_ok ko ?_
  exact rz0
/-! slices.BinarySearchFunc over facts: where the place is known by what stands before and behind it. -/
def bsSt (L : List Fct) (f : Fct) (x : Nat × Nat) : List (Nat × AV) := [(0, .d (.sl 4 L.length (flatE fctE L))), (2, .fn (.func 60) [] []), (4, .ptr 0 0), (8, .d (.c (.int .i64 L.length))), (9, .d (.c (.int .i64 x.1))), (10, .d (.c (.int .i64 x.2)))]
def bsRe (f : Fct) : Rs := [some (.obj [.d (.c (.string f.a)), .d (.c (.string f.b)), .d (.c (.string f.p)), .d (.sl 3 f.l.length (flatE cstE f.l))])]
set_option maxHeartbeats 400000 in
theorem bsF_ac (L : List Fct) (f : Fct) (p : Nat) (hL : L.length ≤ 1000000) (hs : ∀ g ∈ L, g.l.length ≤ 140737488352000) (hf : f.l.length ≤ 140737488352000) (hp : p ≤ L.length) (h1 : ∀ k (h : k < L.length), k < p → ordC L[k] f < 0) (h2 : ∀ k (h : k < L.length), p ≤ k → 0 ≤ ordC L[k] f) (q : Bool) (hq : q = decide (∃ h : p < L.length, ordC L[p] f = 0)) :
    AC Tryz.prog noG 61 [.d (.sl 4 L.length (flatE fctE L)), .d (.agg (fctE f)), .fn (.func 60) [] []] [] (fun v r' => v = .tup [.d (.c (.int .i64 p)), .d (.c (.bool q))] ∧ r' = []) := by
  refine AC.pure ?_ (by rintro v rfl; rfl)
  refine AC_of_R (N := 49) (res := [.tmp 6, .tmp 7]) ty_ok Tryz.call61 Tryz.func61 rfl rfl rfl (Nat.le_of_ble_eq_true rfl) ?_
  refine rn1 @fctE.eq_1 ?_
  refine HC_loopR (bsSt L f) (fun _ => bsRe f) (fun x => x.1 ≤ p ∧ p ≤ x.2 ∧ x.2 ≤ L.length) (fun x => x.2 - x.1) (0, L.length) [0] [] ⟨by simp, hp, by simp⟩ ?_ ?_
  · exact ft1 (jn @bsSt.eq_1 @bsRe.eq_1)
  intro ⟨i, j⟩ ⟨hi1, hi2, hi3⟩
  simp only at hi1 hi2 hi3
  refine HC_of_R ty_ok ?_
  by_cases hij : i < j
  · have hij' : (i : Int) < j := by omega
    obtain ⟨h, hh⟩ : ∃ h : Nat, h = (i + j) / 2 := ⟨_, rfl⟩
    have em : ((i : Int) + (j : Int)) / 2 = (h : Int) := by omega
    have hlt : h < L.length := by omega
    have hlt' : (h : Int) < L.length := by omega
    have hd := flatE_drop fctE_len L h hlt
    have hle := flatE_len fctE_len L
    have hg := ford_ac L[h] f (hs _ (List.getElem_mem hlt)) hf
    have k1 := h1 h hlt
    have k2 := h2 h hlt
    generalize L[h] = c at *
    simp only [fctE, List.cons_append, List.nil_append] at hd hg
    refine rn1 (jn @bsSt.eq_1 (jn @bsRe.eq_1 (jn @hij' @em))) ?_
    refine HC_plan [] ty_ok mix (by kernel_rfl) ?_
    refine rn1 (jn @hlt' (jn @hd @hle)) ?_
    (repeat (refine And.intro (by omega) ?_))
    refine HO_pureA ty_ok hg ?_
    by_cases ho : ordC c f < 0
    · have hp2 : ¬ p ≤ h := fun hc => absurd (k2 hc) (by omega)
      refine rn1 @ho ?_
      (repeat (refine And.intro (by omega) ?_))
      refine ⟨(h + 1, j), ⟨by simp only; omega, by simp only; omega, by simp only; omega⟩, by simp only; omega, [0], [], ?_⟩
      exact ft1 (jn @bsSt.eq_1 @bsRe.eq_1)
    · have hp2 : ¬ h < p := fun hc => ho (k1 hc)
      refine rn1 @ho ?_
      (repeat (refine And.intro (by omega) ?_))
      refine ⟨(i, h), ⟨by simp only; omega, by simp only; omega, by simp only; omega⟩, by simp only; omega, [0], [], ?_⟩
      exact ft1 (jn @bsSt.eq_1 @bsRe.eq_1)
  · have hij' : ¬ (i : Int) < j := by omega
    have hip : i = p := by omega
    subst hip
    by_cases hlt : i < L.length
    · have hlt' : (i : Int) < L.length := by omega
      have hd := flatE_drop fctE_len L i hlt
      have hle := flatE_len fctE_len L
      have hg := ford_ac L[i] f (hs _ (List.getElem_mem hlt)) hf
      have hq2 : q = decide (ordC L[i] f = 0) := by
        rw [hq]; congr 1
        exact propext ⟨fun ⟨_, h⟩ => h, fun h => ⟨hlt, h⟩⟩
      clear hq h1 h2
      subst hq2
      generalize L[i] = c at *
      simp only [fctE, List.cons_append, List.nil_append] at hd hg
      refine rn1 (jn @bsSt.eq_1 (jn @bsRe.eq_1 @hij')) ?_
      refine HC_plan [] ty_ok mix (by kernel_rfl) ?_
      refine rn1 (jn @hlt' (jn @hd @hle)) ?_
      (repeat (refine And.intro (by omega) ?_))
      refine HO_pureA ty_ok hg ?_
      exact rz0
    · have hlt' : ¬ (i : Int) < L.length := by omega
      have hq2 : q = false := by
        rw [hq, decide_eq_false_iff_not]
        exact fun ⟨h, _⟩ => hlt h
      subst hq2
      refine rn1 (jn @bsSt.eq_1 (jn @bsRe.eq_1 @hij')) ?_
      refine HC_plan [] ty_ok mix (by kernel_rfl) ?_
      exact rz1 @hlt'
end Go.Proofs.YtdbicadncccpoaaGreat

set_option linter.unusedVariables false
set_option linter.unusedSimpArgs false
set_option maxRecDepth 100000
namespace Go.Proofs.YtdbicadncccpoaaGreat
open Go Go.ChangeShapes Go.WideShapes
/-! The order of facts is one: plain, with no program in sight. -/
structure IsCmp {α : Type} (c : α → α → Int) : Prop where
  zero : ∀ a b, c a b = 0 ↔ a = b
  anti : ∀ a b, c a b < 0 ↔ 0 < c b a
  trans : ∀ a b d, c a b < 0 → c b d < 0 → c a d < 0
theorem less_trans : ∀ a b d : List UInt8, Op.bytesLess a b = true → Op.bytesLess b d = true → Op.bytesLess a d = true
  | [], _ :: _, _ :: _, _, _ => rfl
  | [], _ :: _, [], _, h => by simp [Op.bytesLess] at h
  | x :: a, [], _, h, _ => by simp [Op.bytesLess] at h
  | x :: a, y :: b, [], _, h => by simp [Op.bytesLess] at h
  | x :: a, y :: b, z :: d, h1, h2 => by
    simp only [Op.bytesLess, Bool.or_eq_true, Bool.and_eq_true, decide_eq_true_eq, beq_iff_eq] at h1 h2 ⊢
    rcases h1 with h1 | ⟨rfl, h1⟩
    · rcases h2 with h2 | ⟨rfl, h2⟩
      · exact .inl (Nat.lt_trans h1 h2)
      · exact .inl h1
    · rcases h2 with h2 | ⟨rfl, h2⟩
      · exact .inl h2
      · exact .inr ⟨rfl, less_trans a b d h1 h2⟩
  | [], [], _, h, _ => by simp [Op.bytesLess] at h
theorem less_tri : ∀ a b : List UInt8, a ≠ b → Op.bytesLess a b = false → Op.bytesLess b a = true
  | [], [], h, _ => absurd rfl h
  | [], _ :: _, _, h => by simp [Op.bytesLess] at h
  | _ :: _, [], _, _ => rfl
  | x :: a, y :: b, hn, h => by
    simp only [Op.bytesLess, Bool.or_eq_false_iff, Bool.and_eq_false_iff, decide_eq_false_iff_not, beq_eq_false_iff_ne, Bool.or_eq_true, Bool.and_eq_true, decide_eq_true_eq, beq_iff_eq] at h ⊢
    by_cases hxy : x = y
    · subst hxy
      refine .inr ⟨rfl, less_tri a b (fun hab => hn (by rw [hab])) ?_⟩
      rcases h.2 with h2 | h2
      · exact absurd rfl h2
      · exact h2
    · refine .inl ?_
      have h1 := h.1
      have : x.toNat ≠ y.toNat := fun he => hxy (UInt8.toNat_inj.1 he)
      have h1' : ¬ x.toNat < y.toNat := h1
      show y.toNat < x.toNat
      omega
theorem less_asym (a b : List UInt8) (h : Op.bytesLess a b = true) : Op.bytesLess b a = false := by
  cases hb : Op.bytesLess b a with
  | false => rfl
  | true => have := less_trans a b a h hb; rw [less_irr] at this; cases this
theorem ba_ext {a b : ByteArray} (h : a.toList = b.toList) : a = b := by
  apply ByteArray.ext
  rw [Go.ByteArray.toList_eq, Go.ByteArray.toList_eq] at h
  exact Array.toList_inj.1 h
theorem txC_lt {a b : ByteArray} : txC a b < 0 ↔ Op.bytesLess a.toList b.toList = true := by
  unfold txC
  split
  · rename_i h; simp [h]
  · rename_i h; split <;> simp_all
theorem txC_gt {a b : ByteArray} : 0 < txC a b ↔ Op.bytesLess b.toList a.toList = true := by
  constructor
  · intro h
    unfold txC at h
    split at h
    · simp at h
    · split at h
      · simp at h
      · rename_i h1 h2
        exact less_tri _ _ (fun he => h2 (ba_ext he)) (by simpa using h1)
  · intro h
    have h1 := less_asym _ _ h
    have h2 : a ≠ b := by rintro rfl; rw [less_irr] at h; cases h
    unfold txC
    rw [h1, if_neg (by decide), if_neg h2]; decide
theorem isTx : IsCmp txC := ⟨fun _ _ => txC_zero, fun a b => by rw [txC_lt, txC_gt], fun a b d h1 h2 => by rw [txC_lt] at *; exact less_trans _ _ _ h1 h2⟩
theorem isI : IsCmp cmpI := ⟨fun _ _ => cmpI_zero, fun a b => by unfold cmpI; split <;> split <;> (try split) <;> omega, fun a b d h1 h2 => by
  have e1 : a < b := by
    unfold cmpI at h1; split at h1
    · assumption
    · split at h1 <;> omega
  have e2 : b < d := by
    unfold cmpI at h2; split at h2
    · assumption
    · split at h2 <;> omega
  unfold cmpI; rw [if_pos (by omega)]; decide⟩
/-- One first, then the other. -/
def lexC {α β : Type} (c : α → α → Int) (d : β → β → Int) (x y : α × β) : Int := if c x.1 y.1 = 0 then d x.2 y.2 else c x.1 y.1
theorem IsCmp.lex {α β : Type} {c : α → α → Int} {d : β → β → Int} (hc : IsCmp c) (hd : IsCmp d) : IsCmp (lexC c d) := by
  refine ⟨fun ⟨a, b⟩ ⟨a', b'⟩ => ?_, fun ⟨a, b⟩ ⟨a', b'⟩ => ?_, fun ⟨a, b⟩ ⟨a', b'⟩ ⟨a'', b''⟩ h1 h2 => ?_⟩
  · simp only [lexC, Prod.mk.injEq]
    split
    · rename_i h; rw [hd.zero]; simp [(hc.zero _ _).1 h]
    · rename_i h
      constructor
      · intro h2; exact absurd h2 h
      · intro h2; exact absurd ((hc.zero _ _).2 h2.1) h
  · simp only [lexC]
    by_cases h : a = a'
    · subst h
      rw [if_pos ((hc.zero a a).2 rfl), if_pos ((hc.zero a a).2 rfl)]; exact hd.anti _ _
    · rw [if_neg (fun h2 => h ((hc.zero _ _).1 h2)), if_neg (fun h2 => h ((hc.zero _ _).1 h2).symm)]; exact hc.anti _ _
  · simp only [lexC] at h1 h2 ⊢
    by_cases h : a = a'
    · subst h
      rw [if_pos ((hc.zero a a).2 rfl)] at h1
      split at h2
      · rename_i h3; rw [if_pos h3]; exact hd.trans _ _ _ h1 h2
      · rename_i h3; rw [if_neg h3]; exact h2
    · rw [if_neg (fun h2 => h ((hc.zero _ _).1 h2))] at h1
      by_cases h' : a' = a''
      · subst h'
        rw [if_neg (by omega)]; exact h1
      · rw [if_neg (fun h2 => h' ((hc.zero _ _).1 h2))] at h2
        have := hc.trans _ _ _ h1 h2
        rw [if_neg (by omega)]; exact this
theorem IsCmp.map {α β : Type} {c : α → α → Int} (hc : IsCmp c) (f : β → α) (hf : ∀ x y, f x = f y → x = y) : IsCmp (fun x y => c (f x) (f y)) :=
  ⟨fun a b => (hc.zero _ _).trans ⟨hf a b, fun h => by rw [h]⟩, fun a b => hc.anti _ _, fun a b d => hc.trans _ _ _⟩
def boC (a b : Bool) : Int := if a = b then 0 else if a then -1 else 1
theorem isBo : IsCmp boC := ⟨by decide, by decide, by decide⟩
theorem cst_lex (a b : Cst) : cstC a b = lexC boC (lexC cmpI txC) (a.num, a.n, a.s) (b.num, b.n, b.s) := by
  simp only [cstC, lexC, boC]
  by_cases h : a.num = b.num
  · rw [if_pos h, if_pos h, if_pos rfl]
  · rw [if_neg h, if_neg h]
    cases a.num <;> simp
theorem isCst : IsCmp cstC := by
  have := (isBo.lex (isI.lex isTx)).map (fun c : Cst => (c.num, c.n, c.s)) (by rintro ⟨a, b, c⟩ ⟨a', b', c'⟩ h; simpa using h)
  have e : cstC = fun x y => lexC boC (lexC cmpI txC) (x.num, x.n, x.s) (y.num, y.n, y.s) := by funext a b; exact cst_lex a b
  rw [e]; exact this
theorem isArg : IsCmp argC := by
  refine ⟨fun _ _ => argC_zero, fun a => ?_, fun a => ?_⟩
  · induction a with
    | nil => intro b; cases b <;> simp [argC]
    | cons x a ih =>
      intro b
      cases b with
      | nil => simp [argC]
      | cons y b =>
        simp only [argC]
        by_cases h : x = y
        · subst h; rw [if_pos (cstC_zero.2 rfl), if_pos (cstC_zero.2 rfl)]; exact ih b
        · rw [if_neg (fun h2 => h (cstC_zero.1 h2)), if_neg (fun h2 => h (cstC_zero.1 h2).symm)]; exact isCst.anti _ _
  · induction a with
    | nil =>
      intro b d h1 h2
      cases b with
      | nil => simp [argC] at h1
      | cons y b => cases d with
        | nil => simp [argC] at h2
        | cons z d => simp [argC]
    | cons x a ih =>
      intro b d h1 h2
      cases b with
      | nil => simp [argC] at h1
      | cons y b => cases d with
        | nil => simp [argC] at h2
        | cons z d =>
          simp only [argC] at h1 h2 ⊢
          by_cases h : x = y
          · subst h
            rw [if_pos (cstC_zero.2 rfl)] at h1
            split at h2
            · rename_i h3; rw [if_pos h3]; exact ih b d h1 h2
            · rename_i h3; rw [if_neg h3]; exact h2
          · rw [if_neg (fun h2 => h (cstC_zero.1 h2))] at h1
            by_cases h' : y = z
            · subst h'
              rw [if_neg (by omega)]; exact h1
            · rw [if_neg (fun h2 => h' (cstC_zero.1 h2))] at h2
              have := isCst.trans _ _ _ h1 h2
              rw [if_neg (by omega)]; exact this
theorem ord_lex (f g : Fct) : ordC f g = lexC txC (lexC txC (lexC txC argC)) (f.a, f.b, f.p, f.l) (g.a, g.b, g.p, g.l) := by
  simp only [ordC, lexC]
  by_cases h1 : f.a = g.a
  · rw [if_pos h1, if_pos (txC_zero.2 h1)]
    by_cases h2 : f.b = g.b
    · rw [if_pos h2, if_pos (txC_zero.2 h2)]
      by_cases h3 : f.p = g.p
      · rw [if_pos h3, if_pos (txC_zero.2 h3)]
      · rw [if_neg h3, if_neg (fun h => h3 (txC_zero.1 h))]
    · rw [if_neg h2, if_neg (fun h => h2 (txC_zero.1 h))]
  · rw [if_neg h1, if_neg (fun h => h1 (txC_zero.1 h))]
theorem isOrd : IsCmp ordC := by
  have := (isTx.lex (isTx.lex (isTx.lex isArg))).map (fun f : Fct => (f.a, f.b, f.p, f.l)) (by rintro ⟨a, b, c, d⟩ ⟨a', b', c', d'⟩ h; simpa using h)
  have e : ordC = fun x y => lexC txC (lexC txC (lexC txC argC)) (x.a, x.b, x.p, x.l) (y.a, y.b, y.p, y.l) := by funext a b; exact ord_lex a b
  rw [e]; exact this
end Go.Proofs.YtdbicadncccpoaaGreat

set_option linter.unusedVariables false
set_option linter.unusedSimpArgs false
set_option maxRecDepth 100000
namespace Go.Proofs.YtdbicadncccpoaaGreat
open Go Go.ChangeShapes Go.WideShapes
/-! A trail, with no program in sight: its entries, and their numbers by their facts. -/
structure Ntr where
  f : Fct
  why : Int
  rule : Int
  body : List Fct
  tg : List UInt8
deriving DecidableEq
def entE (x : Ntr) : List D := fctE x.f ++ ([.c (.int .i64 x.why), .c (.int .i64 x.rule), .sl 4 x.body.length (flatE fctE x.body)] ++ bD x.tg)
def zE : Ntr := ⟨zF0, 0, 0, [], List.replicate 32 0⟩
where
  zF0 : Fct := ⟨⟨#[]⟩, ⟨#[]⟩, ⟨#[]⟩, []⟩
def fa (L : List Ntr) (k : Nat) : Fct := (L.getD k zE).f
def ltF (L : List Ntr) (f : Fct) (k : Nat) : Bool := decide (ordC (fa L k) f < 0)
def posT (L : List Ntr) (O : List Nat) (f : Fct) : Nat := (O.takeWhile (ltF L f)).length
def hasT (L : List Ntr) (f : Fct) : Bool := L.any fun x => decide (x.f = f)
structure TInv (L : List Ntr) (O : List Nat) : Prop where
  len : O.length = L.length
  lt : ∀ k ∈ O, k < L.length
  all : ∀ k, k < L.length → k ∈ O
  srt : O.Pairwise fun a b => ordC (fa L a) (fa L b) < 0
theorem TInv.nil : TInv [] [] := ⟨rfl, by simp, by simp, .nil⟩
theorem posT_le (L : List Ntr) (O : List Nat) (f : Fct) : posT L O f ≤ O.length := by
  unfold posT
  have := congrArg List.length (List.takeWhile_append_dropWhile (p := ltF L f) (l := O))
  rw [List.length_append] at this; omega
theorem posT_lt (L : List Ntr) (O : List Nat) (f : Fct) (k : Nat) (h : k < O.length) (hk : k < posT L O f) : ordC (fa L O[k]) f < 0 := by
  have h1 := List.takeWhile_append_dropWhile (p := ltF L f) (l := O)
  have h2 : O[k] = (O.takeWhile (ltF L f))[k]'hk := by
    have : O[k]? = (O.takeWhile (ltF L f))[k]? := by
      conv => lhs; rw [← h1]
      rw [List.getElem?_append_left hk]
    rw [List.getElem?_eq_getElem h, List.getElem?_eq_getElem hk] at this
    exact Option.some.inj this
  have h3 : ∀ (l : List Nat), ∀ y ∈ l.takeWhile (ltF L f), ltF L f y = true := by
    intro l
    induction l with
    | nil => simp
    | cons a l ih =>
      intro y hy
      rw [List.takeWhile_cons] at hy
      split at hy
      · rcases List.mem_cons.1 hy with rfl | hy
        · assumption
        · exact ih y hy
      · simp at hy
  have := h3 O _ (h2 ▸ List.getElem_mem hk)
  simpa [ltF] using this
theorem posT_at (L : List Ntr) (O : List Nat) (f : Fct) (h : posT L O f < O.length) : 0 ≤ ordC (fa L (O[posT L O f])) f := by
  have key : ∀ (l : List Nat) (h : (l.takeWhile (ltF L f)).length < l.length), ltF L f (l[(l.takeWhile (ltF L f)).length]) = false := by
    intro l
    induction l with
    | nil => intro h; simp at h
    | cons a l ih =>
      intro h
      cases ha : ltF L f a with
      | true =>
        have e : (a :: l).takeWhile (ltF L f) = a :: l.takeWhile (ltF L f) := by rw [List.takeWhile_cons, ha]; rfl
        simp only [e, List.length_cons, List.getElem_cons_succ]
        exact ih (by rw [e] at h; simpa using h)
      | false =>
        have e : (a :: l).takeWhile (ltF L f) = [] := by rw [List.takeWhile_cons, ha]; rfl
        simp only [e, List.length_nil, List.getElem_cons_zero]
        exact ha
  have := key O h
  simp only [ltF, decide_eq_false_iff_not] at this
  exact Int.not_lt.1 this
theorem TInv.ge {L : List Ntr} {O : List Nat} (hI : TInv L O) (f : Fct) (k : Nat) (h : k < O.length) (hk : posT L O f ≤ k) : 0 ≤ ordC (fa L O[k]) f := by
  have h0 := posT_at L O f (by omega)
  rcases Nat.lt_or_eq_of_le hk with hlt | heq
  · have hp := List.pairwise_iff_getElem.1 hI.srt (posT L O f) k (by omega) h hlt
    rcases Int.lt_or_le (ordC (fa L O[k]) f) 0 with hn | hn
    · have := isOrd.trans _ _ _ hp hn
      omega
    · exact hn
  · subst heq; exact h0
theorem fa_get {L : List Ntr} {k : Nat} (h : k < L.length) : fa L k = L[k].f := by
  rw [fa, List.getD_eq_getElem?_getD, List.getElem?_eq_getElem h]; rfl
theorem hasT_iff {L : List Ntr} {f : Fct} : hasT L f = true ↔ ∃ k, ∃ h : k < L.length, L[k].f = f := by
  simp only [hasT, List.any_eq_true, decide_eq_true_eq]
  constructor
  · rintro ⟨x, hx, h⟩
    obtain ⟨k, hk, rfl⟩ := List.mem_iff_getElem.1 hx
    exact ⟨k, hk, h⟩
  · rintro ⟨k, hk, h⟩
    exact ⟨_, List.getElem_mem hk, h⟩
theorem TInv.found {L : List Ntr} {O : List Nat} (hI : TInv L O) (f : Fct) : hasT L f = decide (∃ h : posT L O f < O.length, ordC (fa L (O[posT L O f])) f = 0) := by
  rw [Bool.eq_iff_iff, decide_eq_true_eq, hasT_iff]
  constructor
  · rintro ⟨k, hk, hf⟩
    obtain ⟨i, hi, hik⟩ := List.mem_iff_getElem.1 (hI.all k hk)
    have h0 : ordC (fa L O[i]) f = 0 := by rw [hik, fa_get hk]; exact (isOrd.zero _ _).2 hf
    rcases Nat.lt_trichotomy i (posT L O f) with h | h | h
    · have := posT_lt L O f i hi h; omega
    · subst h; exact ⟨hi, h0⟩
    · have hp : posT L O f < O.length := by omega
      have h1 := List.pairwise_iff_getElem.1 hI.srt (posT L O f) i hp hi h
      have h2 : fa L O[i] = f := (isOrd.zero _ _).1 h0
      rw [h2] at h1
      have := posT_at L O f hp
      omega
  · rintro ⟨h, h0⟩
    have hk := hI.lt _ (List.getElem_mem h)
    exact ⟨_, hk, by rw [← fa_get hk]; exact (isOrd.zero _ _).1 h0⟩
/-- The number of a fact's entry. -/
def plc : List Ntr → Fct → Int
  | [], _ => -1
  | x :: l, f => if x.f = f then 0 else if plc l f < 0 then -1 else plc l f + 1
theorem plc_none {L : List Ntr} {f : Fct} (h : hasT L f = false) : plc L f = -1 := by
  induction L with
  | nil => rfl
  | cons x l ih =>
    simp only [hasT, List.any_cons, Bool.or_eq_false_iff, decide_eq_false_iff_not] at h
    rw [plc, if_neg h.1, ih h.2]; rfl
theorem plc_at {L : List Ntr} {f : Fct} {k : Nat} (h : k < L.length) (hf : L[k].f = f) (hu : ∀ i (hi : i < L.length), L[i].f = f → i = k) : plc L f = k := by
  induction L generalizing k with
  | nil => simp at h
  | cons x l ih =>
    cases k with
    | zero => simp at hf; rw [plc, if_pos hf]; rfl
    | succ k =>
      have h0 : ¬ x.f = f := fun hx => by have := hu 0 (by simp) (by simpa using hx); omega
      have := ih (k := k) (by simpa using h) (by simpa using hf) (fun i hi h1 => by have := hu (i + 1) (by simpa using hi) (by simpa using h1); omega)
      rw [plc, if_neg h0, this, if_neg (by omega)]; rfl
theorem TInv.uniq {L : List Ntr} {O : List Nat} (hI : TInv L O) {i j : Nat} (hi : i < L.length) (hj : j < L.length) (h : L[i].f = L[j].f) : i = j := by
  obtain ⟨a, ha, hai⟩ := List.mem_iff_getElem.1 (hI.all i hi)
  obtain ⟨b, hb, hbj⟩ := List.mem_iff_getElem.1 (hI.all j hj)
  have hz : ordC (fa L i) (fa L j) = 0 := by rw [fa_get hi, fa_get hj, h]; exact (isOrd.zero _ _).2 rfl
  have hz2 : ordC (fa L j) (fa L i) = 0 := by rw [fa_get hi, fa_get hj, h]; exact (isOrd.zero _ _).2 rfl
  rcases Nat.lt_trichotomy a b with hab | hab | hab
  · have := List.pairwise_iff_getElem.1 hI.srt a b ha hb hab
    rw [hai, hbj] at this; omega
  · subst hab; rw [← hai, ← hbj]
  · have := List.pairwise_iff_getElem.1 hI.srt b a hb ha hab
    rw [hai, hbj] at this; omega
theorem TInv.place {L : List Ntr} {O : List Nat} (hI : TInv L O) {f : Fct} (h : hasT L f = true) : ∃ hp : posT L O f < O.length, plc L f = (O[posT L O f] : Nat) ∧ ∃ hk : O[posT L O f] < L.length, L[O[posT L O f]].f = f := by
  rw [hI.found f, decide_eq_true_eq] at h
  obtain ⟨hp, h0⟩ := h
  have hk := hI.lt _ (List.getElem_mem hp)
  have hf : L[O[posT L O f]].f = f := by rw [← fa_get hk]; exact (isOrd.zero _ _).1 h0
  exact ⟨hp, plc_at hk hf (fun i hi h1 => hI.uniq hi hk (h1.trans hf.symm)), hk, hf⟩
theorem fa_app {L : List Ntr} {x : Ntr} {k : Nat} (h : k < L.length) : fa (L ++ [x]) k = fa L k := by
  rw [fa, fa, List.getD_eq_getElem?_getD, List.getD_eq_getElem?_getD, List.getElem?_append_left h]
theorem fa_last {L : List Ntr} {x : Ntr} : fa (L ++ [x]) L.length = x.f := by
  rw [fa, List.getD_eq_getElem?_getD, List.getElem?_append_right (Nat.le_refl _), Nat.sub_self]; rfl
def insT (L : List Ntr) (O : List Nat) (f : Fct) : List Nat := O.take (posT L O f) ++ [L.length] ++ O.drop (posT L O f)
theorem TInv.enter {L : List Ntr} {O : List Nat} (hI : TInv L O) {x : Ntr} (h : hasT L x.f = false) : TInv (L ++ [x]) (insT L O x.f) := by
  have hmem : ∀ k, k ∈ insT L O x.f ↔ k = L.length ∨ k ∈ O := by
    intro k
    have : O = O.take (posT L O x.f) ++ O.drop (posT L O x.f) := (List.take_append_drop _ _).symm
    constructor
    · intro hk
      simp only [insT, List.mem_append, List.mem_singleton] at hk
      rcases hk with (hk | hk) | hk
      · exact .inr (List.mem_of_mem_take hk)
      · exact .inl hk
      · exact .inr (List.mem_of_mem_drop hk)
    · intro hk
      simp only [insT, List.mem_append, List.mem_singleton]
      rcases hk with hk | hk
      · exact .inl (.inr hk)
      · rw [this, List.mem_append] at hk
        rcases hk with hk | hk
        · exact .inl (.inl hk)
        · exact .inr hk
  have hno : ∀ k ∈ O, ordC (fa L k) x.f ≠ 0 := fun k hk h0 => by
    have hl := hI.lt k hk
    have : hasT L x.f = true := hasT_iff.2 ⟨k, hl, by rw [← fa_get hl]; exact (isOrd.zero _ _).1 h0⟩
    rw [h] at this; cases this
  refine ⟨?_, ?_, ?_, ?_⟩
  · simp only [insT, List.length_append, List.length_take, List.length_drop, List.length_singleton, ← hI.len]
    have := posT_le L O x.f
    omega
  · intro k hk
    rw [List.length_append, List.length_singleton]
    rcases (hmem k).1 hk with rfl | hk
    · omega
    · have := hI.lt k hk; omega
  · intro k hk
    rw [List.length_append, List.length_singleton] at hk
    rw [hmem]
    by_cases hkl : k < L.length
    · exact .inr (hI.all k hkl)
    · exact .inl (by omega)
  · have htd := List.take_append_drop (posT L O x.f) O
    have hs := hI.srt
    rw [← htd, List.pairwise_append] at hs
    obtain ⟨s1, s2, s3⟩ := hs
    have hT : ∀ k ∈ O.take (posT L O x.f), k ∈ O ∧ ordC (fa L k) x.f < 0 := fun k hk => by
      obtain ⟨i, hi, rfl⟩ := List.mem_iff_getElem.1 hk
      have hi' := hi
      rw [List.length_take] at hi'
      refine ⟨List.mem_of_mem_take hk, ?_⟩
      rw [List.getElem_take]
      exact posT_lt L O x.f i (by omega) (by omega)
    have hD : ∀ k ∈ O.drop (posT L O x.f), k ∈ O ∧ ordC x.f (fa L k) < 0 := fun k hk => by
      obtain ⟨i, hi, rfl⟩ := List.mem_iff_getElem.1 hk
      have hi' := hi
      rw [List.length_drop] at hi'
      refine ⟨List.mem_of_mem_drop hk, ?_⟩
      rw [List.getElem_drop]
      have h1 := hI.ge x.f (posT L O x.f + i) (by omega) (by omega)
      have h2 := hno (O[posT L O x.f + i]'(by omega)) (List.getElem_mem _)
      exact (isOrd.anti _ _).2 (by omega)
    have cv : ∀ {a b}, a ∈ O → b ∈ O → ordC (fa L a) (fa L b) < 0 → ordC (fa (L ++ [x]) a) (fa (L ++ [x]) b) < 0 := fun ha hb h => by
      rw [fa_app (hI.lt _ ha), fa_app (hI.lt _ hb)]; exact h
    rw [insT, List.append_assoc, List.pairwise_append]
    refine ⟨s1.imp_of_mem fun ha hb h => cv (hT _ ha).1 (hT _ hb).1 h, ?_, ?_⟩
    · rw [List.singleton_append, List.pairwise_cons]
      refine ⟨fun k hk => ?_, s2.imp_of_mem fun ha hb h => cv (hD _ ha).1 (hD _ hb).1 h⟩
      rw [fa_last, fa_app (hI.lt _ (hD _ hk).1)]
      exact (hD _ hk).2
    · intro a ha b hb
      rw [List.singleton_append, List.mem_cons] at hb
      rcases hb with rfl | hb
      · rw [fa_last, fa_app (hI.lt _ (hT _ ha).1)]; exact (hT _ ha).2
      · exact cv (hT _ ha).1 (hD _ hb).1 (s3 a ha b hb)
end Go.Proofs.YtdbicadncccpoaaGreat
