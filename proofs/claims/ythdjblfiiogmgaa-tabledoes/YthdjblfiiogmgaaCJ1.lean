/- Parts of the proof: Insert, InsertI, Ins0, FOrd. -/
import Derived.Test.YthdjblfiiogmgaaCJ0
set_option linter.unusedVariables false
set_option linter.unusedSimpArgs false
set_option maxRecDepth 100000
namespace Go.Proofs.Ythdjblfiiogmgaa
open Go Go.ChangeShapes Go.WideShapes
/-! slices.Insert: one element, into a row of the call's own; what it makes is laid for good. -/
/-- .. the row behind it. -/
def insO (sz n : Nat) (ys : List D) (v : AV) (r' : Rs) : Prop := (∃ (c : Nat) (zs : List D), n < c + 1 ∧ zs.length + ys.length = c * sz ∧ v = .csl 0 0 sz n c ∧ r' = [some (.obj ((ys ++ zs).map .d)), none]) ∨ (∃ (c : Nat) (zs : List D), n < c + 1 ∧ zs.length + ys.length = c * sz ∧ v = .csl 2 0 sz n c ∧ r' = [none, none, some (.obj ((ys ++ zs).map .d))])
theorem insO_lay {sz n : Nat} {ys : List D} (hy : ys.length = n * sz) (h0 : 0 < n) {f : FuncId} {P : Program} {G : GR} {args : List AV} {r : Rs} (hr : r.length ≤ 2) (h : AC P G f args r (insO sz n ys)) : AC P G f args r (fun v r' => v = .d (.sl sz n ys) ∧ r' = [none, none]) := by
  have h1 : AC P G f args r (fun v r' => v = .d (.sl sz n ys) ∧ (r' = [none, none] ∨ r' = [none, none, none])) := by
    refine h.lay fun v r' hv => ?_
    rcases hv with ⟨c, zs, hc, hz, hv, hr⟩ | ⟨c, zs, hc, hz, hv, hr⟩
    · refine ⟨0, (ys ++ zs).map .d, ys ++ zs, by rw [hr]; rfl, allD_map _, ?_⟩
      rw [hv, hr]
      refine ⟨?_, .inl rfl⟩
      simp only [fzA]
      rw [if_pos ⟨trivial, by omega⟩, List.drop_zero, ← hy, List.take_left]
    · refine ⟨2, (ys ++ zs).map .d, ys ++ zs, by rw [hr]; rfl, allD_map _, ?_⟩
      rw [hv, hr]
      refine ⟨?_, .inr rfl⟩
      simp only [fzA]
      rw [if_pos ⟨trivial, by omega⟩, List.drop_zero, ← hy, List.take_left]
  refine ⟨h1.1, fun E w vals hG hA => (h1.2 E w vals hG hA).mono fun e w' ⟨v, x, r', E', he, ho, k1, k2, k3⟩ => ?_⟩
  have hW : WeakR r' [none, none] := by
    rcases ho.2 with rfl | rfl
    · exact ⟨by simp, fun i x hx => by
        match i, hx with
        | 0, hx => simp at hx
        | 1, hx => simp at hx
        | i + 2, hx => simp at hx⟩
    · exact ⟨by simp, fun i x hx => by
        match i, hx with
        | 0, hx => simp at hx
        | 1, hx => simp at hx
        | i + 2, hx => simp at hx⟩
  rw [ho.1] at k1
  exact ⟨.d (.sl sz n ys), x, [none, none], E', he, ⟨rfl, rfl⟩, RA_weak hW _ x rfl k1, k2.weak hW rfl, k3.weak hW hr⟩
/-! What the row holds, step by step. -/
theorem tk_app {α : Type} {A B : List α} {a : Nat} (h : A.length = a) : (A ++ B).take a = A := by subst h; exact List.take_left
theorem dr_app {α : Type} {A B : List α} {a : Nat} (h : A.length = a) : (A ++ B).drop a = B := by subst h; exact List.drop_left
theorem dr_app2 {α : Type} {A B : List α} {a c : Nat} (h : A.length = a) : (A ++ B).drop (a + c) = B.drop c := by rw [← List.drop_drop, dr_app h]
theorem in1 {α : Type} {A B Z : List α} {a b s : Nat} (ha : A.length = a) (hb : B.length = b) : (A ++ B ++ Z).take (a + s) ++ ((A ++ B ++ Z).drop a).take b ++ (A ++ B ++ Z).drop (a + s + b) = (A ++ B ++ Z).take (a + s) ++ B ++ Z.drop s := by
  have h1 : ((A ++ B ++ Z).drop a).take b = B := by rw [List.append_assoc, dr_app ha, tk_app hb]
  have h2 : (A ++ B ++ Z).drop (a + s + b) = Z.drop s := by
    rw [show a + s + b = (a + b) + s by omega, dr_app2 (by rw [List.length_append, ha, hb])]
  rw [h1, h2]
theorem in2 {α : Type} {A B Z x : List α} {a b s : Nat} (ha : A.length = a) (hb : B.length = b) (hs : s ≤ Z.length) : ((A ++ B ++ Z).take (a + s) ++ B ++ Z.drop s).take a ++ x ++ ((A ++ B ++ Z).take (a + s) ++ B ++ Z.drop s).drop (a + s) = A ++ x ++ B ++ Z.drop s := by
  have hl : ((A ++ B ++ Z).take (a + s)).length = a + s := by rw [List.length_take, List.length_append, List.length_append]; omega
  have h1 : ((A ++ B ++ Z).take (a + s) ++ B ++ Z.drop s).take a = A := by
    rw [List.append_assoc, List.take_append_of_le_length (by omega), List.take_take, Nat.min_eq_left (by omega), List.append_assoc, tk_app ha]
  have h2 : ((A ++ B ++ Z).take (a + s) ++ B ++ Z.drop s).drop (a + s) = B ++ Z.drop s := by rw [List.append_assoc, dr_app hl]
  rw [h1, h2, List.append_assoc]; simp
theorem gr1 {α : Type} {A Y x : List α} {a s : Nat} (ha : A.length = a) : (A ++ Y).take a ++ x ++ (A ++ Y).drop (a + s) = A ++ x ++ Y.drop s := by rw [tk_app ha, dr_app2 ha]
theorem gr2 {α : Type} {A B Y x R : List α} {a b s : Nat} (ha : A.length = a) (hb : B.length = b) (hs : x.length = s) (hY : s ≤ Y.length) (hR : R = A ++ B) : (A ++ x ++ Y.drop s).take (a + s) ++ (R.drop a).take b ++ (A ++ x ++ Y.drop s).drop (a + s + b) = A ++ x ++ B ++ Y.drop (s + b) := by
  have hl : (A ++ x).length = a + s := by rw [List.length_append, ha, hs]
  have h3 : B.take b = B := List.take_of_length_le (by omega)
  rw [hR, dr_app ha, h3, tk_app hl, show a + s + b = (a + s) + b from rfl, dr_app2 hl, List.drop_drop]
theorem ia1 {α : Type} {A Z x : List α} {a s : Nat} (ha : A.length = a) : (A ++ Z).take a ++ x ++ (A ++ Z).drop (a + s) = A ++ x ++ Z.drop s := by rw [tk_app ha, dr_app2 ha]
theorem src_x {sz : Nat} {x : List D} (hx : x.length = sz) (h0 : 0 < sz) {a : Option Res} {r : Rs} : srcOf (a :: some (.obj (x.map .d)) :: r) sz (.osl 1 0 sz 1) = some (1, x) := by
  have h1 : (x.map AV.d).take sz = x.map .d := List.take_of_length_le (by rw [List.length_map]; omega)
  simp only [srcOf, objOf, List.getElem?_cons_succ, List.getElem?_cons_zero, List.drop_zero, Nat.one_mul, h1, allD_map]
  rw [if_pos ⟨trivial, by omega⟩]; rfl
set_option maxHeartbeats 400000 in
theorem insF_ac (n i k : Nat) (A B zs x : List D) (hA : A.length = i * 4) (hB : B.length = (n - i) * 4) (hz : zs.length = k * 4) (hx : x.length = 4) (h0 : 0 < n) (hi : i ≤ n) (h : n ≤ 1000000) :
    AC Try.prog noG 56 [.csl 0 0 4 n (n + k), .d (.c (.int .i64 i)), .osl 1 0 4 1] [some (.obj ((A ++ B ++ zs).map .d)), some (.obj (x.map .d))] (insO 4 (n + 1) (A ++ x ++ B)) := by
  refine AC.fit ?_
  refine AC_of_R (N := 95) (res := [.tmp 6]) tyL_ok Try.call56 Try.func56 rfl rfl rfl (Nat.le_of_ble_eq_true rfl) ?_
  have hrl : ((A ++ B ++ zs).map AV.d).length = (n + k) * 4 := by rw [List.length_map, List.length_append, List.length_append, hA, hB, hz]; omega
  by_cases hin : i = n
  · have hin2 : (i : Int) = n := by omega
    have hB0 : B = [] := List.eq_nil_of_length_eq_zero (by rw [hB, hin]; omega)
    subst hB0
    rw [hin] at hA
    refine rn1 @hin2 ?_
    refine ⟨by omega, ?_⟩
    refine HO_appC tyL_ok (e := 32) (sz := 4) (m := 1) (ys := x) (l := (A ++ zs).map .d) (l1 := (A ++ x ++ zs.drop 4).map .d) (l2 := fun k => (A ++ x ++ repD zFc k).map .d) (zl := zFc.map .d) rfl rfl (src_x hx (by decide)) rfl (by omega) (by simp only [ST]) (by simp only [ST]; rfl) ⟨by simp only [ST], by simp only [ST]⟩ (by simp only [ST]; rfl) (by decide) (by decide) (by omega) (by simp only [ST]; omega) (by kernel_rfl) rfl (fun hc => ?_) (fun k => ?_) (fun hc => ?_) (fun hc k2 => ?_)
    · skip
      simp only [← List.map_take, ← List.map_drop, ← List.map_append]
      rw [ia1 hA]
    · rw [repA_map]
      simp only [← List.map_take, ← List.map_drop, ← List.map_append]
      rw [tk_app hA]
    · refine rn0 ?_
      refine ⟨_, _, [0,1], [], (.inl ⟨n + k, zs.drop 4, by omega, by simp only [List.length_append, List.length_drop]; omega, rfl, rfl⟩), ⟨?_, (by first | (simp only [wfSt, wfRs, wfL, wfA, wfM, wfL_append, wfL_map_d, Bool.and_true, Bool.and_self, decide_true, Nat.reduceLT, Nat.reduceAdd, List.length_cons, List.length_nil, Nat.zero_add]; done) | rfl), ?_, (by first | (simp only [wfSt, wfRs, wfL, wfA, wfM, wfL_append, wfL_map_d, Bool.and_true, Bool.and_self, decide_true, Nat.reduceLT, Nat.reduceAdd, List.length_cons, List.length_nil, Nat.zero_add]; done) | rfl), rfl, rfl⟩⟩ <;> exact fitT
    · refine rn0 ?_
      refine ⟨_, _, [0,1,2], [], (.inr ⟨n + 1 + k2, repD zFc k2, by omega, by simp only [List.length_append, repD_len]; simp only [zFc, List.length_cons, List.length_nil]; omega, rfl, rfl⟩), ⟨?_, (by first | (simp only [wfSt, wfRs, wfL, wfA, wfM, wfL_append, wfL_map_d, Bool.and_true, Bool.and_self, decide_true, Nat.reduceLT, Nat.reduceAdd, List.length_cons, List.length_nil, Nat.zero_add]; done) | rfl), ?_, (by first | (simp only [wfSt, wfRs, wfL, wfA, wfM, wfL_append, wfL_map_d, Bool.and_true, Bool.and_self, decide_true, Nat.reduceLT, Nat.reduceAdd, List.length_cons, List.length_nil, Nat.zero_add]; done) | rfl), rfl, rfl⟩⟩ <;> exact fitT
  · have hin2 : ¬ (i : Int) = n := by omega
    refine rn1 @hin2 ?_
    refine ⟨by omega, ?_⟩
    refine HO_capC tyL_ok rfl rfl (by simp only [ST]; rfl) (by kernel_rfl) ?_
    have e1 : ((n : Int) + ((1 : Nat) : Int)).toNat = n + 1 := by omega
    have e2 : (n : Int) + ((1 : Nat) : Int) - i = ((n + 1 - i : Nat) : Int) := by omega
    have e3 : ((i : Int) + ((1 : Nat) : Int)).toNat = i + 1 := by omega
    by_cases hk0 : k = 0
    · subst hk0
      have hz0 : zs = [] := List.eq_nil_of_length_eq_zero (by omega)
      subst hz0
      have hcap : ((n : Int) + 1 > ((n + 0 : Nat) : Int)) := by omega
      refine rn1 (jn @hcap (jn @e1 (jn @e2 @e3))) ?_
      refine ⟨by omega, ?_⟩
      rw [List.append_nil] at hrl
      refine HO_appZ tyL_ok (e := 32) (sz := 4) (q := n + 1 - i) (l := (A ++ B).map .d) (l2 := fun k => (A ++ (repD zFc (n + 1 - i) ++ repD zFc k)).map .d) (zl := zFc.map .d) rfl rfl rfl rfl (by omega) (by simp only [ST]) (by simp only [ST]) ⟨by simp only [ST], by simp only [ST]⟩ (by simp only [ST]; rfl) (by decide) (by omega) (by omega) (by omega) (by simp only [ST]; omega) (by kernel_rfl) rfl (fun k => ?_) (fun k2 => ?_)
      · rw [repA_map, repA_map]
        simp only [← List.map_take, ← List.map_drop, ← List.map_append]
        rw [tk_app hA, List.append_assoc]
      have hY : (repD zFc (n + 1 - i) ++ repD zFc k2).length = (n + 1 - i + k2) * 4 := by rw [List.length_append, repD_len, repD_len]; simp only [zFc, List.length_cons, List.length_nil]; omega
      generalize repD zFc (n + 1 - i) ++ repD zFc k2 = Y at *
      have e4 : i + (n + 1 - i) = n + 1 := by omega
      refine rn1 (jn @e1 (jn @e2 (jn @e3 @e4))) ?_
      refine ⟨by omega, ?_⟩
      have hYs : 4 ≤ Y.length := by omega
      have hYs2 : 4 + (n - i) * 4 ≤ Y.length := by omega
      refine HO_copyCD tyL_ok (e := 32) (m := 1) (k := 1) (ys := x) (l := (A ++ Y).map .d) (l' := (A ++ x ++ Y.drop 4).map .d) rfl rfl (src_x hx (by decide)) rfl (by simp only [ST]) ⟨by simp only [ST], by simp only [ST]⟩ (by omega) (Nat.min_eq_left (by omega)) rfl ?_ (by kernel_rfl) rfl ?_
      · skip
        simp only [← List.map_take, ← List.map_drop, ← List.map_append]
        rw [gr1 hA]
      refine rn0 ?_
      refine HC_plan [] tyL_ok mix (by kernel_rfl) ?_
      refine rn1 (jn @e1 (jn @e2 (jn @e3 @e4))) ?_
      refine ⟨by omega, by omega, ?_⟩
      have h4 : (i + 1) * 4 = i * 4 + 4 := by omega
      refine HO_copyCC tyL_ok (e := 32) (k := n - i) (l := (A ++ x ++ Y.drop 4).map .d) (l2 := (A ++ B).map .d) (l' := (A ++ x ++ B ++ Y.drop (4 + (n - i) * 4)).map .d) rfl rfl rfl rfl rfl (by simp only [ST]) ⟨by simp only [ST], by simp only [ST]⟩ (by omega) (by omega) (Nat.min_eq_left (by omega)) ?_ (by kernel_rfl) rfl ?_
      · rw [h4]
        simp only [← List.map_take, ← List.map_drop, ← List.map_append]
        rw [gr2 hA hB hx hYs rfl]
      refine rn0 ?_
      refine ⟨_, _, [0,1,2], [], (.inr ⟨n + 1 + k2, Y.drop (4 + (n - i) * 4), by omega, by simp only [List.length_append, List.length_drop]; omega, rfl, rfl⟩), ⟨?_, (by first | (simp only [wfSt, wfRs, wfL, wfA, wfM, wfL_append, wfL_map_d, Bool.and_true, Bool.and_self, decide_true, Nat.reduceLT, Nat.reduceAdd, List.length_cons, List.length_nil, Nat.zero_add]; done) | rfl), ?_, (by first | (simp only [wfSt, wfRs, wfL, wfA, wfM, wfL_append, wfL_map_d, Bool.and_true, Bool.and_self, decide_true, Nat.reduceLT, Nat.reduceAdd, List.length_cons, List.length_nil, Nat.zero_add]; done) | rfl), rfl, rfl⟩⟩ <;> exact fitT
    · have hcap : ¬ ((n : Int) + 1 > ((n + k : Nat) : Int)) := by omega
      refine rn1 (jn @hcap (jn @e1 (jn @e2 @e3))) ?_
      refine ⟨by omega, by omega, ?_⟩
      refine HO_overlaps tyL_ok (fn := Try.f83) (tS := 22) (tR := 4) (e := 32) (l := x.map .d) (l2 := (A ++ B ++ zs).map .d) rfl rfl Try.func83 rfl rfl rfl rfl (by simp only [ST]) (by simp only [ST]) rfl rfl rfl rfl (by decide) (by decide) (by omega) (by omega) (by kernel_rfl) ?_
      refine rn1 (jn @e1 (jn @e2 @e3)) ?_
      refine HC_plan [] tyL_ok mix (by kernel_rfl) ?_
      refine rn1 (jn @e1 (jn @e2 @e3)) ?_
      refine ⟨by omega, by omega, ?_⟩
      have h4 : (i + 1) * 4 = i * 4 + 4 := by omega
      have hzs : 4 ≤ zs.length := by omega
      refine HO_copyCC tyL_ok (e := 32) (k := n - i) (l := (A ++ B ++ zs).map .d) (l2 := (A ++ B ++ zs).map .d) (l' := ((A ++ B ++ zs).take (i * 4 + 4) ++ B ++ zs.drop 4).map .d) rfl rfl rfl rfl rfl (by simp only [ST]) ⟨by simp only [ST], by simp only [ST]⟩ (by omega) (by omega) (by show min _ _ = _; omega) ?_ (by kernel_rfl) rfl ?_
      · rw [h4]
        simp only [← List.map_take, ← List.map_drop, ← List.map_append]
        rw [in1 hA hB]
      refine rn1 (jn @e1 (jn @e2 @e3)) ?_
      refine ⟨by omega, ?_⟩
      refine HO_copyCD tyL_ok (e := 32) (m := 1) (k := 1) (ys := x) (l := ((A ++ B ++ zs).take (i * 4 + 4) ++ B ++ zs.drop 4).map .d) (l' := (A ++ x ++ B ++ zs.drop 4).map .d) rfl rfl (src_x hx (by decide)) rfl (by simp only [ST]) ⟨by simp only [ST], by simp only [ST]⟩ (by omega) (Nat.min_eq_left (by omega)) rfl ?_ (by kernel_rfl) rfl ?_
      · skip
        simp only [← List.map_take, ← List.map_drop, ← List.map_append]
        rw [in2 hA hB hzs]
      refine rn0 ?_
      refine ⟨_, _, [0,1], [], (.inl ⟨n + k, zs.drop 4, by omega, by simp only [List.length_append, List.length_drop]; omega, rfl, rfl⟩), ⟨?_, (by first | (simp only [wfSt, wfRs, wfL, wfA, wfM, wfL_append, wfL_map_d, Bool.and_true, Bool.and_self, decide_true, Nat.reduceLT, Nat.reduceAdd, List.length_cons, List.length_nil, Nat.zero_add]; done) | rfl), ?_, (by first | (simp only [wfSt, wfRs, wfL, wfA, wfM, wfL_append, wfL_map_d, Bool.and_true, Bool.and_self, decide_true, Nat.reduceLT, Nat.reduceAdd, List.length_cons, List.length_nil, Nat.zero_add]; done) | rfl), rfl, rfl⟩⟩ <;> exact fitT
end Go.Proofs.Ythdjblfiiogmgaa

set_option linter.unusedVariables false
set_option linter.unusedSimpArgs false
set_option maxRecDepth 100000
namespace Go.Proofs.Ythdjblfiiogmgaa
open Go Go.ChangeShapes Go.WideShapes
end Go.Proofs.Ythdjblfiiogmgaa

set_option linter.unusedVariables false
set_option linter.unusedSimpArgs false
set_option maxRecDepth 100000
namespace Go.Proofs.Ythdjblfiiogmgaa
open Go Go.ChangeShapes Go.WideShapes
/-! .. of a slice without elements. -/
theorem cloneF_0 : AC Try.prog noG 57 [.d (.sl 4 0 [])] [] (fun v r' => v = .sl .full 4 0 [] ∧ r' = []) := by
  skip
  refine AC.empty ?_
  intro A c
  refine AC.fit ?_
  refine AC_of_R (N := 8) (res := [.tmp 2]) tyL_ok Try.call57 Try.func57 rfl rfl rfl (Nat.le_of_ble_eq_true rfl) ?_
  cases A with
  | none =>
    refine rn0 ?_
    exact fv0 [] []
  | some a =>
    refine rn0 ?_
    refine HO_app0 tyL_ok (e := 32) (sz := 4) rfl (by simp only [ST]) (by simp only [ST]; rfl) ⟨by simp only [ST], by simp only [ST]⟩ rfl rfl (by kernel_rfl) ?_
    refine rn0 ?_
    exact fv0 [] []
theorem cloneC_0 : AC Try.prog noG 55 [.d (.sl 3 0 [])] [] (fun v r' => v = .sl .full 3 0 [] ∧ r' = []) := by
  skip
  refine AC.empty ?_
  intro A c
  refine AC.fit ?_
  refine AC_of_R (N := 8) (res := [.tmp 2]) tyL_ok Try.call55 Try.func55 rfl rfl rfl (Nat.le_of_ble_eq_true rfl) ?_
  cases A with
  | none =>
    refine rn0 ?_
    exact fv0 [] []
  | some a =>
    refine rn0 ?_
    refine HO_app0 tyL_ok (e := 85) (sz := 3) rfl (by simp only [ST]) (by simp only [ST]; rfl) ⟨by simp only [ST], by simp only [ST]⟩ rfl rfl (by kernel_rfl) ?_
    refine rn0 ?_
    exact fv0 [] []
theorem AC.nones {f : FuncId} {P : Program} {G : GR} {args : List AV} {r : Rs} {y : D} (m : Nat) (hm : r.length ≤ m) (h : AC P G f args r (fun v r' => v = .d y ∧ m ≤ r'.length ∧ ∀ x ∈ r', x = none)) : AC P G f args r (fun v r' => v = .d y ∧ r' = List.replicate m (none : Option Res)) := by
  refine ⟨h.1, fun E w vals hG hA => (h.2 E w vals hG hA).mono fun e w' ⟨v, x, r', E', he, ⟨ho, hl, hn⟩, k1, k2, k3⟩ => ?_⟩
  have hW : WeakR r' (List.replicate m (none : Option Res)) := ⟨by simpa using hl, fun i x hx => by
    rw [List.getElem?_replicate] at hx
    split at hx <;> simp at hx⟩
  have hwf : ∀ k, wfRs (List.replicate m (none : Option Res)).length (List.replicate k none) = true := by
    intro k; induction k with
    | zero => rfl
    | succ k ih => exact ih
  subst ho
  exact ⟨.d y, x, _, E', he, ⟨rfl, rfl⟩, RA_weak hW _ x rfl k1, k2.weak hW (hwf m), k3.weak hW (by simpa using hm)⟩
theorem src_x0 {sz : Nat} {x : List D} (hx : x.length = sz) (h0 : 0 < sz) {r : Rs} : srcOf (some (.obj (x.map .d)) :: r) sz (.osl 0 0 sz 1) = some (1, x) := by
  have h1 : (x.map AV.d).take sz = x.map .d := List.take_of_length_le (by rw [List.length_map]; omega)
  simp only [srcOf, objOf, List.getElem?_cons_succ, List.getElem?_cons_zero, List.drop_zero, Nat.one_mul, h1, allD_map]
  rw [if_pos ⟨trivial, by omega⟩]; rfl
theorem one_lay {sz : Nat} {x : List D} (hx : x.length = sz) {f : FuncId} {P : Program} {G : GR} {args : List AV} {r : Rs} (hr : r.length ≤ 1) (h : AC P G f args r (fun v r' => ∃ (k : Nat) (zs : List D), v = .csl 1 0 sz 1 (1 + k) ∧ r' = [none, some (.obj ((x ++ zs).map .d))])) : AC P G f args r (fun v r' => v = .d (.sl sz 1 x) ∧ r' = [none]) := by
  refine AC.nones (y := .sl sz 1 x) 1 hr (h.lay fun v r' ⟨k, zs, hv, hr⟩ => ⟨1, (x ++ zs).map .d, x ++ zs, by rw [hr]; rfl, allD_map _, ?_⟩)
  rw [hv, hr]
  refine ⟨?_, by simp, by simp⟩
  simp only [fzA]
  rw [if_pos ⟨trivial, by omega⟩, List.drop_zero, Nat.one_mul, ← hx, List.take_left]
set_option maxHeartbeats 400000 in
theorem insF_0 (x : List D) (hx : x.length = 4) : AC Try.prog noG 56 [.sl .full 4 0 [], .d (.c (.int .i64 0)), .osl 0 0 4 1] [some (.obj (x.map .d))] (fun v r' => v = .d (.sl 4 1 x) ∧ r' = [none]) := by
  skip
  refine one_lay hx (by simp) ?_
  refine AC.fit ?_
  refine AC_of_R (N := 95) (res := [.tmp 6]) tyL_ok Try.call56 Try.func56 rfl rfl rfl (Nat.le_of_ble_eq_true rfl) ?_
  refine rn0 ?_
  (repeat (refine And.intro (by omega) ?_))
  refine HO_appE tyL_ok (e := 32) (sz := 4) (m := 1) (ys := x) (zl := zFc.map .d) rfl (by simp only [ST]) (by simp only [ST]; rfl) ⟨by simp only [ST], by simp only [ST]⟩ rfl (src_x0 hx (by decide)) (by simp only [ST]; rfl) (by decide) (by decide) (by omega) (by simp only [ST]; omega) (by kernel_rfl) fun k => ?_
  refine rn0 ?_
  simp only [repA_map, ← List.map_append]
  refine ⟨_, _, [0, 1], [], ⟨k, repD zFc k, rfl, rfl⟩, ⟨?_, (by first | (simp only [wfSt, wfRs, wfL, wfA, wfM, wfL_append, wfL_map_d, Bool.and_true, Bool.and_self, decide_true, Nat.reduceLT, Nat.reduceAdd, List.length_cons, List.length_nil, Nat.zero_add]; done) | rfl), ?_, (by first | (simp only [wfSt, wfRs, wfL, wfA, wfM, wfL_append, wfL_map_d, Bool.and_true, Bool.and_self, decide_true, Nat.reduceLT, Nat.reduceAdd, List.length_cons, List.length_nil, Nat.zero_add]; done) | rfl), rfl, rfl⟩⟩ <;> exact fitT
end Go.Proofs.Ythdjblfiiogmgaa

set_option linter.unusedVariables false
set_option linter.unusedSimpArgs false
set_option maxRecDepth 100000
namespace Go.Proofs.Ythdjblfiiogmgaa
open Go Go.ChangeShapes Go.WideShapes
/-! The program's order of facts, and the library's search by it. -/
def cpaSt (l m : List Cst) (i : Nat) : List (Nat × AV) := [(0, .d (.sl 3 l.length (flatE cstE l))), (1, .d (.sl 3 m.length (flatE cstE m))), (2, .fn (.func 77) [] []), (11, .d (.sl 3 l.length (flatE cstE l))), (12, .d (.c (.int .i64 l.length))), (13, .d (.c (.int .i64 i)))]
set_option maxHeartbeats 400000 in
theorem cmpA_ac (l m : List Cst) (hl : l.length ≤ 140737488352000) (hm : m.length ≤ 140737488352000) : AC Try.prog noG 96
    [.d (.sl 3 l.length (flatE cstE l)), .d (.sl 3 m.length (flatE cstE m)), .fn (.func 77) [] []] [] (fun v r' => v = .d (.c (.int .i64 (argC l m))) ∧ r' = []) := by
  refine AC.pure ?_ (by rintro v rfl; rfl)
  refine AC_of_R (N := 39) (res := [.tmp 6]) ty_ok Try.call96 Try.func96 rfl rfl rfl (Nat.le_of_ble_eq_true rfl) ?_
  refine rn0 ?_
  refine HC_loopR (cpaSt l m) (fun _ => []) (fun i => i ≤ l.length ∧ i ≤ m.length ∧ argC (l.drop i) (m.drop i) = argC l m) (fun i => l.length - i) 0 [] [] ⟨by omega, by omega, rfl⟩ ?_ ?_
  · exact ft1 @cpaSt.eq_1
  intro i ⟨hi1, hi2, hi3⟩
  refine HC_of_R ty_ok ?_
  by_cases hlt : i < l.length
  · have hi : (i : Int) < l.length := by omega
    have hd := flatE_drop cstE_len l i hlt
    have hle := flatE_len cstE_len l
    by_cases hlt' : i < m.length
    · have hi' : ¬ (i : Int) ≥ m.length := by omega
      have hi'' : (i : Int) < m.length := by omega
      have hd2 := flatE_drop cstE_len m i hlt'
      have hle2 := flatE_len cstE_len m
      rw [List.drop_eq_getElem_cons hlt, List.drop_eq_getElem_cons hlt', argC] at hi3
      have hg := fcmp_ac l[i] m[i]
      generalize l[i] = c at *
      generalize m[i] = d at *
      simp only [cstE, List.cons_append, List.nil_append] at hd hd2
      refine rn1 (jn @cpaSt.eq_1 (jn @hi (jn @hi' (jn @hi'' (jn @hd (jn @hle (jn @hd2 (jn @hle2 @cstE.eq_1)))))))) ?_
      (repeat (refine And.intro (by omega) ?_))
      refine HO_pureA ty_ok hg ?_
      by_cases hc : cstC c d = 0
      · rw [if_pos hc] at hi3
        refine rn1 @hc ?_
        (repeat (refine And.intro (by omega) ?_))
        refine ⟨i + 1, ⟨by omega, by omega, hi3⟩, by omega, [], [], ?_⟩
        exact ft1 @cpaSt.eq_1
      · rw [if_neg hc] at hi3
        refine rn1 @hc ?_
        rw [hi3]
    · have hi' : (i : Int) ≥ m.length := by omega
      have hz : m.drop i = [] := List.drop_of_length_le (by omega)
      rw [List.drop_eq_getElem_cons hlt, hz, argC] at hi3
      generalize l[i] = c at *
      simp only [cstE, List.cons_append, List.nil_append] at hd
      refine rn1 (jn @cpaSt.eq_1 (jn @hi (jn @hi' (jn @hd (jn @hle @cstE.eq_1))))) ?_
      rw [← hi3]
      exact ⟨by omega, rfl⟩
  · have hi : ¬ (i : Int) < l.length := by omega
    by_cases hm2 : i < m.length
    · have hi' : (l.length : Int) < m.length := by omega
      rw [List.drop_of_length_le (by omega), List.drop_eq_getElem_cons hm2, argC] at hi3
      refine rn1 (jn @cpaSt.eq_1 (jn @hi @hi')) ?_
      rw [← hi3]
    · have hi' : ¬ (l.length : Int) < m.length := by omega
      rw [List.drop_of_length_le (by omega), List.drop_of_length_le (by omega), argC] at hi3
      refine rn1 (jn @cpaSt.eq_1 (jn @hi @hi')) ?_
      rw [← hi3]
theorem orV_ord (f g : Fct) : orV [txC f.a g.a, txC f.b g.b, txC f.p g.p, argC f.l g.l] = ordC f g := by
  unfold ordC
  simp only [orV]
  by_cases h1 : f.a = g.a
  · rw [if_pos h1, if_pos (txC_zero.2 h1)]
    by_cases h2 : f.b = g.b
    · rw [if_pos h2, if_pos (txC_zero.2 h2)]
      by_cases h3 : f.p = g.p
      · rw [if_pos h3, if_pos (txC_zero.2 h3)]
        split
        · rename_i h; exact h.symm
        · rfl
      · rw [if_neg h3, if_neg (fun h => h3 (txC_zero.1 h))]
    · rw [if_neg h2, if_neg (fun h => h2 (txC_zero.1 h))]
  · rw [if_neg h1, if_neg (fun h => h1 (txC_zero.1 h))]
set_option maxHeartbeats 400000 in
theorem ford_ac (f g : Fct) (hf : f.l.length ≤ 140737488352000) (hg : g.l.length ≤ 140737488352000) : AC Try.prog noG 82 [.d (.agg (fctE f)), .d (.agg (fctE g))] [] (fun v r' => v = .d (.c (.int .i64 (ordC f g))) ∧ r' = []) := by
  refine AC.pure ?_ (by rintro v rfl; rfl)
  refine AC_of_R (N := 27) (res := [.tmp 4]) ty_ok Try.call82 Try.func82 rfl rfl rfl (Nat.le_of_ble_eq_true rfl) ?_
  rw [← orV_ord]
  have ko := or_ac [txC f.a g.a, txC f.b g.b, txC f.p g.p, argC f.l g.l] (by simp)
  refine rn1 @fctE.eq_1 ?_
  refine HC_order [4, 9, 14] ty_ok mix [0, 1, 2, 3, 5, 6, 7, 8, 10, 11, 12, 13, 15, 16, 17, 18, 4, 9, 14, 19, 20, 21, 22] (by kernel_rfl) rfl _ rfl ?_
  simp only [opl_nil', opl_cons', oplC_some, List.getElem?_toArray, List.getElem?_cons_zero, List.getElem?_cons_succ]
  refine rn0 ?_
  refine HO_pureA ty_ok (cmpS_ac f.a g.a) ?_
  refine rn0 ?_
  refine HO_pureA ty_ok (cmpS_ac f.b g.b) ?_
  refine rn0 ?_
  refine HO_pureA ty_ok (cmpS_ac f.p g.p) ?_
  refine rn0 ?_
  refine HO_pureA ty_ok (cmpA_ac f.l g.l hf hg) ?_
  refine rn0 ?_
  refine HO_pureA ty_ok ko ?_
  exact rz0
/-! slices.BinarySearchFunc over facts: where the place is known by what stands before and behind it. -/
def bsSt (L : List Fct) (f : Fct) (x : Nat × Nat) : List (Nat × AV) := [(0, .d (.sl 4 L.length (flatE fctE L))), (2, .fn (.func 82) [] []), (4, .ptr 0 0), (8, .d (.c (.int .i64 L.length))), (9, .d (.c (.int .i64 x.1))), (10, .d (.c (.int .i64 x.2)))]
def bsRe (f : Fct) : Rs := [some (.obj [.d (.c (.string f.a)), .d (.c (.string f.b)), .d (.c (.string f.p)), .d (.sl 3 f.l.length (flatE cstE f.l))])]
set_option maxHeartbeats 400000 in
theorem bsF_ac (L : List Fct) (f : Fct) (p : Nat) (hL : L.length ≤ 1000000) (hs : ∀ g ∈ L, g.l.length ≤ 140737488352000) (hf : f.l.length ≤ 140737488352000) (hp : p ≤ L.length) (h1 : ∀ k (h : k < L.length), k < p → ordC L[k] f < 0) (h2 : ∀ k (h : k < L.length), p ≤ k → 0 ≤ ordC L[k] f) (q : Bool) (hq : q = decide (∃ h : p < L.length, ordC L[p] f = 0)) :
    AC Try.prog noG 81 [.d (.sl 4 L.length (flatE fctE L)), .d (.agg (fctE f)), .fn (.func 82) [] []] [] (fun v r' => v = .tup [.d (.c (.int .i64 p)), .d (.c (.bool q))] ∧ r' = []) := by
  refine AC.pure ?_ (by rintro v rfl; rfl)
  refine AC_of_R (N := 49) (res := [.tmp 6, .tmp 7]) ty_ok Try.call81 Try.func81 rfl rfl rfl (Nat.le_of_ble_eq_true rfl) ?_
  refine rn1 @fctE.eq_1 ?_
  refine HC_loopR (bsSt L f) (fun _ => bsRe f) (fun x => x.1 ≤ p ∧ p ≤ x.2 ∧ x.2 ≤ L.length) (fun x => x.2 - x.1) (0, L.length) [0] [] ⟨by simp, hp, by simp⟩ ?_ ?_
  · exact ft1 (jn @bsSt.eq_1 @bsRe.eq_1)
  intro ⟨i, j⟩ ⟨hi1, hi2, hi3⟩
  simp only at hi1 hi2 hi3
  refine HC_of_R ty_ok ?_
  by_cases hij : i < j
  · have hij' : (i : Int) < j := by omega
    obtain ⟨h, hh⟩ : ∃ h : Nat, h = (i + j) / 2 := ⟨_, rfl⟩
    have em : ((i : Int) + (j : Int)) / 2 = (h : Int) := by omega
    have hlt : h < L.length := by omega
    have hlt' : (h : Int) < L.length := by omega
    have hd := flatE_drop fctE_len L h hlt
    have hle := flatE_len fctE_len L
    have hg := ford_ac L[h] f (hs _ (List.getElem_mem hlt)) hf
    have k1 := h1 h hlt
    have k2 := h2 h hlt
    generalize L[h] = c at *
    simp only [fctE, List.cons_append, List.nil_append] at hd hg
    refine rn1 (jn @bsSt.eq_1 (jn @bsRe.eq_1 (jn @hij' @em))) ?_
    refine HC_plan [] ty_ok mix (by kernel_rfl) ?_
    refine rn1 (jn @hlt' (jn @hd @hle)) ?_
    (repeat (refine And.intro (by omega) ?_))
    refine HO_pureA ty_ok hg ?_
    by_cases ho : ordC c f < 0
    · have hp2 : ¬ p ≤ h := fun hc => absurd (k2 hc) (by omega)
      refine rn1 @ho ?_
      (repeat (refine And.intro (by omega) ?_))
      refine ⟨(h + 1, j), ⟨by simp only; omega, by simp only; omega, by simp only; omega⟩, by simp only; omega, [0], [], ?_⟩
      exact ft1 (jn @bsSt.eq_1 @bsRe.eq_1)
    · have hp2 : ¬ h < p := fun hc => ho (k1 hc)
      refine rn1 @ho ?_
      (repeat (refine And.intro (by omega) ?_))
      refine ⟨(i, h), ⟨by simp only; omega, by simp only; omega, by simp only; omega⟩, by simp only; omega, [0], [], ?_⟩
      exact ft1 (jn @bsSt.eq_1 @bsRe.eq_1)
  · have hij' : ¬ (i : Int) < j := by omega
    have hip : i = p := by omega
    subst hip
    by_cases hlt : i < L.length
    · have hlt' : (i : Int) < L.length := by omega
      have hd := flatE_drop fctE_len L i hlt
      have hle := flatE_len fctE_len L
      have hg := ford_ac L[i] f (hs _ (List.getElem_mem hlt)) hf
      have hq2 : q = decide (ordC L[i] f = 0) := by
        rw [hq]; congr 1
        exact propext ⟨fun ⟨_, h⟩ => h, fun h => ⟨hlt, h⟩⟩
      clear hq h1 h2
      subst hq2
      generalize L[i] = c at *
      simp only [fctE, List.cons_append, List.nil_append] at hd hg
      refine rn1 (jn @bsSt.eq_1 (jn @bsRe.eq_1 @hij')) ?_
      refine HC_plan [] ty_ok mix (by kernel_rfl) ?_
      refine rn1 (jn @hlt' (jn @hd @hle)) ?_
      (repeat (refine And.intro (by omega) ?_))
      refine HO_pureA ty_ok hg ?_
      exact rz0
    · have hlt' : ¬ (i : Int) < L.length := by omega
      have hq2 : q = false := by
        rw [hq, decide_eq_false_iff_not]
        exact fun ⟨h, _⟩ => hlt h
      subst hq2
      refine rn1 (jn @bsSt.eq_1 (jn @bsRe.eq_1 @hij')) ?_
      refine HC_plan [] ty_ok mix (by kernel_rfl) ?_
      exact rz1 @hlt'
end Go.Proofs.Ythdjblfiiogmgaa
