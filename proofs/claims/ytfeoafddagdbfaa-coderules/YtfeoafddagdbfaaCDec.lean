import Derived.Test.YtfeoafddagdbfaaCRRdTs
import Derived.Test.YtfeoafddagdbfaaCRgtR
set_option linter.unusedVariables false
set_option linter.unusedSimpArgs false
set_option maxRecDepth 100000
namespace Go.Proofs.Ytfeoafddagdbfaa
open Go Go.ChangeShapes Go.WideShapes
theorem rdMany_len {β : Int → Int → Bool} {b : List UInt8} : ∀ (n : Nat) (k e : Int) (o : Bool), (rdMany β b n k e o).1.length ≤ n
  | 0, k, e, o => Nat.le_refl _
  | n + 1, k, e, o => by
    rw [rdMany]
    split
    · have := rdMany_len (β := β) (b := b) n (rdTm b k e).2.1 (rdTm b k e).2.2 (o || β k e)
      simp only [List.length_cons]; omega
    · exact Nat.zero_le _
theorem rdC_most {b : List UInt8} {most k e : Int} (hm : 0 ≤ most) : (rdC b most k e).1 ≤ most := by
  unfold rdC
  split
  · split
    · exact hm
    · rename_i h; omega
  · exact hm
theorem rdTms_len {β : Int → Int → Bool} {b : List UInt8} {k e : Int} {o : Bool} : (rdTms β b k e o).1.length ≤ 48 := by
  have h1 := rdMany_len (β := β) (b := b) (rdC b 48 k e).1.toNat (rdC b 48 k e).2.1 (rdC b 48 k e).2.2 o
  have h2 := rdC_most (b := b) (most := 48) (k := k) (e := e) (by decide)
  unfold rdTms; omega
theorem rdG_all {α : Type} {one : Int → Int → Bool → α × Int × Int × Bool} {p : α → Prop} (H : ∀ k e o, p (one k e o).1) : ∀ (n : Nat) (k e : Int) (o : Bool), ∀ x ∈ (rdG one n k e o).1, p x
  | 0, k, e, o, x, h => by simp [rdG] at h
  | n + 1, k, e, o, x, h => by
    rw [rdG] at h
    split at h
    · simp only [List.mem_cons] at h
      rcases h with rfl | h
      · exact H _ _ _
      · exact rdG_all H n _ _ _ x h
    · simp at h
theorem rdG_len {α : Type} {one : Int → Int → Bool → α × Int × Int × Bool} : ∀ (n : Nat) (k e : Int) (o : Bool), (rdG one n k e o).1.length ≤ n
  | 0, k, e, o => Nat.le_refl _
  | n + 1, k, e, o => by
    rw [rdG]
    split
    · have := rdG_len (one := one) n (one k e o).2.1 (one k e o).2.2.1 (one k e o).2.2.2
      simp only [List.length_cons]; omega
    · exact Nat.zero_le _
theorem rdRul_sz {β : Int → Int → Bool} {b : List UInt8} {k e : Int} {o : Bool} : szR (rdRul β b k e o).1 := by
  simp only [rdRul, thn, tx4, ct4, szR, szL]
  refine ⟨?_, ?_, ?_⟩
  · exact Nat.le_trans rdTms_len (by decide)
  · refine Nat.le_trans (rdG_len _ _ _ _) ?_
    have h2 := rdC_most (b := b) (most := 5) (k := (rdOne β b (rdTms β b (rdT b (rdOne β b k e o).2.1 (rdOne β b k e o).2.2.1).2.1 (rdT b (rdOne β b k e o).2.1 (rdOne β b k e o).2.2.1).2.2 (rdOne β b k e o).2.2.2).2.1 (rdTms β b (rdT b (rdOne β b k e o).2.1 (rdOne β b k e o).2.2.1).2.1 (rdT b (rdOne β b k e o).2.1 (rdOne β b k e o).2.2.1).2.2 (rdOne β b k e o).2.2.2).2.2.1 (rdTms β b (rdT b (rdOne β b k e o).2.1 (rdOne β b k e o).2.2.1).2.1 (rdT b (rdOne β b k e o).2.1 (rdOne β b k e o).2.2.1).2.2 (rdOne β b k e o).2.2.2).2.2.2).2.1) (e := (rdOne β b (rdTms β b (rdT b (rdOne β b k e o).2.1 (rdOne β b k e o).2.2.1).2.1 (rdT b (rdOne β b k e o).2.1 (rdOne β b k e o).2.2.1).2.2 (rdOne β b k e o).2.2.2).2.1 (rdTms β b (rdT b (rdOne β b k e o).2.1 (rdOne β b k e o).2.2.1).2.1 (rdT b (rdOne β b k e o).2.1 (rdOne β b k e o).2.2.1).2.2 (rdOne β b k e o).2.2.2).2.2.1 (rdTms β b (rdT b (rdOne β b k e o).2.1 (rdOne β b k e o).2.2.1).2.1 (rdT b (rdOne β b k e o).2.1 (rdOne β b k e o).2.2.1).2.2 (rdOne β b k e o).2.2.2).2.2.2).2.2.1) (by decide)
    omega
  · refine rdG_all (p := fun x : Lit => x.l.length ≤ 140737488352000) ?_ _ _ _ _
    intro k e o
    simp only [rdLit, thn, tx4]
    exact Nat.le_trans rdTms_len (by decide)
/-- A rule read, and looked at. -/
def lkR (R : Rul × Int × Int × Bool) : Int := if R.2.2.1 = 0 ∧ (R.2.2.2 = true ∨ rightR R.1 = false) then 50 else R.2.2.1
def dcC (b : List UInt8) (k e : Int) (_ : Bool) : Rul × Int × Int × Bool := ((rdRul (badC b) b k e false).1, (rdRul (badC b) b k e false).2.1, lkR (rdRul (badC b) b k e false), false)
def dcR (b : List UInt8) (k e : Int) (o : Bool) : Rul × Int × Int × Bool := ((rdRul (oddR b) b k e o).1, (rdRul (oddR b) b k e o).2.1, lkR (rdRul (oddR b) b k e o), (rdRul (oddR b) b k e o).2.2.2)
theorem lk_ok {b : List UInt8} {k e : Int} {R : Rul × Int × Int × Bool} (h : okR b R.2.1 R.2.2.1 ∧ (R.2.2.1 = 0 → e = 0 ∧ 0 ≤ k ∧ k < R.2.1 ∧ R.2.1 ≤ b.length)) : okR b R.2.1 (lkR R) ∧ (lkR R = 0 → e = 0 ∧ 0 ≤ k ∧ k < R.2.1 ∧ R.2.1 ≤ b.length) := by
  unfold lkR
  split
  · exact ⟨⟨h.1.1, by decide⟩, fun h => by cases h⟩
  · exact h
theorem dcC_ok {b : List UInt8} (hb : b.length ≤ 140737488355000) : okOne b (dcC b) := fun k e _ h hk => lk_ok (rdRul_ok hb k e false h hk)
theorem dcR_ok {b : List UInt8} (hb : b.length ≤ 140737488355000) : okOne b (dcR b) := fun k e o h hk => lk_ok (rdRul_ok hb k e o h hk)
def dec0 (one : Int → Int → Bool → Rul × Int × Int × Bool) (b : List UInt8) : List Rul × Int × Int × Bool := rdG one (rdC b 768 0 0).1.toNat (rdC b 768 0 0).2.1 (rdC b 768 0 0).2.2 false
def decE (b : List UInt8) (x : List Rul × Int × Int × Bool) : List Rul × Int := if x.2.2.1 = 0 then (if x.2.1 < b.length then ([], 11) else (x.1, 0)) else ([], x.2.2.1)
def deV (t : List Rul × Int) : AV := .tup [.d (.sl 11 t.1.length (flatE rulE t.1)), .d (.c (.int .i64 t.2))]
theorem lk_err {R : Rul × Int × Int × Bool} (h : ¬ R.2.2.1 = 0) : lkR R = R.2.2.1 := by unfold lkR; rw [if_neg (fun hh => h hh.1)]
theorem lk_bad {R : Rul × Int × Int × Bool} (h : R.2.2.1 = 0) (hb : R.2.2.2 = true ∨ rightR R.1 = false) : lkR R = 50 := by unfold lkR; rw [if_pos ⟨h, hb⟩]
theorem lk_fine {R : Rul × Int × Int × Bool} (h : R.2.2.1 = 0) (hb : R.2.2.2 = false) (hr : rightR R.1 = true) : lkR R = 0 := by
  unfold lkR; rw [if_neg (fun hh => by rcases hh.2 with h1 | h1 <;> simp_all), h]
structure DsI where
  i : Nat
  acc : List Rul
  k : Int
  e : Int
  o : Bool
def cdSt (b : List UInt8) (n : Int) (x : DsI) : List (Nat × AV) := [(0, .d (.sl 1 b.length (bD b))), (4, .ptr 0 0), (5, .d (.c (.int .i64 n))), (6, .sl (.own 1) 11 x.acc.length (flatE rulE x.acc)), (7, .d (.c (.int .i64 x.i)))]
def cdRe (b : List UInt8) (x : DsI) : Rs := [some (.obj (rdO b x.k x.e)), some (.tok (flatE rulE x.acc).length)]
set_option maxHeartbeats 1000000 in
theorem dec_ac (b : List UInt8) (hb : b.length ≤ 140737488355000) : AC Try.prog noG 18 [.d (.sl 1 b.length (bD b))] [] (fun v r' => v = deV (decE b (dec0 (dcC b) b)) ∧ r' = []) := by
  refine AC.fit ?_
  refine AC_of_R (N := 76) (res := [.tmp 2, .tmp 3]) ty_ok Try.call18 Try.func18 rfl rfl rfl (Nat.le_of_ble_eq_true rfl) ?_
  have ok0 : okR b 0 0 := ⟨by omega, by omega⟩
  have hx := rcnt_ac b 768 0 0 hb ok0
  have ho := rdC_ok (most := 768) (by omega) hb ok0
  obtain ⟨R, hm⟩ : ∃ R, R = dec0 (dcC b) b := ⟨_, rfl⟩
  rw [← hm]
  unfold dec0 at hm
  generalize rdC b 768 0 0 = t at *
  obtain ⟨n, k1, e1⟩ := t
  simp only at hx ho hm
  refine rn0 ?_
  refine HO_callX ty_ok [0] hx (rdr_hand _ _ _ _ _ rfl) (rdr_wf _ _ _) ?_
  rintro v r' ⟨rfl, rfl⟩ _
  refine rn1 (jn @rdr.eq_1 @rdO.eq_1) ?_
  refine HC_loopR (cdSt b n) (cdRe b) (fun x => x.i ≤ n.toNat ∧ x.acc.length ≤ x.i ∧ okR b x.k x.e ∧ (x.e = 0 → 0 ≤ x.k ∧ x.k ≤ b.length) ∧ R = (x.acc ++ (rdG (dcC b) (n.toNat - x.i) x.k x.e x.o).1, (rdG (dcC b) (n.toNat - x.i) x.k x.e x.o).2)) (fun x => n.toNat - x.i) ⟨0, [], k1, e1, false⟩ [0, 1] [0] ⟨by simp only; omega, Nat.le_refl _, ho.1, fun he => by have := ho.2.1 he; simp only; omega, by simpa using hm⟩ ?_ ?_
  · exact ft1 (jn @cdSt.eq_1 (jn @cdRe.eq_1 (jn @flatE_nil @rdO.eq_1)))
  intro ⟨i, acc, kk, ee, oo⟩ ⟨q1, q2, q3, q4, q6⟩
  simp only at q1 q2 q3 q4 q6
  refine HC_of_R ty_ok ?_
  by_cases hlt : i < n.toNat ∧ ee = 0
  · obtain ⟨hlt, he⟩ := hlt
    have hi : (i : Int) < n := by omega
    subst he
    have hn1 : n.toNat - i = (n.toNat - (i + 1)) + 1 := by omega
    rw [hn1, rdG, if_pos rfl] at q6
    have hk := rul_ac b kk 0 false hb q3 q4
    have hok := dcC_ok hb kk 0 oo q3 q4
    have hsz := rdRul_sz (β := badC b) (b := b) (k := kk) (e := 0) (o := false)
    simp only [dcC] at q6 hok
    have l1 := lk_err (R := rdRul (badC b) b kk 0 false)
    have l2 := lk_bad (R := rdRul (badC b) b kk 0 false)
    have l3 := lk_fine (R := rdRul (badC b) b kk 0 false)
    generalize lkR (rdRul (badC b) b kk 0 false) = e3 at *
    generalize rdRul (badC b) b kk 0 false = t at *
    obtain ⟨u, k2, e2, o2⟩ := t
    simp only at q6 hk hok hsz l1 l2 l3
    have hsn := flatE_snoc rulE acc u
    have hle := flatE_len rulE_len acc
    have hcr := crule_ac u hsz
    simp only [rulE] at hcr
    refine rn1 (jn @cdSt.eq_1 (jn @cdRe.eq_1 (jn @rdO.eq_1 @hi))) ?_
    refine HO_callX ty_ok [0, 2] hk (rdb_hand _ _ _ _ _ _ _ rfl rfl) (rdb_wf _ _ _ _) ?_
    rintro v r' ⟨rfl, rfl⟩ _
    by_cases h0 : e2 = 0
    · subst h0
      cases o2 with
      | true =>
        rw [l2 rfl (.inl rfl)] at q6 hok
        refine rn1 (jn @rdb.eq_1 (jn @rdO.eq_1 @rulE.eq_1)) ?_
        try simp (config := {contextual := true, maxSteps := 1000000, implicitDefEqProofs := false}) (disch := omega) only [↓SA, SB, ST, stops, dstOK, resA, resAll, resOne, resTup, initSt, mkL, gdB, Nat.reduceLT, Nat.reduceEqDiff, Nat.reduceAdd, Nat.reduceMul, Nat.reduceLeDiff, Nat.reduceSub, Int.reduceLT, Int.reduceLE, Int.reduceAdd, Int.reduceSub, Int.reduceMul, Int.reduceToNat, Int.reduceNeg, Int.reduceEq, Int.reduceNe, if_true, if_false, ite_true, ite_false, ↓reduceIte, reduceCtorEq, forall_const, implies_true, eq_self, ne_eq, ren, renL, renM, renRes, putAll, rdb, rdO, rdr4, rdO4]
        (repeat (refine And.intro (by omega) ?_))
        refine ⟨⟨i + 1, acc ++ [u], k2, 50, false⟩, ⟨by simp only; omega, by simp only [List.length_append, List.length_cons, List.length_nil]; omega, hok.1, fun hh => by have := hok.2 hh; simp only; omega, by simp only [List.append_assoc, List.cons_append, List.nil_append]; exact q6⟩, by simp only; omega, [0, 1], [], ?_⟩
        exact ft1 (jn @cdSt.eq_1 (jn @cdRe.eq_1 (jn @rdO.eq_1 (jn @hsn @rulE.eq_1))))
      | false =>
        refine rn1 (jn @rdb.eq_1 (jn @rdO.eq_1 @rulE.eq_1)) ?_
        refine HO_pureA ty_ok hcr ?_
        cases hr : rightR u with
        | true =>
          rw [l3 rfl rfl hr] at q6 hok
          try simp (config := {contextual := true, maxSteps := 1000000, implicitDefEqProofs := false}) (disch := omega) only [↓SA, SB, ST, stops, dstOK, resA, resAll, resOne, resTup, initSt, mkL, gdB, Nat.reduceLT, Nat.reduceEqDiff, Nat.reduceAdd, Nat.reduceMul, Nat.reduceLeDiff, Nat.reduceSub, Int.reduceLT, Int.reduceLE, Int.reduceAdd, Int.reduceSub, Int.reduceMul, Int.reduceToNat, Int.reduceNeg, Int.reduceEq, Int.reduceNe, if_true, if_false, ite_true, ite_false, ↓reduceIte, reduceCtorEq, forall_const, implies_true, eq_self, ne_eq, ren, renL, renM, renRes, putAll, rdb, rdO, rdr4, rdO4]
          (repeat (refine And.intro (by omega) ?_))
          refine ⟨⟨i + 1, acc ++ [u], k2, 0, false⟩, ⟨by simp only; omega, by simp only [List.length_append, List.length_cons, List.length_nil]; omega, hok.1, fun hh => by have := hok.2 hh; simp only; omega, by simp only [List.append_assoc, List.cons_append, List.nil_append]; exact q6⟩, by simp only; omega, [0, 1], [], ?_⟩
          exact ft1 (jn @cdSt.eq_1 (jn @cdRe.eq_1 (jn @rdO.eq_1 (jn @hsn @rulE.eq_1))))
        | false =>
          rw [l2 rfl (.inr hr)] at q6 hok
          try simp (config := {contextual := true, maxSteps := 1000000, implicitDefEqProofs := false}) (disch := omega) only [↓SA, SB, ST, stops, dstOK, resA, resAll, resOne, resTup, initSt, mkL, gdB, Nat.reduceLT, Nat.reduceEqDiff, Nat.reduceAdd, Nat.reduceMul, Nat.reduceLeDiff, Nat.reduceSub, Int.reduceLT, Int.reduceLE, Int.reduceAdd, Int.reduceSub, Int.reduceMul, Int.reduceToNat, Int.reduceNeg, Int.reduceEq, Int.reduceNe, if_true, if_false, ite_true, ite_false, ↓reduceIte, reduceCtorEq, forall_const, implies_true, eq_self, ne_eq, ren, renL, renM, renRes, putAll, rdb, rdO, rdr4, rdO4]
          (repeat (refine And.intro (by omega) ?_))
          refine ⟨⟨i + 1, acc ++ [u], k2, 50, false⟩, ⟨by simp only; omega, by simp only [List.length_append, List.length_cons, List.length_nil]; omega, hok.1, fun hh => by have := hok.2 hh; simp only; omega, by simp only [List.append_assoc, List.cons_append, List.nil_append]; exact q6⟩, by simp only; omega, [0, 1], [], ?_⟩
          exact ft1 (jn @cdSt.eq_1 (jn @cdRe.eq_1 (jn @rdO.eq_1 (jn @hsn @rulE.eq_1))))
    · rw [l1 h0] at q6 hok
      refine rn1 (jn @rdb.eq_1 (jn @rdO.eq_1 (jn @rulE.eq_1 @h0))) ?_
      try simp (config := {contextual := true, maxSteps := 1000000, implicitDefEqProofs := false}) (disch := omega) only [↓SA, SB, ST, stops, dstOK, resA, resAll, resOne, resTup, initSt, mkL, gdB, Nat.reduceLT, Nat.reduceEqDiff, Nat.reduceAdd, Nat.reduceMul, Nat.reduceLeDiff, Nat.reduceSub, Int.reduceLT, Int.reduceLE, Int.reduceAdd, Int.reduceSub, Int.reduceMul, Int.reduceToNat, Int.reduceNeg, Int.reduceEq, Int.reduceNe, if_true, if_false, ite_true, ite_false, ↓reduceIte, reduceCtorEq, forall_const, implies_true, eq_self, ne_eq, ren, renL, renM, renRes, putAll, rdb, rdO, rdr4, rdO4]
      (repeat (refine And.intro (by omega) ?_))
      refine ⟨⟨i + 1, acc ++ [u], k2, e2, false⟩, ⟨by simp only; omega, by simp only [List.length_append, List.length_cons, List.length_nil]; omega, hok.1, fun hh => by have := hok.2 hh; simp only; omega, by simp only [List.append_assoc, List.cons_append, List.nil_append]; exact q6⟩, by simp only; omega, [0, 1], [], ?_⟩
      exact ft1 (jn @cdSt.eq_1 (jn @cdRe.eq_1 (jn @rdO.eq_1 (jn @hsn @rulE.eq_1))))
  · have q7 : R = (acc, kk, ee, oo) := by
      by_cases h0 : i < n.toNat
      · rw [rdG_err (fun he => hlt ⟨h0, he⟩)] at q6
        simpa using q6
      · have hn1 : n.toNat - i = 0 := by omega
        rw [hn1, rdG] at q6
        simpa using q6
    subst q7
    clear hm q6
    by_cases he : ee = 0
    · subst he
      have hi : ¬ (i : Int) < n := fun h => hlt ⟨by omega, rfl⟩
      by_cases hk : kk < b.length
      · have ed : decE b (acc, kk, 0, oo) = ([], 11) := by rw [decE, if_pos rfl, if_pos hk]
        rw [ed]
        refine rn1 (jn @cdSt.eq_1 (jn @cdRe.eq_1 (jn @rdO.eq_1 (jn @hi @hk)))) ?_
        refine HC_plan [] ty_ok mix (by kernel_rfl) ?_
        refine rn0 ?_
        exact fv1 [] [] @deV.eq_1
      · have ed : decE b (acc, kk, 0, oo) = (acc, 0) := by rw [decE, if_pos rfl, if_neg hk]
        rw [ed]
        refine rn1 (jn @cdSt.eq_1 (jn @cdRe.eq_1 (jn @rdO.eq_1 (jn @hi @hk)))) ?_
        exact fv1 [] [] @deV.eq_1
    · have ed : decE b (acc, kk, ee, oo) = ([], ee) := by rw [decE, if_neg he]
      rw [ed]
      by_cases hi : (i : Int) < n
      · refine rn1 (jn @cdSt.eq_1 (jn @cdRe.eq_1 (jn @rdO.eq_1 (jn @hi @he)))) ?_
        refine HC_plan [] ty_ok mix (by kernel_rfl) ?_
        refine rn0 ?_
        exact fv1 [] [] @deV.eq_1
      · refine rn1 (jn @cdSt.eq_1 (jn @cdRe.eq_1 (jn @rdO.eq_1 (jn @hi @he)))) ?_
        refine HC_plan [] ty_ok mix (by kernel_rfl) ?_
        refine rn0 ?_
        exact fv1 [] [] @deV.eq_1
def rdcSt (b : List UInt8) (n : Int) (x : DsI) : List (Nat × AV) := [(0, .d (.sl 1 b.length (bD b))), (4, .ptr 0 0), (5, .d (.c (.int .i64 n))), (6, .sl (.own 1) 11 x.acc.length (flatE rulE x.acc)), (7, .d (.c (.int .i64 x.i)))]
def rdcRe (b : List UInt8) (x : DsI) : Rs := [some (.obj (rdO4 b x.k x.e x.o)), some (.tok (flatE rulE x.acc).length)]
set_option maxHeartbeats 1000000 in
theorem rdec_ac (b : List UInt8) (hb : b.length ≤ 140737488355000) : AC Try.prog noG 19 [.d (.sl 1 b.length (bD b))] [] (fun v r' => v = deV (decE b (dec0 (dcR b) b)) ∧ r' = []) := by
  refine AC.fit ?_
  refine AC_of_R (N := 68) (res := [.tmp 2, .tmp 3]) ty_ok Try.call19 Try.func19 rfl rfl rfl (Nat.le_of_ble_eq_true rfl) ?_
  have ok0 : okR b 0 0 := ⟨by omega, by omega⟩
  have hx := rrcnt_ac b 768 0 0 false hb ok0
  have ho := rdC_ok (most := 768) (by omega) hb ok0
  obtain ⟨R, hm⟩ : ∃ R, R = dec0 (dcR b) b := ⟨_, rfl⟩
  rw [← hm]
  unfold dec0 at hm
  generalize rdC b 768 0 0 = t at *
  obtain ⟨n, k1, e1⟩ := t
  simp only at hx ho hm
  refine rn0 ?_
  refine HO_callX ty_ok [0] hx (rdr4_hand _ _ _ _ _ _ rfl) (rdr4_wf _ _ _ _) ?_
  rintro v r' ⟨rfl, rfl⟩ _
  refine rn1 (jn @rdr4.eq_1 @rdO4.eq_1) ?_
  refine HC_loopR (rdcSt b n) (rdcRe b) (fun x => x.i ≤ n.toNat ∧ x.acc.length ≤ x.i ∧ okR b x.k x.e ∧ (x.e = 0 → 0 ≤ x.k ∧ x.k ≤ b.length) ∧ R = (x.acc ++ (rdG (dcR b) (n.toNat - x.i) x.k x.e x.o).1, (rdG (dcR b) (n.toNat - x.i) x.k x.e x.o).2)) (fun x => n.toNat - x.i) ⟨0, [], k1, e1, false⟩ [0, 1] [0] ⟨by simp only; omega, Nat.le_refl _, ho.1, fun he => by have := ho.2.1 he; simp only; omega, by simpa using hm⟩ ?_ ?_
  · exact ft1 (jn @rdcSt.eq_1 (jn @rdcRe.eq_1 (jn @flatE_nil @rdO4.eq_1)))
  intro ⟨i, acc, kk, ee, oo⟩ ⟨q1, q2, q3, q4, q6⟩
  simp only at q1 q2 q3 q4 q6
  refine HC_of_R ty_ok ?_
  by_cases hlt : i < n.toNat ∧ ee = 0
  · obtain ⟨hlt, he⟩ := hlt
    have hi : (i : Int) < n := by omega
    subst he
    have hn1 : n.toNat - i = (n.toNat - (i + 1)) + 1 := by omega
    rw [hn1, rdG, if_pos rfl] at q6
    have hk := rrul_ac b kk 0 oo hb q3 q4
    have hok := dcR_ok hb kk 0 oo q3 q4
    have hsz := rdRul_sz (β := oddR b) (b := b) (k := kk) (e := 0) (o := oo)
    simp only [dcR] at q6 hok
    have l1 := lk_err (R := rdRul (oddR b) b kk 0 oo)
    have l2 := lk_bad (R := rdRul (oddR b) b kk 0 oo)
    have l3 := lk_fine (R := rdRul (oddR b) b kk 0 oo)
    generalize lkR (rdRul (oddR b) b kk 0 oo) = e3 at *
    generalize rdRul (oddR b) b kk 0 oo = t at *
    obtain ⟨u, k2, e2, o2⟩ := t
    simp only at q6 hk hok hsz l1 l2 l3
    have hsn := flatE_snoc rulE acc u
    have hle := flatE_len rulE_len acc
    have hcr := rright_ac u hsz
    simp only [rulE] at hcr
    refine rn1 (jn @rdcSt.eq_1 (jn @rdcRe.eq_1 (jn @rdO4.eq_1 @hi))) ?_
    refine HO_callX ty_ok [0] hk (rdr4_hand _ _ _ _ _ _ rfl) (rdr4_wf _ _ _ _) ?_
    rintro v r' ⟨rfl, rfl⟩ _
    by_cases h0 : e2 = 0
    · subst h0
      cases o2 with
      | true =>
        rw [l2 rfl (.inl rfl)] at q6 hok
        refine rn1 (jn @rdr4.eq_1 (jn @rdO4.eq_1 @rulE.eq_1)) ?_
        try simp (config := {contextual := true, maxSteps := 1000000, implicitDefEqProofs := false}) (disch := omega) only [↓SA, SB, ST, stops, dstOK, resA, resAll, resOne, resTup, initSt, mkL, gdB, Nat.reduceLT, Nat.reduceEqDiff, Nat.reduceAdd, Nat.reduceMul, Nat.reduceLeDiff, Nat.reduceSub, Int.reduceLT, Int.reduceLE, Int.reduceAdd, Int.reduceSub, Int.reduceMul, Int.reduceToNat, Int.reduceNeg, Int.reduceEq, Int.reduceNe, if_true, if_false, ite_true, ite_false, ↓reduceIte, reduceCtorEq, forall_const, implies_true, eq_self, ne_eq, ren, renL, renM, renRes, putAll, rdb, rdO, rdr4, rdO4]
        (repeat (refine And.intro (by omega) ?_))
        refine ⟨⟨i + 1, acc ++ [u], k2, 50, true⟩, ⟨by simp only; omega, by simp only [List.length_append, List.length_cons, List.length_nil]; omega, hok.1, fun hh => by have := hok.2 hh; simp only; omega, by simp only [List.append_assoc, List.cons_append, List.nil_append]; exact q6⟩, by simp only; omega, [0, 1], [], ?_⟩
        exact ft1 (jn @rdcSt.eq_1 (jn @rdcRe.eq_1 (jn @rdO4.eq_1 (jn @hsn @rulE.eq_1))))
      | false =>
        refine rn1 (jn @rdr4.eq_1 (jn @rdO4.eq_1 @rulE.eq_1)) ?_
        refine HO_pureA ty_ok hcr ?_
        cases hr : rightR u with
        | true =>
          rw [l3 rfl rfl hr] at q6 hok
          try simp (config := {contextual := true, maxSteps := 1000000, implicitDefEqProofs := false}) (disch := omega) only [↓SA, SB, ST, stops, dstOK, resA, resAll, resOne, resTup, initSt, mkL, gdB, Nat.reduceLT, Nat.reduceEqDiff, Nat.reduceAdd, Nat.reduceMul, Nat.reduceLeDiff, Nat.reduceSub, Int.reduceLT, Int.reduceLE, Int.reduceAdd, Int.reduceSub, Int.reduceMul, Int.reduceToNat, Int.reduceNeg, Int.reduceEq, Int.reduceNe, if_true, if_false, ite_true, ite_false, ↓reduceIte, reduceCtorEq, forall_const, implies_true, eq_self, ne_eq, ren, renL, renM, renRes, putAll, rdb, rdO, rdr4, rdO4]
          (repeat (refine And.intro (by omega) ?_))
          refine ⟨⟨i + 1, acc ++ [u], k2, 0, false⟩, ⟨by simp only; omega, by simp only [List.length_append, List.length_cons, List.length_nil]; omega, hok.1, fun hh => by have := hok.2 hh; simp only; omega, by simp only [List.append_assoc, List.cons_append, List.nil_append]; exact q6⟩, by simp only; omega, [0, 1], [], ?_⟩
          exact ft1 (jn @rdcSt.eq_1 (jn @rdcRe.eq_1 (jn @rdO4.eq_1 (jn @hsn @rulE.eq_1))))
        | false =>
          rw [l2 rfl (.inr hr)] at q6 hok
          try simp (config := {contextual := true, maxSteps := 1000000, implicitDefEqProofs := false}) (disch := omega) only [↓SA, SB, ST, stops, dstOK, resA, resAll, resOne, resTup, initSt, mkL, gdB, Nat.reduceLT, Nat.reduceEqDiff, Nat.reduceAdd, Nat.reduceMul, Nat.reduceLeDiff, Nat.reduceSub, Int.reduceLT, Int.reduceLE, Int.reduceAdd, Int.reduceSub, Int.reduceMul, Int.reduceToNat, Int.reduceNeg, Int.reduceEq, Int.reduceNe, if_true, if_false, ite_true, ite_false, ↓reduceIte, reduceCtorEq, forall_const, implies_true, eq_self, ne_eq, ren, renL, renM, renRes, putAll, rdb, rdO, rdr4, rdO4]
          (repeat (refine And.intro (by omega) ?_))
          refine ⟨⟨i + 1, acc ++ [u], k2, 50, false⟩, ⟨by simp only; omega, by simp only [List.length_append, List.length_cons, List.length_nil]; omega, hok.1, fun hh => by have := hok.2 hh; simp only; omega, by simp only [List.append_assoc, List.cons_append, List.nil_append]; exact q6⟩, by simp only; omega, [0, 1], [], ?_⟩
          exact ft1 (jn @rdcSt.eq_1 (jn @rdcRe.eq_1 (jn @rdO4.eq_1 (jn @hsn @rulE.eq_1))))
    · rw [l1 h0] at q6 hok
      refine rn1 (jn @rdr4.eq_1 (jn @rdO4.eq_1 (jn @rulE.eq_1 @h0))) ?_
      try simp (config := {contextual := true, maxSteps := 1000000, implicitDefEqProofs := false}) (disch := omega) only [↓SA, SB, ST, stops, dstOK, resA, resAll, resOne, resTup, initSt, mkL, gdB, Nat.reduceLT, Nat.reduceEqDiff, Nat.reduceAdd, Nat.reduceMul, Nat.reduceLeDiff, Nat.reduceSub, Int.reduceLT, Int.reduceLE, Int.reduceAdd, Int.reduceSub, Int.reduceMul, Int.reduceToNat, Int.reduceNeg, Int.reduceEq, Int.reduceNe, if_true, if_false, ite_true, ite_false, ↓reduceIte, reduceCtorEq, forall_const, implies_true, eq_self, ne_eq, ren, renL, renM, renRes, putAll, rdb, rdO, rdr4, rdO4]
      (repeat (refine And.intro (by omega) ?_))
      refine ⟨⟨i + 1, acc ++ [u], k2, e2, o2⟩, ⟨by simp only; omega, by simp only [List.length_append, List.length_cons, List.length_nil]; omega, hok.1, fun hh => by have := hok.2 hh; simp only; omega, by simp only [List.append_assoc, List.cons_append, List.nil_append]; exact q6⟩, by simp only; omega, [0, 1], [], ?_⟩
      exact ft1 (jn @rdcSt.eq_1 (jn @rdcRe.eq_1 (jn @rdO4.eq_1 (jn @hsn @rulE.eq_1))))
  · have q7 : R = (acc, kk, ee, oo) := by
      by_cases h0 : i < n.toNat
      · rw [rdG_err (fun he => hlt ⟨h0, he⟩)] at q6
        simpa using q6
      · have hn1 : n.toNat - i = 0 := by omega
        rw [hn1, rdG] at q6
        simpa using q6
    subst q7
    clear hm q6
    by_cases he : ee = 0
    · subst he
      have hi : ¬ (i : Int) < n := fun h => hlt ⟨by omega, rfl⟩
      by_cases hk : kk < b.length
      · have ed : decE b (acc, kk, 0, oo) = ([], 11) := by rw [decE, if_pos rfl, if_pos hk]
        rw [ed]
        refine rn1 (jn @rdcSt.eq_1 (jn @rdcRe.eq_1 (jn @rdO4.eq_1 (jn @hi @hk)))) ?_
        exact fv1 [] [] @deV.eq_1
      · have ed : decE b (acc, kk, 0, oo) = (acc, 0) := by rw [decE, if_pos rfl, if_neg hk]
        rw [ed]
        refine rn1 (jn @rdcSt.eq_1 (jn @rdcRe.eq_1 (jn @rdO4.eq_1 (jn @hi @hk)))) ?_
        exact fv1 [] [] @deV.eq_1
    · have ed : decE b (acc, kk, ee, oo) = ([], ee) := by rw [decE, if_neg he]
      rw [ed]
      by_cases hi : (i : Int) < n
      · refine rn1 (jn @rdcSt.eq_1 (jn @rdcRe.eq_1 (jn @rdO4.eq_1 (jn @hi @he)))) ?_
        refine HC_plan [] ty_ok mix (by kernel_rfl) ?_
        refine rn0 ?_
        exact fv1 [] [] @deV.eq_1
      · refine rn1 (jn @rdcSt.eq_1 (jn @rdcRe.eq_1 (jn @rdO4.eq_1 (jn @hi @he)))) ?_
        refine HC_plan [] ty_ok mix (by kernel_rfl) ?_
        refine rn0 ?_
        exact fv1 [] [] @deV.eq_1
end Go.Proofs.Ytfeoafddagdbfaa
