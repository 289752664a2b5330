import Derived.Test.YtfeoafddagdbfaaCCodeReads
import Derived.Test.YtfeoafddagdbfaaCTripI
import Derived.Test.YtfeoafddagdbfaaCWtF
import Derived.Test.YtfeoafddagdbfaaCWtR
set_option linter.unusedVariables false
set_option linter.unusedSimpArgs false
set_option maxRecDepth 100000
namespace Go.Proofs.Ytfeoafddagdbfaa
open Go Go.ChangeShapes Go.WideShapes
theorem putFR_app (b : List UInt8) (f : Fct) : putFR b f = b ++ putFR [] f := by
  unfold putFR
  split
  · rw [putF_app b, putF_app []]; simp
  · simp
theorem foldF_le : ∀ (l : List Fct) (b : List UInt8), (∀ f ∈ l, okF f) → (l.foldl putFR b).length ≤ b.length + 2300 * l.length
  | [], b, _ => by simp
  | t :: l, b, h => by
    have h1 := putFR_len (b := b) (h t (by simp))
    have h2 := foldF_le l (putFR b t) (fun x hx => h x (by simp [hx]))
    rw [List.foldl_cons, List.length_cons]; omega
/-- Where the next fact lies. -/
theorem at_next {l : List Fct} (i : Nat) (h : i < l.length) (hc : chkF l[i] = true) : At (l.foldl putFR []) ((l.take i).foldl putFR []).length (WF l[i]) ((l.take (i + 1)).foldl putFR []).length := by
  have e1 : (l.take (i + 1)).foldl putFR [] = (l.take i).foldl putFR [] ++ WF l[i] := by
    rw [fold_take putFR l i h, putFR_app, putFR, if_pos hc, putF_app, List.nil_append]
  have e2 : l.foldl putFR [] = (l.take (i + 1)).foldl putFR [] ++ (l.drop (i + 1)).foldl putFR [] := by
    conv => lhs; rw [← List.take_append_drop (i + 1) l, List.foldl_append, fold_app putFR_app]
  rw [e2, e1]
  exact At.of_parts
theorem at_skip {l : List Fct} (i : Nat) (h : i < l.length) (hc : ¬ chkF l[i] = true) : (l.take (i + 1)).foldl putFR [] = (l.take i).foldl putFR [] := by
  rw [fold_take putFR l i h, putFR, if_neg hc]
def cb1St (l : List Fct) (rs : List Rul) (x : Nat × Int × List UInt8) : List (Nat × AV) := [(0, .d (.sl 4 l.length (flatE fctE l))), (1, .d (.sl 11 rs.length (flatE rulE rs))), (5, .sl (.own 0) 1 x.2.2.length (bD x.2.2)), (6, .d (.c (.int .i64 x.2.1))), (7, .d (.c (.int .i64 x.1)))]
def cb1Re (x : Nat × Int × List UInt8) : Rs := [some (.tok x.2.2.length)]
def cb2St (l : List Fct) (rs : List Rul) (B : List UInt8) (i at_ : Nat) : List (Nat × AV) := [(0, .d (.sl 4 l.length (flatE fctE l))), (1, .d (.sl 11 rs.length (flatE rulE rs))), (5, .d (.sl 1 B.length (bD B))), (10, .d (.c (.int .i64 at_))), (11, .d (.c (.int .i64 i)))]
set_option maxHeartbeats 1000000 in
theorem codeBack_ac (l : List Fct) (rs : List Rul) (ho : ∀ f ∈ l, okF f ∧ szF f) (hr : ∀ r ∈ rs, szRw r ∧ okRl r) (hl : l.length ≤ 140737488352000) (hrl : rs.length ≤ 140737488352000) :
    AC Try.prog noG 7 [.d (.sl 4 l.length (flatE fctE l)), .d (.sl 11 rs.length (flatE rulE rs))] [] (fun v r' => v = .d (.c (.bool true)) ∧ r' = []) := by
  refine AC.pure ?_ (by rintro v rfl; rfl)
  refine AC_of_R (N := 130) (res := [.tmp 4]) ty_ok Try.call7 Try.func7 rfl rfl rfl (Nat.le_of_ble_eq_true rfl) ?_
  have hw := wF_ac l 300 hl (fun f hf => (ho f hf).2) (by decide) (by decide)
  have hw2 := wR_ac rs 300 hrl (fun r h => (hr r h).1) (by decide) (by decide)
  refine rn0 ?_
  refine HO_callX ty_ok [] hw (trivial) rfl ?_
  rintro v r' ⟨⟨n, rfl, hn⟩, rfl⟩ _
  by_cases g1 : n > 300
  · refine rn1 @g1 ?_
    refine HO_pureA ty_ok clive_ac ?_
    exact rz0
  have hl3 := hn (by omega)
  refine rn1 @g1 ?_
  refine HO_callX ty_ok [] hw2 (trivial) rfl ?_
  rintro v r' ⟨⟨n2, rfl⟩, rfl⟩ _
  by_cases g2 : n2 > 300
  · refine rn1 @g2 ?_
    refine HO_pureA ty_ok clive_ac ?_
    exact rz0
  refine rn1 @g2 ?_
  refine HC_loopR (cb1St l rs) cb1Re (fun x => x.1 ≤ l.length ∧ (0 ≤ x.2.1 ∧ x.2.1 ≤ x.1) ∧ x.2.2 = (l.take x.1).foldl putFR []) (fun x => l.length - x.1) (0, 0, []) [0] [0] ⟨by simp, by simp, rfl⟩ ?_ ?_
  · exact ft1 (jn @cb1St.eq_1 @cb1Re.eq_1)
  intro ⟨i, q, acc⟩ ⟨h1, h2, h3⟩
  simp only at h1 h2 h3
  refine HC_of_R ty_ok ?_
  by_cases hlt : i < l.length
  · have hi : (i : Int) < l.length := by omega
    have hd := flatE_drop fctE_len l i hlt
    have hle := flatE_len fctE_len l
    have hox := ho l[i] (List.getElem_mem hlt)
    have hstep := fold_take putFR l i hlt []
    have hacc := foldF_le (l.take i) [] (fun f hf => (ho f (List.mem_of_mem_take hf)).1)
    rw [← h3, List.length_take, List.length_nil] at hacc
    rw [← h3] at hstep
    generalize l[i] = f at *
    have hp := putF_ac acc f hox.1 hox.2.2.2.2.1 (by omega)
    have hck := rfchk_ac f hox.2.2.2.2.1
    have hpl := putFR_len (b := acc) hox.1
    simp only [fctE, List.cons_append, List.nil_append] at hd hp hck
    by_cases hc : chkF f = true
    · rw [chkE_ok hc] at hp hck
      refine rn1 (jn @cb1St.eq_1 (jn @cb1Re.eq_1 (jn @hi (jn @hd @hle)))) ?_
      (repeat (refine And.intro (by omega) ?_))
      refine HO_callX ty_ok [] hp (trivial) rfl ?_
      rintro v r' ⟨rfl, rfl⟩ _
      refine rn1 (jn @hi (jn @hd @hle)) ?_
      (repeat (refine And.intro (by omega) ?_))
      refine HO_pureA ty_ok hck ?_
      refine rn0 ?_
      (repeat (refine And.intro (by omega) ?_))
      refine ⟨(i + 1, q + 1, putFR acc f), ⟨by simp only; omega, by simp only; omega, hstep.symm⟩, by simp only; omega, [1], [], ?_⟩
      exact ft1 (jn @cb1St.eq_1 @cb1Re.eq_1)
    · rw [chkE_no hc] at hp hck
      have e1 : putFR acc f = acc := if_neg hc
      rw [e1] at hp hstep
      have sm := same_ac acc acc (by omega) (by omega)
      rw [decide_eq_true rfl] at sm
      refine rn1 (jn @cb1St.eq_1 (jn @cb1Re.eq_1 (jn @hi (jn @hd @hle)))) ?_
      (repeat (refine And.intro (by omega) ?_))
      refine HO_callX ty_ok [] hp (trivial) rfl ?_
      rintro v r' ⟨rfl, rfl⟩ _
      refine rn1 (jn @hi (jn @hd @hle)) ?_
      (repeat (refine And.intro (by omega) ?_))
      refine HO_pureA ty_ok hck ?_
      refine rn0 ?_
      refine HO_pureA ty_ok sm ?_
      refine rn0 ?_
      (repeat (refine And.intro (by omega) ?_))
      refine ⟨(i + 1, q, acc), ⟨by simp only; omega, by simp only; omega, hstep.symm⟩, by simp only; omega, [1], [], ?_⟩
      exact ft1 (jn @cb1St.eq_1 @cb1Re.eq_1)
  · have hi : ¬ (i : Int) < l.length := by omega
    rw [List.take_of_length_le (by omega)] at h3
    have hB := foldF_le l [] (fun f hf => (ho f hf).1)
    rw [← h3, List.length_nil] at hB
    refine rn1 (jn @cb1St.eq_1 (jn @cb1Re.eq_1 @hi)) ?_
    refine HC_loopR (fun i => cb2St l rs acc i ((l.take i).foldl putFR []).length) (fun _ => [none]) (fun i => i ≤ l.length) (fun i => l.length - i) 0 [0] [] (by omega) ?_ ?_
    · exact ft1 (jn @cb2St.eq_1 @List.foldl_nil.{0, 0})
    clear hlt hi h2 h1
    intro i h1
    refine HC_of_R ty_ok ?_
    by_cases hlt : i < l.length
    · have hi : (i : Int) < l.length := by omega
      have hd := flatE_drop fctE_len l i hlt
      have hle := flatE_len fctE_len l
      have hox := ho l[i] (List.getElem_mem hlt)
      have hat := at_next i hlt
      have hskip := at_skip i hlt
      have hacc := foldF_le (l.take i) [] (fun f hf => (ho f (List.mem_of_mem_take hf)).1)
      rw [List.length_take, List.length_nil] at hacc
      rw [← h3] at hat
      generalize l[i] = f at *
      generalize (l.take i).foldl putFR [] = a0 at *
      obtain ⟨a1, ha1⟩ : ∃ a1, a1 = (l.take (i + 1)).foldl putFR [] := ⟨_, rfl⟩
      rw [← ha1] at hat hskip
      have hck := rfchk_ac f hox.2.2.2.2.1
      have hsf := sfact_ac f f hox.2.2.2.2.1 hox.2.2.2.2.1
      rw [decide_eq_true rfl] at hsf
      by_cases hc : chkF f = true
      · have hA := hat hc
        have hq := fact_ac acc a0.length (by omega) (by omega) (by omega)
        rw [rdF_at hc hox.1 hA] at hq
        have hbd := hA.bd
        have hpos : 0 < (WF f).length := by
          unfold WF
          rw [List.length_append, putTx_len]
          have : 0 < (leb (zig (f.a.size : Int))).length := by rw [leb]; split <;> simp
          omega
        rw [chkE_ok hc] at hck
        simp only [fctE, fcV, List.cons_append, List.nil_append] at hd hck hq hsf
        have k1 : ¬ (a1.length : Int) ≤ a0.length := by omega
        refine rn1 (jn @cb2St.eq_1 (jn @hi (jn @hd @hle))) ?_
        (repeat (refine And.intro (by omega) ?_))
        refine HO_pureA ty_ok hck ?_
        refine rn0 ?_
        refine HO_pureA ty_ok hq ?_
        refine rn0 ?_
        refine HC_plan [] ty_ok mix (by kernel_rfl) ?_
        refine rn1 (jn @k1 (jn @hi (jn @hd @hle))) ?_
        (repeat (refine And.intro (by omega) ?_))
        refine HO_pureA ty_ok hsf ?_
        refine rn0 ?_
        (repeat (refine And.intro (by omega) ?_))
        refine ⟨i + 1, by omega, by omega, [0], [], ?_⟩
        rw [← ha1]
        exact ft1 @cb2St.eq_1
      · have hs := hskip hc
        rw [chkE_no hc] at hck
        simp only [fctE, List.cons_append, List.nil_append] at hd hck
        refine rn1 (jn @cb2St.eq_1 (jn @hi (jn @hd @hle))) ?_
        (repeat (refine And.intro (by omega) ?_))
        refine HO_pureA ty_ok hck ?_
        refine rn0 ?_
        (repeat (refine And.intro (by omega) ?_))
        refine ⟨i + 1, by omega, by omega, [0], [], ?_⟩
        rw [← ha1, hs]
        exact ft1 @cb2St.eq_1
    · have hi : ¬ (i : Int) < l.length := by omega
      rw [List.take_of_length_le (by omega), ← h3]
      have he := enc_ac rs (fun r h => ⟨(hr r h).1.1, (hr r h).2⟩) hrl
      have hs : ∀ r ∈ rs, szR r := fun r h => (hr r h).1.1
      by_cases h7 : 768 < rs.length
      · have e : encR rs = ([], 3) := if_pos h7
        rw [e] at he
        simp only [enV] at he
        refine rn1 (jn @cb2St.eq_1 @hi) ?_
        refine HO_pureA ty_ok he ?_
        refine rn0 ?_
        refine HO_pureA ty_ok clive_ac ?_
        exact rz0
      · cases ha : rs.all rightR with
        | false =>
          have e : encR rs = ([], 50) := by rw [encR, if_neg h7, if_neg (by rw [ha]; decide)]
          rw [e] at he
          simp only [enV] at he
          refine rn1 (jn @cb2St.eq_1 @hi) ?_
          refine HO_pureA ty_ok he ?_
          refine rn0 ?_
          refine HO_pureA ty_ok clive_ac ?_
          exact rz0
        | true =>
          have hall := List.all_eq_true.1 ha
          have e : encR rs = (leb (zig (rs.length : Int)) ++ rs.foldl putR [], 0) := by rw [enc_ok h7 ha, fold_app putR_app]
          have hpl := foldR_le rs (leb (zig (rs.length : Int))) (fun r h => ⟨hall r h, (hr r h).2⟩)
          rw [fold_app putR_app] at hpl
          have hb0 := leb_nat (n := rs.length) (by omega)
          have hdec := dec_at (l := rs) (by omega) (fun r h => ⟨hall r h, (hr r h).2⟩) rfl
          rw [e] at he
          generalize leb (zig (rs.length : Int)) ++ rs.foldl putR [] = c at *
          have hd := dec_ac c (by omega)
          rw [hdec] at hd
          have hk := like_ac rs rs hrl hrl hs hs
          rw [decide_eq_true rfl] at hk
          simp only [enV, deV] at he hd
          refine rn1 (jn @cb2St.eq_1 @hi) ?_
          refine HO_pureA ty_ok he ?_
          refine rn0 ?_
          refine HO_pureA ty_ok hd ?_
          refine rn0 ?_
          refine HO_pureA ty_ok hk ?_
          refine rn0 ?_
          refine HO_pureA ty_ok clive_ac ?_
          exact rz0
end Go.Proofs.Ytfeoafddagdbfaa
