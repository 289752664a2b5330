import Derived.Test.YtfeoafddagdbfaaCRRdr
import Derived.Test.YtfeoafddagdbfaaCRdRul
import Derived.Test.YtfeoafddagdbfaaCRdF
set_option linter.unusedVariables false
set_option linter.unusedSimpArgs false
set_option maxRecDepth 100000
namespace Go.Proofs.Ytfeoafddagdbfaa
open Go Go.ChangeShapes Go.WideShapes
theorem rrone_ac4 (b : List UInt8) (k e : Int) (o : Bool) (hb : b.length ≤ 140737488355000) (h : okR b k e) (hk : e = 0 → 0 ≤ k ∧ k ≤ b.length) : AC Try.prog noG 73 [.ptr 0 0] (rdr4 b k e o)
    (fun v r' => v = .d (.agg (trmE (rdOne (oddR b) b k e o).1)) ∧ r' = rdr4 b (rdOne (oddR b) b k e o).2.1 (rdOne (oddR b) b k e o).2.2.1 (rdOne (oddR b) b k e o).2.2.2) := rrtm_ac b k e o hb h (fun he => (hk he).1)
def rtsSt (n : Int) (x : TsI) : List (Nat × AV) := [(0, .ptr 0 0), (3, .d (.c (.int .i64 n))), (4, .sl (.own 1) 4 x.acc.length (flatE trmE x.acc)), (5, .d (.c (.int .i64 x.i)))]
def rtsRe (b : List UInt8) (x : TsI) : Rs := [some (.obj (rdO4 b x.k x.e x.o)), some (.tok (flatE trmE x.acc).length)]
set_option maxHeartbeats 400000 in
theorem rrtms_ac (b : List UInt8) (k e : Int) (o : Bool) (hb : b.length ≤ 140737488355000) (h : okR b k e) : AC Try.prog noG 74 [.ptr 0 0] (rdr4 b k e o)
    (fun v r' => v = .d (.sl 4 (rdTms (oddR b) b k e o).1.length (flatE trmE (rdTms (oddR b) b k e o).1)) ∧ r' = rdr4 b (rdTms (oddR b) b k e o).2.1 (rdTms (oddR b) b k e o).2.2.1 (rdTms (oddR b) b k e o).2.2.2) := by
  refine AC.fit ?_
  refine AC_of_R (N := 26) (res := [.tmp 2]) ty_ok Try.call74 Try.func74 rfl rfl rfl (Nat.le_of_ble_eq_true rfl) ?_
  have hx := rrcnt_ac b 48 k e o hb h
  have ho := rdC_ok (most := 48) (by omega) hb h
  have hm : rdTms (oddR b) b k e o = rdMany (oddR b) b (rdC b 48 k e).1.toNat (rdC b 48 k e).2.1 (rdC b 48 k e).2.2 o := rfl
  generalize rdTms (oddR b) b k e o = R at *
  generalize rdC b 48 k e = t at *
  obtain ⟨n, k1, e1⟩ := t
  simp only at hx ho hm
  refine rn1 (jn @rdr4.eq_1 @rdO4.eq_1) ?_
  refine HO_callX ty_ok [0] (hx) (rdr4_hand _ _ _ _ _ _ rfl) (rdr4_wf _ _ _ _) ?_
  rintro v r' ⟨rfl, rfl⟩ _
  refine rn1 (jn @rdr4.eq_1 @rdO4.eq_1) ?_
  refine HC_loopR (rtsSt n) (rtsRe b) (fun x => x.i ≤ n.toNat ∧ x.acc.length ≤ x.i ∧ okR b x.k x.e ∧ (x.e = 0 → 0 ≤ x.k ∧ x.k ≤ b.length) ∧ R = (x.acc ++ (rdMany (oddR b) b (n.toNat - x.i) x.k x.e x.o).1, (rdMany (oddR b) b (n.toNat - x.i) x.k x.e x.o).2)) (fun x => n.toNat - x.i) ⟨0, [], k1, e1, o⟩ [0, 1] [0] ⟨by simp only; omega, Nat.le_refl _, ho.1, fun he => by have := ho.2.1 he; simp only; omega, by simpa using hm⟩ ?_ ?_
  · exact ft1 (jn @rtsSt.eq_1 (jn @rtsRe.eq_1 (jn @flatE_nil @rdO4.eq_1)))
  intro ⟨i, acc, kk, ee, oo⟩ ⟨q1, q2, q3, q4, q6⟩
  simp only at q1 q2 q3 q4 q6
  refine HC_of_R ty_ok ?_
  by_cases hlt : i < n.toNat ∧ ee = 0
  · obtain ⟨hlt, he⟩ := hlt
    have hi : (i : Int) < n := by omega
    subst he
    have hn1 : n.toNat - i = (n.toNat - (i + 1)) + 1 := by omega
    rw [hn1, rdMany, if_pos rfl] at q6
    have hk := rrtm_ac b kk 0 oo hb q3 (fun _ => (q4 rfl).1)
    have hok := rdTm_ok hb q3 (fun _ => (q4 rfl).1)
    generalize rdTm b kk 0 = t at *
    generalize (oo || oddR b kk 0) = o2 at *
    obtain ⟨u, k2, e2⟩ := t
    simp only at q6 hk hok
    have hsn := flatE_snoc trmE acc u
    have hle := flatE_len trmE_len acc
    refine rn1 (jn @rtsSt.eq_1 (jn @rtsRe.eq_1 (jn @rdO4.eq_1 @hi))) ?_
    refine HO_callX ty_ok [0] (hk) (rdr4_hand _ _ _ _ _ _ rfl) (rdr4_wf _ _ _ _) ?_
    rintro v r' ⟨rfl, rfl⟩ _
    refine rn1 (jn @rdr4.eq_1 (jn @rdO4.eq_1 @trmE.eq_1)) ?_
    (repeat (refine And.intro (by omega) ?_))
    refine ⟨⟨i + 1, acc ++ [u], k2, e2, o2⟩, ⟨by simp only; omega, by simp only [List.length_append, List.length_cons, List.length_nil]; omega, hok.1, fun hh => by have := hok.2 hh; simp only; omega, by simp only [List.append_assoc, List.cons_append, List.nil_append]; exact q6⟩, by simp only; omega, [0, 1], [], ?_⟩
    exact ft1 (jn @rtsSt.eq_1 (jn @rtsRe.eq_1 (jn @rdO4.eq_1 (jn @hsn @trmE.eq_1))))
  · have q7 : R = (acc, kk, ee, oo) := by
      by_cases h0 : i < n.toNat
      · rw [rdMany_err (fun he => hlt ⟨h0, he⟩)] at q6
        simpa using q6
      · have hn1 : n.toNat - i = 0 := by omega
        rw [hn1, rdMany] at q6
        simpa using q6
    subst q7
    by_cases h0 : i < n.toNat
    · have hi : (i : Int) < n := by omega
      have he : ¬ ee = 0 := fun he => hlt ⟨h0, he⟩
      refine rn1 (jn @rtsSt.eq_1 (jn @rtsRe.eq_1 (jn @rdO4.eq_1 (jn @hi @he)))) ?_
      exact fv1 [0] [] (jn @rdr4.eq_1 @rdO4.eq_1)
    · have hi : ¬ (i : Int) < n := by omega
      refine rn1 (jn @rtsSt.eq_1 (jn @rtsRe.eq_1 (jn @rdO4.eq_1 @hi))) ?_
      exact fv1 [0] [] (jn @rdr4.eq_1 @rdO4.eq_1)
def rlsSt (n : Int) (x : LsI) : List (Nat × AV) := [(0, .ptr 0 0), (2, .ptr 1 0), (3, .ptr 2 0), (4, .d (.c (.int .i64 n))), (5, .d (.c (.int .i64 x.i)))]
def rlsRe (b : List UInt8) (H : List D) (x : LsI) : Rs := [some (.obj (rdO4 b x.k x.e x.o)), some (.obj (zRul.map .d)), some (.obj (H.map .d ++ [.sl (.own 3) 10 x.acc.length (flatE litE x.acc)])), some (.tok (flatE litE x.acc).length)]
set_option maxHeartbeats 1000000 in
theorem rrul_ac (b : List UInt8) (k e : Int) (o : Bool) (hb : b.length ≤ 140737488355000) (h : okR b k e) (hk : e = 0 → 0 ≤ k ∧ k ≤ b.length) : AC Try.prog noG 42 [.ptr 0 0] (rdr4 b k e o)
    (fun v r' => v = .d (.agg (rulE (rdRul (oddR b) b k e o).1)) ∧ r' = rdr4 b (rdRul (oddR b) b k e o).2.1 (rdRul (oddR b) b k e o).2.2.1 (rdRul (oddR b) b k e o).2.2.2) := by
  refine AC.fit ?_
  refine AC_of_R (N := 52) (res := [.cell 2 59]) ty_ok Try.call42 Try.func42 rfl rfl rfl (Nat.le_of_ble_eq_true rfl) ?_
  obtain ⟨R, hR⟩ : ∃ R, R = rdRul (oddR b) b k e o := ⟨_, rfl⟩
  have hm := hR
  rw [← hR]
  clear hR
  simp only [rdRul, thn, tx4, ct4] at hm
  have hx := rrone_ac4 b k e o hb h hk
  have ho := rdOne_ok (β := oddR b) hb k e o h hk
  generalize rdOne (oddR b) b k e o = x_ at *
  obtain ⟨t1, k1, e1, o1⟩ := x_
  dsimp only at hx ho hm
  have a1 := ho
  refine rn1 (jn @rdr4.eq_1 @rdO4.eq_1) ?_
  refine HO_callX ty_ok [0] (hx) (rdr4_hand _ _ _ _ _ _ rfl) (rdr4_wf _ _ _ _) ?_
  rintro v r' ⟨rfl, rfl⟩ _
  clear hx
  have hx := rrtxt_ac b k1 e1 o1 hb a1.1
  have ho := rdT_ok hb a1.1
  generalize rdT b k1 e1 = x_ at *
  obtain ⟨p, k2, e2⟩ := x_
  dsimp only at hx ho hm
  have a2 := ho
  refine rn1 (jn @rdr4.eq_1 (jn @rdO4.eq_1 @trmE.eq_1)) ?_
  refine HO_callX ty_ok [0] (hx) (rdr4_hand _ _ _ _ _ _ rfl) (rdr4_wf _ _ _ _) ?_
  rintro v r' ⟨rfl, rfl⟩ _
  clear hx
  have hx := rrtms_ac b k2 e2 o1 hb a2.1
  have ho := rdTms_ok (β := oddR b) (o := o1) hb a2.1
  generalize rdTms (oddR b) b k2 e2 o1 = x_ at *
  obtain ⟨l, k3, e3, o3⟩ := x_
  dsimp only at hx ho hm
  have a3 := ho
  refine rn1 (jn @rdr4.eq_1 @rdO4.eq_1) ?_
  refine HO_callX ty_ok [0] (hx) (rdr4_hand _ _ _ _ _ _ rfl) (rdr4_wf _ _ _ _) ?_
  rintro v r' ⟨rfl, rfl⟩ _
  clear hx
  have hx := rrone_ac4 b k3 e3 o3 hb a3.1 (fun he => by have := a3.2.1 he; omega)
  have ho := rdOne_ok (β := oddR b) hb k3 e3 o3 a3.1 (fun he => by have := a3.2.1 he; omega)
  generalize rdOne (oddR b) b k3 e3 o3 = x_ at *
  obtain ⟨t4, k4, e4, o4⟩ := x_
  dsimp only at hx ho hm
  have a4 := ho
  refine rn1 (jn @rdr4.eq_1 @rdO4.eq_1) ?_
  refine HO_callX ty_ok [0] (hx) (rdr4_hand _ _ _ _ _ _ rfl) (rdr4_wf _ _ _ _) ?_
  rintro v r' ⟨rfl, rfl⟩ _
  clear hx
  have hx := rrcnt_ac b 5 k4 e4 o4 hb a4.1
  have ho := rdC_ok (most := 5) (by omega) hb a4.1
  generalize rdC b 5 k4 e4 = x_ at *
  obtain ⟨n, k5, e5⟩ := x_
  dsimp only at hx ho hm
  have a5 := ho
  refine rn1 (jn @rdr4.eq_1 (jn @rdO4.eq_1 @trmE.eq_1)) ?_
  refine HO_callX ty_ok [0] (hx) (rdr4_hand _ _ _ _ _ _ rfl) (rdr4_wf _ _ _ _) ?_
  rintro v r' ⟨rfl, rfl⟩ _
  clear hx
  refine rn1 (jn @rdr4.eq_1 @rdO4.eq_1) ?_
  clear ho
  obtain ⟨Q, hQ⟩ : ∃ Q, Q = rdG (rdLit (oddR b) b) n.toNat k5 e5 o4 := ⟨_, rfl⟩
  rw [← hQ] at hm
  refine HC_loopR (rlsSt n) (rlsRe b (rulH t1 p l t4)) (fun x => x.i ≤ n.toNat ∧ x.acc.length ≤ x.i ∧ okR b x.k x.e ∧ (x.e = 0 → 0 ≤ x.k ∧ x.k ≤ b.length) ∧ Q = (x.acc ++ (rdG (rdLit (oddR b) b) (n.toNat - x.i) x.k x.e x.o).1, (rdG (rdLit (oddR b) b) (n.toNat - x.i) x.k x.e x.o).2)) (fun x => n.toNat - x.i) ⟨0, [], k5, e5, o4⟩ [0, 1, 2, 3] [0] ⟨by simp only; omega, Nat.le_refl _, a5.1, fun he => by have := a5.2.1 he; simp only; omega, by simpa using hQ⟩ ?_ ?_
  · exact ft1 (jn @rlsSt.eq_1 (jn @rlsRe.eq_1 (jn @flatE_nil (jn @rdO4.eq_1 (jn @rulH.eq_1 @zRul.eq_1)))))
  intro ⟨i, acc, kk, ee, oo⟩ ⟨q1, q2, q3, q4, q6⟩
  simp only at q1 q2 q3 q4 q6
  refine HC_of_R ty_ok ?_
  by_cases hlt : i < n.toNat ∧ ee = 0
  · obtain ⟨hlt, he⟩ := hlt
    have hi : (i : Int) < n := by omega
    subst he
    have hn1 : n.toNat - i = (n.toNat - (i + 1)) + 1 := by omega
    rw [hn1, rdG, if_pos rfl] at q6
    obtain ⟨S, hS⟩ : ∃ S, S = rdLit (oddR b) b kk 0 oo := ⟨_, rfl⟩
    have hok := rdLit_ok (β := oddR b) hb kk 0 oo q3 q4
    rw [← hS] at q6 hok
    have hm2 := hm
    clear hm
    have hm := hS
    simp only [rdLit, thn, tx4] at hm
    have hx := rrone_ac4 b kk 0 oo hb q3 q4
    have ho := rdOne_ok (β := oddR b) hb kk 0 oo q3 q4
    generalize rdOne (oddR b) b kk 0 oo = x_ at *
    obtain ⟨u1, m1, f1, x1⟩ := x_
    dsimp only at hx ho hm
    have c1 := ho
    refine rn1 (jn @rlsSt.eq_1 (jn @rlsRe.eq_1 (jn @rdO4.eq_1 (jn @rulH.eq_1 (jn @zRul.eq_1 @hi))))) ?_
    refine HO_callX ty_ok [0] (hx) (rdr4_hand _ _ _ _ _ _ rfl) (rdr4_wf _ _ _ _) ?_
    rintro v r' ⟨rfl, rfl⟩ _
    clear hx
    have hx := rrtxt_ac b m1 f1 x1 hb c1.1
    have ho := rdT_ok hb c1.1
    generalize rdT b m1 f1 = x_ at *
    obtain ⟨up, m2, f2⟩ := x_
    dsimp only at hx ho hm
    have c2 := ho
    refine rn1 (jn @rdr4.eq_1 (jn @rdO4.eq_1 @trmE.eq_1)) ?_
    refine HO_callX ty_ok [0] (hx) (rdr4_hand _ _ _ _ _ _ rfl) (rdr4_wf _ _ _ _) ?_
    rintro v r' ⟨rfl, rfl⟩ _
    clear hx
    have hx := rrtms_ac b m2 f2 x1 hb c2.1
    have ho := rdTms_ok (β := oddR b) (o := x1) hb c2.1
    generalize rdTms (oddR b) b m2 f2 x1 = x_ at *
    obtain ⟨ul, m3, f3, x3⟩ := x_
    dsimp only at hx ho hm
    have c3 := ho
    refine rn1 (jn @rdr4.eq_1 @rdO4.eq_1) ?_
    refine HO_callX ty_ok [0] (hx) (rdr4_hand _ _ _ _ _ _ rfl) (rdr4_wf _ _ _ _) ?_
    rintro v r' ⟨rfl, rfl⟩ _
    clear hx
    have hx := rrone_ac4 b m3 f3 x3 hb c3.1 (fun he => by have := c3.2.1 he; omega)
    have ho := rdOne_ok (β := oddR b) hb m3 f3 x3 c3.1 (fun he => by have := c3.2.1 he; omega)
    generalize rdOne (oddR b) b m3 f3 x3 = x_ at *
    obtain ⟨u4, m4, f4, x4⟩ := x_
    dsimp only at hx ho hm
    have c4 := ho
    refine rn1 (jn @rdr4.eq_1 @rdO4.eq_1) ?_
    refine HO_callX ty_ok [0] (hx) (rdr4_hand _ _ _ _ _ _ rfl) (rdr4_wf _ _ _ _) ?_
    rintro v r' ⟨rfl, rfl⟩ _
    clear hx
    subst hm
    have hsn := flatE_snoc litE acc ⟨u1, up, ul, u4⟩
    have hle := flatE_len litE_len acc
    dsimp only at hok q6
    refine rn1 (jn @rdr4.eq_1 (jn @rdO4.eq_1 @trmE.eq_1)) ?_
    (repeat (refine And.intro (by omega) ?_))
    refine ⟨⟨i + 1, acc ++ [⟨u1, up, ul, u4⟩], m4, f4, x4⟩, ⟨by simp only; omega, by simp only [List.length_append, List.length_cons, List.length_nil]; omega, hok.1, fun hh => by have := hok.2 hh; simp only; omega, by simp only [List.append_assoc, List.cons_append, List.nil_append]; exact q6⟩, by simp only; omega, [0, 1, 2, 3], [], ?_⟩
    exact ft1 (jn @rlsSt.eq_1 (jn @rlsRe.eq_1 (jn @rdO4.eq_1 (jn @rulH.eq_1 (jn @zRul.eq_1 (jn @hsn @litE.eq_1))))))
  · have q7 : Q = (acc, kk, ee, oo) := by
      by_cases h0 : i < n.toNat
      · rw [rdG_err (fun he => hlt ⟨h0, he⟩)] at q6
        simpa using q6
      · have hn1 : n.toNat - i = 0 := by omega
        rw [hn1, rdG] at q6
        simpa using q6
    rw [q7] at hm
    dsimp only at hm
    subst hm
    by_cases h0 : i < n.toNat
    · have hi : (i : Int) < n := by omega
      have he : ¬ ee = 0 := fun he => hlt ⟨h0, he⟩
      refine rn1 (jn @rlsSt.eq_1 (jn @rlsRe.eq_1 (jn @rdO4.eq_1 (jn @rulH.eq_1 (jn @zRul.eq_1 (jn @hi @he)))))) ?_
      exact fv1 [0] [] (jn @rdr4.eq_1 (jn @rdO4.eq_1 @rulE.eq_1))
    · have hi : ¬ (i : Int) < n := by omega
      refine rn1 (jn @rlsSt.eq_1 (jn @rlsRe.eq_1 (jn @rdO4.eq_1 (jn @rulH.eq_1 (jn @zRul.eq_1 @hi))))) ?_
      exact fv1 [0] [] (jn @rdr4.eq_1 (jn @rdO4.eq_1 @rulE.eq_1))
end Go.Proofs.Ytfeoafddagdbfaa
