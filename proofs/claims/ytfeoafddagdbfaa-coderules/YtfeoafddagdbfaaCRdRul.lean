import Derived.Test.YtfeoafddagdbfaaCRdR
set_option linter.unusedVariables false
set_option linter.unusedSimpArgs false
set_option maxRecDepth 100000
namespace Go.Proofs.Ytfeoafddagdbfaa
open Go Go.ChangeShapes Go.WideShapes
theorem one_ac4 (b : List UInt8) (k e : Int) (o : Bool) (hb : b.length ≤ 140737488355000) (h : okR b k e) (hk : e = 0 → 0 ≤ k ∧ k ≤ b.length) : AC Try.prog noG 70 [.ptr 0 0, .ptr 1 0] (rdb b k e o)
    (fun v r' => v = .d (.agg (trmE (rdOne (badC b) b k e o).1)) ∧ r' = rdb b (rdOne (badC b) b k e o).2.1 (rdOne (badC b) b k e o).2.2.1 (rdOne (badC b) b k e o).2.2.2) := one_ac b k e o hb h (fun he => (hk he).1)
structure LsI where
  i : Nat
  acc : List Lit
  k : Int
  e : Int
  o : Bool
def lsSt (n : Int) (x : LsI) : List (Nat × AV) := [(0, .ptr 0 0), (1, .ptr 1 0), (4, .ptr 2 0), (5, .ptr 3 0), (6, .d (.c (.int .i64 n))), (7, .d (.c (.int .i64 x.i)))]
def zRul : List D := [.c (.string ⟨#[]⟩), .c (.bool false), .c (.int .i64 0), .c (.string ⟨#[]⟩), .c (.string ⟨#[]⟩), .c (.slice none 0 0), .c (.string ⟨#[]⟩), .c (.bool false), .c (.int .i64 0), .c (.string ⟨#[]⟩), .c (.slice none 0 0)]
def lsRe (b : List UInt8) (H : List D) (x : LsI) : Rs := [some (.obj (rdO b x.k x.e)), some (.obj [.d (.c (.bool x.o))]), some (.obj (zRul.map .d)), some (.obj (H.map .d ++ [.sl (.own 4) 10 x.acc.length (flatE litE x.acc)])), some (.tok (flatE litE x.acc).length)]
set_option maxHeartbeats 1000000 in
theorem rul_ac (b : List UInt8) (k e : Int) (o : Bool) (hb : b.length ≤ 140737488355000) (h : okR b k e) (hk : e = 0 → 0 ≤ k ∧ k ≤ b.length) : AC Try.prog noG 40 [.ptr 0 0, .ptr 1 0] (rdb b k e o)
    (fun v r' => v = .d (.agg (rulE (rdRul (badC b) b k e o).1)) ∧ r' = rdb b (rdRul (badC b) b k e o).2.1 (rdRul (badC b) b k e o).2.2.1 (rdRul (badC b) b k e o).2.2.2) := by
  refine AC.fit ?_
  refine AC_of_R (N := 58) (res := [.cell 4 59]) ty_ok Try.call40 Try.func40 rfl rfl rfl (Nat.le_of_ble_eq_true rfl) ?_
  obtain ⟨R, hR⟩ : ∃ R, R = rdRul (badC b) b k e o := ⟨_, rfl⟩
  have hm := hR
  rw [← hR]
  clear hR
  simp only [rdRul, thn, tx4, ct4] at hm
  have hx := one_ac4 b k e o hb h hk
  have ho := rdOne_ok (β := badC b) hb k e o h hk
  generalize rdOne (badC b) b k e o = x_ at *
  obtain ⟨t1, k1, e1, o1⟩ := x_
  dsimp only at hx ho hm
  have a1 := ho
  refine rn1 (jn @rdb.eq_1 @rdO.eq_1) ?_
  refine HO_callX ty_ok [0, 1] (hx) (rdb_hand _ _ _ _ _ _ _ rfl rfl) (rdb_wf _ _ _ _) ?_
  rintro v r' ⟨rfl, rfl⟩ _
  clear hx
  have hx := rtxt_ac b k1 e1 hb a1.1
  have ho := rdT_ok hb a1.1
  generalize rdT b k1 e1 = x_ at *
  obtain ⟨p, k2, e2⟩ := x_
  dsimp only at hx ho hm
  have a2 := ho
  refine rn1 (jn @rdb.eq_1 (jn @rdO.eq_1 @trmE.eq_1)) ?_
  refine HO_callX ty_ok [0] (hx) (rdr_hand _ _ _ _ _ rfl) (rdr_wf _ _ _) ?_
  rintro v r' ⟨rfl, rfl⟩ _
  clear hx
  have hx := tms_ac b k2 e2 o1 hb a2.1
  have ho := rdTms_ok (β := badC b) (o := o1) hb a2.1
  generalize rdTms (badC b) b k2 e2 o1 = x_ at *
  obtain ⟨l, k3, e3, o3⟩ := x_
  dsimp only at hx ho hm
  have a3 := ho
  refine rn1 (jn @rdr.eq_1 @rdO.eq_1) ?_
  refine HO_callX ty_ok [0, 1] (hx) (rdb_hand _ _ _ _ _ _ _ rfl rfl) (rdb_wf _ _ _ _) ?_
  rintro v r' ⟨rfl, rfl⟩ _
  clear hx
  have hx := one_ac4 b k3 e3 o3 hb a3.1 (fun he => by have := a3.2.1 he; omega)
  have ho := rdOne_ok (β := badC b) hb k3 e3 o3 a3.1 (fun he => by have := a3.2.1 he; omega)
  generalize rdOne (badC b) b k3 e3 o3 = x_ at *
  obtain ⟨t4, k4, e4, o4⟩ := x_
  dsimp only at hx ho hm
  have a4 := ho
  refine rn1 (jn @rdb.eq_1 @rdO.eq_1) ?_
  refine HO_callX ty_ok [0, 1] (hx) (rdb_hand _ _ _ _ _ _ _ rfl rfl) (rdb_wf _ _ _ _) ?_
  rintro v r' ⟨rfl, rfl⟩ _
  clear hx
  have hx := rcnt_ac b 5 k4 e4 hb a4.1
  have ho := rdC_ok (most := 5) (by omega) hb a4.1
  generalize rdC b 5 k4 e4 = x_ at *
  obtain ⟨n, k5, e5⟩ := x_
  dsimp only at hx ho hm
  have a5 := ho
  refine rn1 (jn @rdb.eq_1 (jn @rdO.eq_1 @trmE.eq_1)) ?_
  refine HO_callX ty_ok [0] (hx) (rdr_hand _ _ _ _ _ rfl) (rdr_wf _ _ _) ?_
  rintro v r' ⟨rfl, rfl⟩ _
  clear hx
  refine rn1 (jn @rdr.eq_1 @rdO.eq_1) ?_
  clear ho
  obtain ⟨Q, hQ⟩ : ∃ Q, Q = rdG (rdLit (badC b) b) n.toNat k5 e5 o4 := ⟨_, rfl⟩
  rw [← hQ] at hm
  refine HC_loopR (lsSt n) (lsRe b (rulH t1 p l t4)) (fun x => x.i ≤ n.toNat ∧ x.acc.length ≤ x.i ∧ okR b x.k x.e ∧ (x.e = 0 → 0 ≤ x.k ∧ x.k ≤ b.length) ∧ Q = (x.acc ++ (rdG (rdLit (badC b) b) (n.toNat - x.i) x.k x.e x.o).1, (rdG (rdLit (badC b) b) (n.toNat - x.i) x.k x.e x.o).2)) (fun x => n.toNat - x.i) ⟨0, [], k5, e5, o4⟩ [0, 1, 2, 3, 4] [0] ⟨by simp only; omega, Nat.le_refl _, a5.1, fun he => by have := a5.2.1 he; simp only; omega, by simpa using hQ⟩ ?_ ?_
  · exact ft1 (jn @lsSt.eq_1 (jn @lsRe.eq_1 (jn @flatE_nil (jn @rdO.eq_1 (jn @rulH.eq_1 @zRul.eq_1)))))
  intro ⟨i, acc, kk, ee, oo⟩ ⟨q1, q2, q3, q4, q6⟩
  simp only at q1 q2 q3 q4 q6
  refine HC_of_R ty_ok ?_
  by_cases hlt : i < n.toNat ∧ ee = 0
  · obtain ⟨hlt, he⟩ := hlt
    have hi : (i : Int) < n := by omega
    subst he
    have hn1 : n.toNat - i = (n.toNat - (i + 1)) + 1 := by omega
    rw [hn1, rdG, if_pos rfl] at q6
    obtain ⟨S, hS⟩ : ∃ S, S = rdLit (badC b) b kk 0 oo := ⟨_, rfl⟩
    have hok := rdLit_ok (β := badC b) hb kk 0 oo q3 q4
    rw [← hS] at q6 hok
    have hm2 := hm
    clear hm
    have hm := hS
    simp only [rdLit, thn, tx4] at hm
    have hx := one_ac4 b kk 0 oo hb q3 q4
    have ho := rdOne_ok (β := badC b) hb kk 0 oo q3 q4
    generalize rdOne (badC b) b kk 0 oo = x_ at *
    obtain ⟨u1, m1, f1, x1⟩ := x_
    dsimp only at hx ho hm
    have c1 := ho
    refine rn1 (jn @lsSt.eq_1 (jn @lsRe.eq_1 (jn @rdO.eq_1 (jn @rulH.eq_1 (jn @zRul.eq_1 @hi))))) ?_
    refine HO_callX ty_ok [0, 1] (hx) (rdb_hand _ _ _ _ _ _ _ rfl rfl) (rdb_wf _ _ _ _) ?_
    rintro v r' ⟨rfl, rfl⟩ _
    clear hx
    have hx := rtxt_ac b m1 f1 hb c1.1
    have ho := rdT_ok hb c1.1
    generalize rdT b m1 f1 = x_ at *
    obtain ⟨up, m2, f2⟩ := x_
    dsimp only at hx ho hm
    have c2 := ho
    refine rn1 (jn @rdb.eq_1 (jn @rdO.eq_1 @trmE.eq_1)) ?_
    refine HO_callX ty_ok [0] (hx) (rdr_hand _ _ _ _ _ rfl) (rdr_wf _ _ _) ?_
    rintro v r' ⟨rfl, rfl⟩ _
    clear hx
    have hx := tms_ac b m2 f2 x1 hb c2.1
    have ho := rdTms_ok (β := badC b) (o := x1) hb c2.1
    generalize rdTms (badC b) b m2 f2 x1 = x_ at *
    obtain ⟨ul, m3, f3, x3⟩ := x_
    dsimp only at hx ho hm
    have c3 := ho
    refine rn1 (jn @rdr.eq_1 @rdO.eq_1) ?_
    refine HO_callX ty_ok [0, 1] (hx) (rdb_hand _ _ _ _ _ _ _ rfl rfl) (rdb_wf _ _ _ _) ?_
    rintro v r' ⟨rfl, rfl⟩ _
    clear hx
    have hx := one_ac4 b m3 f3 x3 hb c3.1 (fun he => by have := c3.2.1 he; omega)
    have ho := rdOne_ok (β := badC b) hb m3 f3 x3 c3.1 (fun he => by have := c3.2.1 he; omega)
    generalize rdOne (badC b) b m3 f3 x3 = x_ at *
    obtain ⟨u4, m4, f4, x4⟩ := x_
    dsimp only at hx ho hm
    have c4 := ho
    refine rn1 (jn @rdb.eq_1 @rdO.eq_1) ?_
    refine HO_callX ty_ok [0, 1] (hx) (rdb_hand _ _ _ _ _ _ _ rfl rfl) (rdb_wf _ _ _ _) ?_
    rintro v r' ⟨rfl, rfl⟩ _
    clear hx
    subst hm
    have hsn := flatE_snoc litE acc ⟨u1, up, ul, u4⟩
    have hle := flatE_len litE_len acc
    dsimp only at hok q6
    refine rn1 (jn @rdb.eq_1 (jn @rdO.eq_1 @trmE.eq_1)) ?_
    (repeat (refine And.intro (by omega) ?_))
    refine ⟨⟨i + 1, acc ++ [⟨u1, up, ul, u4⟩], m4, f4, x4⟩, ⟨by simp only; omega, by simp only [List.length_append, List.length_cons, List.length_nil]; omega, hok.1, fun hh => by have := hok.2 hh; simp only; omega, by simp only [List.append_assoc, List.cons_append, List.nil_append]; exact q6⟩, by simp only; omega, [0, 1, 2, 3, 4], [], ?_⟩
    exact ft1 (jn @lsSt.eq_1 (jn @lsRe.eq_1 (jn @rdO.eq_1 (jn @rulH.eq_1 (jn @zRul.eq_1 (jn @hsn @litE.eq_1))))))
  · have q7 : Q = (acc, kk, ee, oo) := by
      by_cases h0 : i < n.toNat
      · rw [rdG_err (fun he => hlt ⟨h0, he⟩)] at q6
        simpa using q6
      · have hn1 : n.toNat - i = 0 := by omega
        rw [hn1, rdG] at q6
        simpa using q6
    rw [q7] at hm
    dsimp only at hm
    subst hm
    by_cases h0 : i < n.toNat
    · have hi : (i : Int) < n := by omega
      have he : ¬ ee = 0 := fun he => hlt ⟨h0, he⟩
      refine rn1 (jn @lsSt.eq_1 (jn @lsRe.eq_1 (jn @rdO.eq_1 (jn @rulH.eq_1 (jn @zRul.eq_1 (jn @hi @he)))))) ?_
      exact fv1 [0,1] [] (jn @rdb.eq_1 (jn @rdO.eq_1 @rulE.eq_1))
    · have hi : ¬ (i : Int) < n := by omega
      refine rn1 (jn @lsSt.eq_1 (jn @lsRe.eq_1 (jn @rdO.eq_1 (jn @rulH.eq_1 (jn @zRul.eq_1 @hi))))) ?_
      exact fv1 [0,1] [] (jn @rdb.eq_1 (jn @rdO.eq_1 @rulE.eq_1))
end Go.Proofs.Ytfeoafddagdbfaa
