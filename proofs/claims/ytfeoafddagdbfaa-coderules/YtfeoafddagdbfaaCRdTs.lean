import Derived.Test.YtfeoafddagdbfaaCRdV
set_option linter.unusedVariables false
set_option linter.unusedSimpArgs false
set_option maxRecDepth 100000
namespace Go.Proofs.Ytfeoafddagdbfaa
open Go Go.ChangeShapes Go.WideShapes
theorem flatE_snoc {α : Type} (en : α → List D) (l : List α) (a : α) : flatE en (l ++ [a]) = flatE en l ++ en a := by rw [flatE_app, flatE_one]
def rdMany (β : Int → Int → Bool) (b : List UInt8) : Nat → Int → Int → Bool → List Trm × Int × Int × Bool
  | 0, k, e, o => ([], k, e, o)
  | n + 1, k, e, o => if e = 0 then ((rdTm b k e).1 :: (rdMany β b n (rdTm b k e).2.1 (rdTm b k e).2.2 (o || β k e)).1, (rdMany β b n (rdTm b k e).2.1 (rdTm b k e).2.2 (o || β k e)).2) else ([], k, e, o)
theorem rdMany_err {β : Int → Int → Bool} {b : List UInt8} {k e : Int} {o : Bool} (h : e ≠ 0) : ∀ n, rdMany β b n k e o = ([], k, e, o)
  | 0 => rfl
  | n + 1 => by rw [rdMany, if_neg h]
def rdTms (β : Int → Int → Bool) (b : List UInt8) (k e : Int) (o : Bool) : List Trm × Int × Int × Bool := rdMany β b (rdC b 48 k e).1.toNat (rdC b 48 k e).2.1 (rdC b 48 k e).2.2 o
theorem rdMany_ok {β : Int → Int → Bool} {b : List UInt8} (hb : b.length ≤ 140737488355000) : ∀ (n : Nat) (k e : Int) (o : Bool), okR b k e → (e = 0 → 0 ≤ k ∧ k ≤ b.length) → okR b (rdMany β b n k e o).2.1 (rdMany β b n k e o).2.2.1 ∧ ((rdMany β b n k e o).2.2.1 = 0 → e = 0 ∧ 0 ≤ k ∧ k ≤ (rdMany β b n k e o).2.1 ∧ (rdMany β b n k e o).2.1 ≤ b.length) ∧ (rdMany β b n k e o).1.length ≤ n
  | 0, k, e, o, h, hk => ⟨h, fun he => ⟨he, (hk he).1, Int.le_refl _, (hk he).2⟩, Nat.le_refl _⟩
  | n + 1, k, e, o, h, hk => by
    rw [rdMany]
    split
    · rename_i he
      have h1 := rdTm_ok hb h (fun he => (hk he).1)
      have h2 := rdMany_ok (β := β) hb n (rdTm b k e).2.1 (rdTm b k e).2.2 (o || β k e) h1.1 (fun he => by have := h1.2 he; omega)
      simp only [List.length_cons]
      refine ⟨h2.1, fun hh => ?_, by omega⟩
      have := h2.2.1 hh
      have := h1.2 this.1
      omega
    · simp only [List.length_nil]
      exact ⟨h, fun he => ⟨he, (hk he).1, Int.le_refl _, (hk he).2⟩, Nat.zero_le _⟩
theorem rdTms_ok {β : Int → Int → Bool} {b : List UInt8} {k e : Int} {o : Bool} (hb : b.length ≤ 140737488355000) (h : okR b k e) : okR b (rdTms β b k e o).2.1 (rdTms β b k e o).2.2.1 ∧ ((rdTms β b k e o).2.2.1 = 0 → e = 0 ∧ 0 ≤ k ∧ k < (rdTms β b k e o).2.1 ∧ (rdTms β b k e o).2.1 ≤ b.length) ∧ (rdTms β b k e o).1.length ≤ 48 := by
  have h0 := rdC_ok (most := 48) (by omega) hb h
  have h1 := rdMany_ok (β := β) hb (rdC b 48 k e).1.toNat (rdC b 48 k e).2.1 (rdC b 48 k e).2.2 o h0.1 (fun he => by have := h0.2.1 he; omega)
  unfold rdTms
  refine ⟨h1.1, fun he => ?_, by omega⟩
  have := h1.2.1 he
  have := h0.2.1 this.1
  omega
structure TsI where
  i : Nat
  acc : List Trm
  k : Int
  e : Int
  o : Bool
def tsSt (n : Int) (x : TsI) : List (Nat × AV) := [(0, .ptr 0 0), (1, .ptr 1 0), (6, .sl (.own 2) 4 x.acc.length (flatE trmE x.acc)), (9, .d (.c (.int .i64 n))), (10, .d (.c (.int .i64 x.i)))]
def tsRe (b : List UInt8) (x : TsI) : Rs := [some (.obj (rdO b x.k x.e)), some (.obj [.d (.c (.bool x.o))]), some (.tok (flatE trmE x.acc).length)]
set_option maxHeartbeats 400000 in
theorem tms_ac (b : List UInt8) (k e : Int) (o : Bool) (hb : b.length ≤ 140737488355000) (h : okR b k e) : AC Try.prog noG 71 [.ptr 0 0, .ptr 1 0] (rdb b k e o)
    (fun v r' => v = .d (.sl 4 (rdTms (badC b) b k e o).1.length (flatE trmE (rdTms (badC b) b k e o).1)) ∧ r' = rdb b (rdTms (badC b) b k e o).2.1 (rdTms (badC b) b k e o).2.2.1 (rdTms (badC b) b k e o).2.2.2) := by
  refine AC.fit ?_
  refine AC_of_R (N := 25) (res := [.tmp 4]) ty_ok Try.call71 Try.func71 rfl rfl rfl (Nat.le_of_ble_eq_true rfl) ?_
  have hx := rcnt_ac b 48 k e hb h
  have ho := rdC_ok (most := 48) (by omega) hb h
  have hm : rdTms (badC b) b k e o = rdMany (badC b) b (rdC b 48 k e).1.toNat (rdC b 48 k e).2.1 (rdC b 48 k e).2.2 o := rfl
  generalize rdTms (badC b) b k e o = R at *
  have hne : (rdC b 48 k e).2.2 ≠ 0 → (rdC b 48 k e).1 = 0 := by
    intro hh
    by_cases h0 : (rdN b k e).2.2 = 0
    · by_cases h1 : (rdN b k e).1 < 0 ∨ 48 < (rdN b k e).1
      · have : rdC b 48 k e = (0, (rdN b k e).2.1, 11) := by unfold rdC; rw [if_pos h0, if_pos h1]
        rw [this]
      · have : rdC b 48 k e = rdN b k e := by unfold rdC; rw [if_pos h0, if_neg h1]
        rw [this] at hh; exact absurd h0 hh
    · have : rdC b 48 k e = (0, (rdN b k e).2.1, (rdN b k e).2.2) := by unfold rdC; rw [if_neg h0]
      rw [this]
  generalize rdC b 48 k e = t at *
  obtain ⟨n, k1, e1⟩ := t
  simp only at hx ho hm hne
  refine rn1 (jn @rdb.eq_1 @rdO.eq_1) ?_
  refine HO_callX ty_ok [0] (hx) (rdr_hand _ _ _ _ _ rfl) (rdr_wf _ _ _) ?_
  rintro v r' ⟨rfl, rfl⟩ _
  refine rn1 (jn @rdr.eq_1 @rdO.eq_1) ?_
  refine HC_loopR (tsSt n) (tsRe b) (fun x => x.i ≤ n.toNat ∧ x.acc.length = x.i ∧ okR b x.k x.e ∧ (x.e = 0 → 0 ≤ x.k ∧ x.k ≤ b.length) ∧ (x.i < n.toNat → x.e = 0) ∧ R = (x.acc ++ (rdMany (badC b) b (n.toNat - x.i) x.k x.e x.o).1, (rdMany (badC b) b (n.toNat - x.i) x.k x.e x.o).2)) (fun x => n.toNat - x.i) ⟨0, [], k1, e1, o⟩ [0, 1, 2] [0] ⟨by simp only; omega, rfl, ho.1, fun he => by have := ho.2.1 he; simp only; omega, fun hh => by simp only at hh ⊢; by_cases h0 : e1 = 0; exact h0; have := hne h0; omega, by simpa using hm⟩ ?_ ?_
  · exact ft1 (jn @tsSt.eq_1 (jn @tsRe.eq_1 (jn @flatE_nil @rdO.eq_1)))
  intro ⟨i, acc, kk, ee, oo⟩ ⟨q1, q2, q3, q4, q5, q6⟩
  simp only at q1 q2 q3 q4 q5 q6
  refine HC_of_R ty_ok ?_
  by_cases hlt : i < n.toNat
  · have hi : (i : Int) < n := by omega
    have he := q5 hlt
    subst he
    have hn1 : n.toNat - i = (n.toNat - (i + 1)) + 1 := by omega
    rw [hn1, rdMany, if_pos rfl] at q6
    have hk := one_ac b kk 0 oo hb q3 (fun _ => (q4 rfl).1)
    have hok := rdTm_ok hb q3 (fun _ => (q4 rfl).1)
    generalize rdTm b kk 0 = t at *
    generalize (oo || badC b kk 0) = o2 at *
    obtain ⟨u, k2, e2⟩ := t
    simp only at q6 hk hok
    have hsn := flatE_snoc trmE acc u
    have hle := flatE_len trmE_len acc
    refine rn1 (jn @tsSt.eq_1 (jn @tsRe.eq_1 (jn @rdO.eq_1 @hi))) ?_
    refine HO_callX ty_ok [0, 1] hk (rdb_hand _ _ _ _ _ _ _ rfl rfl) (rdb_wf _ _ _ _) ?_
    rintro v r' ⟨rfl, rfl⟩ _
    by_cases h0 : e2 = 0
    · subst h0
      refine rn1 (jn @rdb.eq_1 (jn @rdO.eq_1 @trmE.eq_1)) ?_
      (repeat (refine And.intro (by omega) ?_))
      refine ⟨⟨i + 1, acc ++ [u], k2, 0, o2⟩, ⟨by simp only; omega, by simp only [List.length_append, List.length_cons, List.length_nil]; omega, hok.1, fun hh => by have := hok.2 hh; simp only; omega, fun _ => rfl, by simp only [List.append_assoc, List.cons_append, List.nil_append]; exact q6⟩, by simp only; omega, [0, 1, 2], [], ?_⟩
      exact ft1 (jn @tsSt.eq_1 (jn @tsRe.eq_1 (jn @rdO.eq_1 (jn @hsn @trmE.eq_1))))
    · rw [rdMany_err h0] at q6
      simp only at q6
      obtain ⟨R1, R2, R3, R4⟩ := R
      simp only [Prod.mk.injEq] at q6
      obtain ⟨rfl, rfl, rfl, rfl⟩ := q6
      have hln : (acc ++ [u]).length = acc.length + 1 := by simp
      rw [hln, hsn]
      refine rn1 (jn @rdb.eq_1 (jn @rdO.eq_1 (jn @trmE.eq_1 @h0))) ?_
      (repeat (refine And.intro (by omega) ?_))
      exact fv1 [0,1] [] (jn @rdb.eq_1 (jn @rdO.eq_1 (jn @hsn @trmE.eq_1)))
  · have hi : ¬ (i : Int) < n := by omega
    have hn1 : n.toNat - i = 0 := by omega
    rw [hn1, rdMany] at q6
    simp only [List.append_nil] at q6
    obtain ⟨R1, R2, R3, R4⟩ := R
    simp only [Prod.mk.injEq] at q6
    obtain ⟨rfl, rfl, rfl, rfl⟩ := q6
    refine rn1 (jn @tsSt.eq_1 (jn @tsRe.eq_1 (jn @rdO.eq_1 @hi))) ?_
    exact fv1 [0,1] [] (jn @rdb.eq_1 @rdO.eq_1)
end Go.Proofs.Ytfeoafddagdbfaa
