/- Parts of the proof: RoundT, PutC, Term, PutT, PutTs, PutF, RPutF. -/
import Derived.Test.YtdbicadncccpoaaDoorCJ6
import Derived.Test.YtdbicadncccpoaaDoorCJ2
import Derived.Test.YtdbicadncccpoaaDoorCJ5
set_option linter.unusedVariables false
set_option linter.unusedSimpArgs false
set_option maxRecDepth 100000
namespace Go.Proofs.YtdbicadncccpoaaDoor
open Go Go.ChangeShapes Go.WideShapes
theorem zag_zig {n : Int} : zag (zig n) = n := by unfold zag zig; split <;> split <;> omega
theorem zig_zag (u : Nat) : zig (zag u) = u := by unfold zag; split <;> unfold zig <;> split <;> omega
theorem pow_step (i : Nat) : 2 ^ (7 * (i + 1)) = 128 * 2 ^ (7 * i) := by rw [Nat.mul_add, Nat.pow_add, Nat.mul_comm]
/-- What was laid is read. -/
theorem rdAt_leb (at_ : Nat) (more : List UInt8) : ∀ (v i u : Nat), (i = 0 ∨ v ≠ 0) → v * 2 ^ (7 * i) < 2 ^ 64 → i ≤ 9 →
    rdAt at_ i u (leb v ++ more) = (zag (u + v * 2 ^ (7 * i)), ((at_ + i + (leb v).length : Nat) : Int), 0) := by
  intro v
  induction v using Nat.strongRecOn with
  | _ v ih =>
    intro i u h0 hv hi
    by_cases h : v < 128
    · rw [leb_one h]
      simp only [List.cons_append, List.nil_append, rdAt, List.length_cons, List.length_nil, Nat.zero_add]
      have e : (UInt8.ofNat v).toNat = v := by rw [u8_toNat]; omega
      rw [e]
      have h9 : ¬ (i = 9 ∧ 1 < v) := by
        rintro ⟨rfl, h1⟩
        have : 2 * 2 ^ (7 * 9) ≤ v * 2 ^ (7 * 9) := Nat.mul_le_mul_right _ h1
        omega
      rw [if_neg h9, if_neg (by omega), if_neg (by omega), Nat.mod_eq_of_lt h]
    · rw [leb_more h]
      simp only [List.cons_append, rdAt, List.length_cons]
      have e : (UInt8.ofNat (v % 128 + 128)).toNat = v % 128 + 128 := by rw [u8_toNat]; omega
      rw [e]
      have hi8 : i < 9 := by
        rcases Nat.lt_or_ge i 9 with h | h
        · exact h
        · have h9 : i = 9 := by omega
          subst h9
          have : 128 * 2 ^ (7 * 9) ≤ v * 2 ^ (7 * 9) := Nat.mul_le_mul_right _ (by omega)
          omega
      rw [if_neg (by omega), if_pos (by omega)]
      have hd : 128 * (v / 128) + v % 128 = v := by omega
      have key : v * 2 ^ (7 * i) = v / 128 * 2 ^ (7 * (i + 1)) + v % 128 * 2 ^ (7 * i) := by
        rw [pow_step, ← Nat.mul_assoc, ← Nat.add_mul, Nat.mul_comm (v / 128) 128, hd]
      rw [ih (v / 128) (by omega) (i + 1) _ (by omega) (by omega) (by omega)]
      have e2 : (v % 128 + 128) % 128 = v % 128 := by omega
      rw [e2]
      refine Prod.ext ?_ (Prod.ext ?_ rfl)
      · show zag _ = zag _
        congr 1; omega
      · simp only; omega
theorem rdInt_put (b : List UInt8) (n : Int) (more : List UInt8) (h0 : -9223372036854775808 ≤ n) (h1 : n ≤ 9223372036854775807) :
    rdInt (b ++ leb (zig n) ++ more) b.length = (n, ((b.length + (leb (zig n)).length : Nat) : Int), 0) := by
  have hz := zig_lt h0 h1
  rw [rdInt, if_neg (by simp only [List.length_append]; omega), Int.toNat_natCast, List.append_assoc, List.drop_left, rdAt_leb _ _ _ _ _ (.inl rfl) (by omega) (by omega)]
  simp only [Nat.zero_add, Nat.mul_zero, Nat.pow_zero, Nat.mul_one, Nat.add_zero, zag_zig]
theorem cnt_put (b : List UInt8) (n : Nat) (more : List UInt8) (h : n ≤ 65536) :
    cnt (b ++ leb (zig n) ++ more) b.length 65536 = ((n : Int), ((b.length + (leb (zig n)).length : Nat) : Int), 0) := by
  rw [cnt, rdInt_put b n more (by omega) (by omega), if_neg (by simp), if_neg (by simp only; omega)]
theorem txt_put (b : List UInt8) (s : ByteArray) (more : List UInt8) (h : s.size ≤ 65536) :
    txt (putTx b s ++ more) b.length = (s, (((putTx b s).length : Nat) : Int), 0) := by
  have hc := cnt_put b s.size (s.toList ++ more) h
  have hl := putTx_len b s
  have hsl := tl_len s
  rw [← List.append_assoc] at hc
  rw [txt, show putTx b s ++ more = b ++ leb (zig s.size) ++ s.toList ++ more from rfl, hc, if_neg (by simp), if_neg (by simp only [List.length_append]; omega)]
  refine Prod.ext ?_ (Prod.ext ?_ rfl)
  · simp only [Int.toNat_natCast]
    rw [List.append_assoc, ← List.length_append, List.drop_left, ← hsl, List.take_left, Go.ByteArray.toList_eq]
  · simp only; omega
/-- What is read was laid so. -/
theorem rdAt_inv (at_ : Nat) : ∀ (l : List UInt8) (i u : Nat) (m nx : Int), rdAt at_ i u l = (m, nx, 0) →
    ∃ v, m = zag (u + v * 2 ^ (7 * i)) ∧ nx = ((at_ + i + (leb v).length : Nat) : Int) ∧ (leb v).length ≤ l.length ∧ l.take (leb v).length = leb v ∧ (i = 0 ∨ v ≠ 0)
  | [], i, u, m, nx, h => by simp [rdAt] at h
  | c :: l, i, u, m, nx, h => by
    have hc := c.toNat_lt
    rw [rdAt] at h
    split at h
    · simp at h
    · split at h
      · obtain ⟨v, h1, h2, h3, h4, h5⟩ := rdAt_inv at_ l (i + 1) _ m nx h
        have hv : ¬ c.toNat % 128 + 128 * v < 128 := by omega
        have e1 : (c.toNat % 128 + 128 * v) % 128 = c.toNat % 128 := by omega
        have e2 : (c.toNat % 128 + 128 * v) / 128 = v := by omega
        have e3 : UInt8.ofNat (c.toNat % 128 + 128) = c := by
          have : c.toNat % 128 + 128 = c.toNat := by omega
          rw [this, UInt8.ofNat_toNat]
        have hL : leb (c.toNat % 128 + 128 * v) = c :: leb v := by rw [leb_more hv, e1, e2, e3]
        refine ⟨c.toNat % 128 + 128 * v, ?_, ?_, ?_, ?_, .inr (by omega)⟩
        · rw [h1, pow_step, Nat.add_mul, ← Nat.mul_assoc, Nat.mul_comm v 128, Nat.add_assoc]
        · rw [h2, hL, List.length_cons]; congr 1; omega
        · rw [hL, List.length_cons, List.length_cons]; omega
        · rw [hL, List.length_cons, List.take_succ_cons, h4]
      · split at h
        · simp at h
        · injection h with h1 h; injection h with h2 _
          have e1 : c.toNat % 128 = c.toNat := by omega
          have hL : leb c.toNat = [c] := by rw [leb_one (by omega), UInt8.ofNat_toNat]
          refine ⟨c.toNat, by rw [← h1, e1], by rw [← h2, hL]; rfl, by rw [hL]; simp, by rw [hL]; simp, by omega⟩
theorem rdInt_inv (b : List UInt8) (k m nx : Int) (h : rdInt b k = (m, nx, 0)) :
    ∃ kn : Nat, k = kn ∧ nx = ((kn + (leb (zig m)).length : Nat) : Int) ∧ kn + (leb (zig m)).length ≤ b.length ∧ (b.drop kn).take (leb (zig m)).length = leb (zig m) := by
  unfold rdInt at h
  split at h
  · simp at h
  · obtain ⟨v, h1, h2, h3, h4, _⟩ := rdAt_inv k.toNat _ 0 0 m nx h
    have hz : zig m = v := by rw [h1]; simp only [Nat.zero_add, Nat.mul_zero, Nat.pow_zero, Nat.mul_one, zig_zag]
    rw [List.length_drop] at h3
    rw [hz]
    exact ⟨k.toNat, by omega, by rw [h2]; rfl, by omega, h4⟩
theorem txt_inv (b : List UInt8) (k : Int) (t : ByteArray) (nx : Int) (h : txt b k = (t, nx, 0)) :
    ∃ kn : Nat, k = kn ∧ nx = ((kn + (putTx [] t).length : Nat) : Int) ∧ kn + (putTx [] t).length ≤ b.length ∧ (b.drop kn).take (putTx [] t).length = putTx [] t ∧ t.size ≤ 65536 := by
  have hcb := cnt_bd b k 65536
  unfold txt at h
  split at h
  · rename_i h1; simp at h; exact absurd h.2.2 h1
  · rename_i he
    split at h
    · simp at h
    · rename_i hn
      injection h with h1 h; injection h with h2 _
      simp only [ne_eq, Decidable.not_not] at he
      have hr : rdInt b k = ((cnt b k 65536).1, (cnt b k 65536).2.1, 0) := by
        have hu : cnt b k 65536 = if (rdInt b k).2.2 ≠ 0 then (0, 0, (rdInt b k).2.2) else if (rdInt b k).1 < 0 ∨ 65536 < (rdInt b k).1 then (0, 0, 11) else rdInt b k := rfl
        split at hu
        · rename_i hh; rw [hu] at he; exact absurd he hh
        · split at hu
          · rw [hu] at he; simp at he
          · rw [← hu]; exact Prod.ext rfl (Prod.ext rfl he)
      obtain ⟨kn, hk, g2, g3, g4⟩ := rdInt_inv b k _ _ hr
      generalize cnt b k 65536 = c at *
      obtain ⟨n, x, e⟩ := c
      simp only at *
      obtain ⟨nn, rfl⟩ := Int.eq_ofNat_of_zero_le hcb.1.1
      have e1 : x.toNat = kn + (leb (zig nn)).length := by omega
      have hts : t.size = nn := by
        rw [← h1]; simp only [ByteArray.size, List.size_toArray, List.length_take, List.length_drop]; omega
      have htl : t.toList = (b.drop (kn + (leb (zig nn)).length)).take nn := by
        rw [← h1, Go.ByteArray.toList_eq, e1]; simp
      have hpl := putTx_len [] t
      simp only [List.length_nil, Nat.zero_add, hts] at hpl
      refine ⟨kn, hk, by omega, by omega, ?_, by omega⟩
      rw [hpl, List.take_add, g4, List.drop_drop, putTx, hts, htl, List.nil_append]
end Go.Proofs.YtdbicadncccpoaaDoor

set_option linter.unusedVariables false
set_option linter.unusedSimpArgs false
set_option maxRecDepth 100000
namespace Go.Proofs.YtdbicadncccpoaaDoor
open Go Go.ChangeShapes Go.WideShapes
def putC (b : List UInt8) (c : Cst) : List UInt8 := if c.num then b ++ [0] ++ leb (zig c.n) else putTx (b ++ [1]) c.s
def okC (c : Cst) : Prop := -9223372036854775808 ≤ c.n ∧ c.n ≤ 9223372036854775807
theorem leb64_len {n : Int} (h0 : -9223372036854775808 ≤ n) (h1 : n ≤ 9223372036854775807) : (leb (zig n)).length ≤ 10 := leb_len 9 _ (by have := zig_lt h0 h1; omega)
theorem l1 (b : List UInt8) (x : UInt8) : (b ++ [x]).length = b.length + 1 := by simp
theorem l2 (b : List UInt8) (x : UInt8) (l : List UInt8) : (b ++ [x] ++ l).length = b.length + 1 + l.length := by simp; omega
theorem l3 (b : List UInt8) (x : UInt8) (s : ByteArray) : (putTx (b ++ [x]) s).length = b.length + 1 + (leb (zig s.size)).length + s.size := by rw [putTx_len, l1]
set_option maxHeartbeats 400000 in
theorem putC_ac (b : List UInt8) (c : Cst) (hc : okC c) (hb : b.length + c.s.size ≤ 140737488350000) : AC Tryd.prog noG 61 [.sl (.own 0) 1 b.length (bD b), .d (.agg (cstE c))] [some (.tok b.length)]
    (fun v r' => v = .sl (.own 1) 1 (putC b c).length (bD (putC b c)) ∧ r' = [none, some (.tok (putC b c).length)]) := by
  refine AC.fit ?_
  refine AC_of_R (N := 19) (res := [.tmp 4]) ty_ok Tryd.call61 Tryd.func61 rfl rfl rfl (Nat.le_of_ble_eq_true rfl) ?_
  obtain ⟨q, n, s⟩ := c
  obtain ⟨h0, h1⟩ := hc
  simp only at h0 h1 hb
  cases q with
  | true =>
    have e : putC b ⟨true, n, s⟩ = b ++ [0] ++ leb (zig n) := rfl
    rw [e, l2]
    refine rn1 @cstE.eq_1 ?_
    refine HC_of_HV mix ?_
    refine HV_split 4 2 (by decide) ?_ ?_
    · simp only [addAt]
      refine HV_order [] ty_ok [0, 3, 4, 1, 2, 5, 6] (by kernel_rfl) rfl _ rfl ?_
      simp only [opl_nil', opl_cons', oplC_some, List.getElem?_toArray, List.getElem?_cons_zero, List.getElem?_cons_succ]
      refine rn0 ?_
      (repeat (refine And.intro (by omega) ?_))
      have kk := putInt_ac (b ++ [0]) n h0 h1 (by simp; omega)
      rw [l1] at kk
      refine HO_callX ty_ok [] kk (trivial) rfl ?_
      rintro v r' ⟨rfl, rfl⟩ _
      refine rn1 (jn @l2 @l3) ?_
      exact fv0 [0,2] []
    · simp only [addAt]
      refine HV_order [] ty_ok [0, 3, 1, 2, 4, 5, 6] (by kernel_rfl) rfl _ rfl ?_
      simp only [opl_nil', opl_cons', oplC_some, List.getElem?_toArray, List.getElem?_cons_zero, List.getElem?_cons_succ]
      refine rn0 ?_
      (repeat (refine And.intro (by omega) ?_))
      have kk := putInt_ac (b ++ [0]) n h0 h1 (by simp; omega)
      rw [l1] at kk
      refine HO_callX ty_ok [] kk (trivial) rfl ?_
      rintro v r' ⟨rfl, rfl⟩ _
      refine rn1 (jn @l2 @l3) ?_
      exact fv0 [0,2] []
  | false =>
    have e : putC b ⟨false, n, s⟩ = putTx (b ++ [1]) s := rfl
    rw [e, l3]
    refine rn1 @cstE.eq_1 ?_
    refine HC_of_HV mix ?_
    refine HV_split 4 2 (by decide) ?_ ?_
    · simp only [addAt]
      refine HV_order [] ty_ok [0, 3, 4, 1, 2, 5, 6] (by kernel_rfl) rfl _ rfl ?_
      simp only [opl_nil', opl_cons', oplC_some, List.getElem?_toArray, List.getElem?_cons_zero, List.getElem?_cons_succ]
      refine rn0 ?_
      (repeat (refine And.intro (by omega) ?_))
      have kk := putText_ac (b ++ [1]) s (by simp; omega) (by simp; omega)
      rw [l1] at kk
      refine HO_callX ty_ok [] kk (trivial) rfl ?_
      rintro v r' ⟨rfl, rfl⟩ _
      refine rn1 (jn @l2 @l3) ?_
      exact fv0 [0,2] []
    · simp only [addAt]
      refine HV_order [] ty_ok [0, 3, 1, 2, 4, 5, 6] (by kernel_rfl) rfl _ rfl ?_
      simp only [opl_nil', opl_cons', oplC_some, List.getElem?_toArray, List.getElem?_cons_zero, List.getElem?_cons_succ]
      refine rn0 ?_
      (repeat (refine And.intro (by omega) ?_))
      have kk := putText_ac (b ++ [1]) s (by simp; omega) (by simp; omega)
      rw [l1] at kk
      refine HO_callX ty_ok [] kk (trivial) rfl ?_
      rintro v r' ⟨rfl, rfl⟩ _
      refine rn1 (jn @l2 @l3) ?_
      exact fv0 [0,2] []
set_option maxHeartbeats 400000 in
theorem rputC_ac (b : List UInt8) (c : Cst) (hc : okC c) (hb : b.length + c.s.size ≤ 140737488350000) : AC Tryd.prog noG 71 [.sl (.own 0) 1 b.length (bD b), .d (.agg (cstE c))] [some (.tok b.length)]
    (fun v r' => v = .sl (.own 1) 1 (putC b c).length (bD (putC b c)) ∧ r' = [none, some (.tok (putC b c).length)]) := by
  refine AC.fit ?_
  refine AC_of_R (N := 19) (res := [.tmp 4]) ty_ok Tryd.call71 Tryd.func71 rfl rfl rfl (Nat.le_of_ble_eq_true rfl) ?_
  obtain ⟨q, n, s⟩ := c
  obtain ⟨h0, h1⟩ := hc
  simp only at h0 h1 hb
  cases q with
  | true =>
    have e : putC b ⟨true, n, s⟩ = b ++ [0] ++ leb (zig n) := rfl
    rw [e, l2]
    refine rn1 @cstE.eq_1 ?_
    refine HC_of_HV mix ?_
    refine HV_split 4 2 (by decide) ?_ ?_
    · simp only [addAt]
      refine HV_order [] ty_ok [0, 3, 4, 1, 2, 5, 6] (by kernel_rfl) rfl _ rfl ?_
      simp only [opl_nil', opl_cons', oplC_some, List.getElem?_toArray, List.getElem?_cons_zero, List.getElem?_cons_succ]
      refine rn0 ?_
      (repeat (refine And.intro (by omega) ?_))
      have kk := rputInt_ac (b ++ [0]) n h0 h1 (by simp; omega)
      rw [l1] at kk
      refine HO_callX ty_ok [] kk (trivial) rfl ?_
      rintro v r' ⟨rfl, rfl⟩ _
      refine rn1 (jn @l2 @l3) ?_
      exact fv0 [0,2] []
    · simp only [addAt]
      refine HV_order [] ty_ok [0, 3, 1, 2, 4, 5, 6] (by kernel_rfl) rfl _ rfl ?_
      simp only [opl_nil', opl_cons', oplC_some, List.getElem?_toArray, List.getElem?_cons_zero, List.getElem?_cons_succ]
      refine rn0 ?_
      (repeat (refine And.intro (by omega) ?_))
      have kk := rputInt_ac (b ++ [0]) n h0 h1 (by simp; omega)
      rw [l1] at kk
      refine HO_callX ty_ok [] kk (trivial) rfl ?_
      rintro v r' ⟨rfl, rfl⟩ _
      refine rn1 (jn @l2 @l3) ?_
      exact fv0 [0,2] []
  | false =>
    have e : putC b ⟨false, n, s⟩ = putTx (b ++ [1]) s := rfl
    rw [e, l3]
    refine rn1 @cstE.eq_1 ?_
    refine HC_of_HV mix ?_
    refine HV_split 4 2 (by decide) ?_ ?_
    · simp only [addAt]
      refine HV_order [] ty_ok [0, 3, 4, 1, 2, 5, 6] (by kernel_rfl) rfl _ rfl ?_
      simp only [opl_nil', opl_cons', oplC_some, List.getElem?_toArray, List.getElem?_cons_zero, List.getElem?_cons_succ]
      refine rn0 ?_
      (repeat (refine And.intro (by omega) ?_))
      have kk := rputText_ac (b ++ [1]) s (by simp; omega) (by simp; omega)
      rw [l1] at kk
      refine HO_callX ty_ok [] kk (trivial) rfl ?_
      rintro v r' ⟨rfl, rfl⟩ _
      refine rn1 (jn @l2 @l3) ?_
      exact fv0 [0,2] []
    · simp only [addAt]
      refine HV_order [] ty_ok [0, 3, 1, 2, 4, 5, 6] (by kernel_rfl) rfl _ rfl ?_
      simp only [opl_nil', opl_cons', oplC_some, List.getElem?_toArray, List.getElem?_cons_zero, List.getElem?_cons_succ]
      refine rn0 ?_
      (repeat (refine And.intro (by omega) ?_))
      have kk := rputText_ac (b ++ [1]) s (by simp; omega) (by simp; omega)
      rw [l1] at kk
      refine HO_callX ty_ok [] kk (trivial) rfl ?_
      rintro v r' ⟨rfl, rfl⟩ _
      refine rn1 (jn @l2 @l3) ?_
      exact fv0 [0,2] []
end Go.Proofs.YtdbicadncccpoaaDoor

set_option linter.unusedVariables false
set_option linter.unusedSimpArgs false
set_option maxRecDepth 100000
namespace Go.Proofs.YtdbicadncccpoaaDoor
open Go Go.ChangeShapes Go.WideShapes
structure Trm where
  v : ByteArray
  c : Cst
deriving DecidableEq
def zC : Cst := ⟨false, 0, ⟨#[]⟩⟩
def zT : Trm := ⟨⟨#[]⟩, zC⟩
def rightT (t : Trm) : Bool := if t.v = ⟨#[]⟩ then decide (t.c = zC) || goodC t.c else txtOK t.v && decide (t.c = zC)
def rightL (l : List Trm) : Bool := decide (l.length ≤ 48) && l.all rightT
end Go.Proofs.YtdbicadncccpoaaDoor

set_option linter.unusedVariables false
set_option linter.unusedSimpArgs false
set_option maxRecDepth 100000
namespace Go.Proofs.YtdbicadncccpoaaDoor
open Go Go.ChangeShapes Go.WideShapes
def putT (b : List UInt8) (t : Trm) : List UInt8 := if t = zT then b ++ [0] else if t.v = ⟨#[]⟩ then putC (b ++ [2]) t.c else putTx (b ++ [1]) t.v
theorem putC_len (b : List UInt8) (c : Cst) : (putC b c).length = b.length + 1 + (leb (zig (if c.num then c.n else c.s.size))).length + (if c.num then 0 else c.s.size) := by
  unfold putC
  cases c.num with
  | true => simp only [if_true]; rw [l2]; omega
  | false => simp only [Bool.false_eq_true, if_false]; rw [l3]
theorem putC_bd {b : List UInt8} {c : Cst} (hc : okC c) (hs : c.s.size ≤ 140737488355000) : (putC b c).length ≤ b.length + 11 + c.s.size ∧ b.length < (putC b c).length := by
  rw [putC_len]
  obtain ⟨h0, h1⟩ := hc
  have e : (leb (zig (if c.num then c.n else c.s.size))).length ≤ 10 := by
    split
    · exact leb64_len h0 h1
    · exact leb64_len (by omega) (by omega)
  generalize (leb (zig (if c.num then c.n else c.s.size))).length = L at *
  split <;> omega
theorem putTx_bd (b : List UInt8) {s : ByteArray} (hs : s.size ≤ 140737488355000) : (putTx b s).length ≤ b.length + 10 + s.size := by
  have := leb64_len (n := s.size) (by omega) (by omega)
  rw [putTx_len]; omega
end Go.Proofs.YtdbicadncccpoaaDoor

set_option linter.unusedVariables false
set_option linter.unusedSimpArgs false
set_option maxRecDepth 100000
namespace Go.Proofs.YtdbicadncccpoaaDoor
open Go Go.ChangeShapes Go.WideShapes
def putTs (b : List UInt8) (l : List Trm) : List UInt8 := l.foldl putT (b ++ leb (zig (l.length : Int)))
theorem fold_take {α β : Type} (f : β → α → β) (l : List α) (i : Nat) (h : i < l.length) (b : β) : (l.take (i + 1)).foldl f b = f ((l.take i).foldl f b) l[i] := by rw [List.take_succ_eq_append_getElem h, List.foldl_append]; rfl
theorem leb_nat {n : Nat} (h : n ≤ 140737488355000) : (leb (zig (n : Int))).length ≤ 10 := leb64_len (by omega) (by omega)
end Go.Proofs.YtdbicadncccpoaaDoor

set_option linter.unusedVariables false
set_option linter.unusedSimpArgs false
set_option maxRecDepth 100000
namespace Go.Proofs.YtdbicadncccpoaaDoor
open Go Go.ChangeShapes Go.WideShapes
def putF (b : List UInt8) (f : Fct) : List UInt8 := f.l.foldl putC (putTx (putTx (putTx b f.a) f.b) f.p ++ leb (zig (f.l.length : Int)))
def okF (f : Fct) : Prop := ∀ c ∈ f.l, okC c
theorem good_size {c : Cst} (h : goodC c = true) : c.s.size ≤ 32 := by
  obtain ⟨q, n, s⟩ := c
  unfold goodC at h
  cases q with
  | true =>
    simp only [if_true, decide_eq_true_eq] at h
    rw [h]; exact Nat.zero_le _
  | false =>
    simp only [Bool.false_eq_true, if_false, txtOK, Bool.and_eq_true, decide_eq_true_eq] at h
    exact h.2.2
theorem txt_size {s : ByteArray} (h : txtOK s = true) : 1 ≤ s.size ∧ s.size ≤ 32 := by simpa [txtOK] using h
theorem chkF_iff {f : Fct} (h : chkF f = true) : txtOK f.a = true ∧ txtOK f.b = true ∧ txtOK f.p = true ∧ f.l.length ≤ 48 ∧ ∀ c ∈ f.l, goodC c = true := by
  simp only [chkF, Bool.and_eq_true, decide_eq_true_eq, List.all_eq_true] at h
  exact ⟨h.1, h.2.1, h.2.2.1, h.2.2.2.1, h.2.2.2.2⟩
theorem foldC_le : ∀ (l : List Cst) (b : List UInt8), (∀ c ∈ l, okC c ∧ goodC c = true) → (l.foldl putC b).length ≤ b.length + 43 * l.length
  | [], b, _ => by simp
  | t :: l, b, h => by
    have h0 := h t (by simp)
    have h1 := (putC_bd (b := b) h0.1 (by have := good_size h0.2; omega)).1
    have hs := good_size h0.2
    have h2 := foldC_le l (putC b t) (fun x hx => h x (by simp [hx]))
    rw [List.foldl_cons, List.length_cons]; omega
theorem foldX_le : ∀ (l : List ByteArray) (b : List UInt8), (∀ s ∈ l, s.size ≤ 32) → (l.foldl putTx b).length ≤ b.length + 42 * l.length
  | [], b, _ => by simp
  | s :: l, b, h => by
    have h1 := putTx_bd b (s := s) (by have := h s (by simp); omega)
    have hs := h s (by simp)
    have h2 := foldX_le l (putTx b s) (fun x hx => h x (by simp [hx]))
    rw [List.foldl_cons, List.length_cons]; omega
theorem putF_le {b : List UInt8} {f : Fct} (ho : okF f) (h : chkF f = true) : (putF b f).length ≤ b.length + 2300 := by
  obtain ⟨h1, h2, h3, h4, h5⟩ := chkF_iff h
  have hx := foldX_le [f.a, f.b, f.p] b (by
    intro s hs
    simp only [List.mem_cons, List.not_mem_nil, or_false] at hs
    rcases hs with rfl | rfl | rfl
    · exact (txt_size h1).2
    · exact (txt_size h2).2
    · exact (txt_size h3).2)
  have hc := foldC_le f.l (putTx (putTx (putTx b f.a) f.b) f.p ++ leb (zig (f.l.length : Int))) (fun c hc => ⟨ho c hc, h5 c hc⟩)
  have hl := leb_nat (n := f.l.length) (by omega)
  rw [List.length_append] at hc
  simp only [List.foldl_cons, List.foldl_nil, List.length_cons, List.length_nil] at hx
  unfold putF; omega
set_option maxHeartbeats 400000 in
theorem cloneB_ac (b : List UInt8) (hb : b.length ≤ 140737488355000) : AC Tryd.prog noG 59 [.d (.sl 1 b.length (bD b))] [] (fun v r' => v = .sl (.own 0) 1 b.length (bD b) ∧ r' = [some (.tok b.length)]) := by
  by_cases h0 : b = []
  · subst h0
    refine AC.empty ?_
    intro A c
    refine AC.fit ?_
    refine AC_of_R (N := 8) (res := [.tmp 2]) ty_ok Tryd.call59 Tryd.func59 rfl rfl rfl (Nat.le_of_ble_eq_true rfl) ?_
    cases A with
    | none =>
      refine rn0 ?_
      exact fv0 [0] [0]
    | some a =>
      refine rn0 ?_
      exact fv0 [0] []
  · have hn : 0 < b.length := List.length_pos_iff.2 h0
    refine AC.fit ?_
    refine AC_of_R (N := 8) (res := [.tmp 2]) ty_ok Tryd.call59 Tryd.func59 rfl rfl rfl (Nat.le_of_ble_eq_true rfl) ?_
    refine rn1 @hn ?_
    (repeat (refine And.intro (by omega) ?_))
    exact fv0 [0] []

def tD (l : List ByteArray) : List D := l.map fun s => .c (.string s)
theorem tD_len (l : List ByteArray) : (tD l).length = l.length := List.length_map ..
theorem drop_tD (l : List ByteArray) (i : Nat) (h : i < l.length) : ((tD l).drop i)[0]? = some (.c (.string l[i])) := by rw [List.getElem?_drop, Nat.add_zero, tD, List.getElem?_map, List.getElem?_eq_getElem h]; rfl
def pfSt (f : Fct) (i : Nat) (acc : List UInt8) : List (Nat × AV) := [(3, .ptr 0 0), (5, .d (.c (.int .i64 0))), (23, .d (.sl 1 3 (tD [f.a, f.b, f.p]))), (24, .d (.c (.int .i64 3))), (25, .d (.c (.int .i64 i))), (6, .sl (.own 2) 1 acc.length (bD acc))]
def pfRe (f : Fct) (acc : List UInt8) : Rs := [some (.obj ((fctE f).map .d)), none, some (.tok acc.length)]
def pcSt (f : Fct) (i : Nat) (acc : List UInt8) : List (Nat × AV) := [(39, .d (.sl 3 f.l.length (flatE cstE f.l))), (40, .d (.c (.int .i64 f.l.length))), (41, .d (.c (.int .i64 i))), (6, .sl (.own 4) 1 acc.length (bD acc))]
def pcRe (acc : List UInt8) : Rs := [none, none, none, none, some (.tok acc.length)]
def putFR (b : List UInt8) (f : Fct) : List UInt8 := if chkF f then putF b f else b
set_option maxHeartbeats 1000000 in
theorem putF_ac (b : List UInt8) (f : Fct) (ho : okF f) (hf : f.l.length ≤ 140737488352000) (hb : b.length ≤ 140737488200000) : AC Tryd.prog noG 36 [.d (.sl 1 b.length (bD b)), .d (.agg (fctE f))] []
    (fun v r' => v = .tup [.sl (.own 0) 1 (putFR b f).length (bD (putFR b f)), .d (.c (.int .i64 (chkE f)))] ∧ r' = [some (.tok (putFR b f).length)]) := by
  refine AC.fit ?_
  refine AC_of_R (N := 50) (res := [.tmp 4, .tmp 5]) ty_ok Tryd.call36 Tryd.func36 rfl rfl rfl (Nat.le_of_ble_eq_true rfl) ?_
  have hck := fchk_ac f hf
  refine rn1 @fctE.eq_1 ?_
  refine HO_callX ty_ok [] (cloneB_ac b (by omega)) (trivial) rfl ?_
  rintro v r' ⟨rfl, rfl⟩ _
  refine rn0 ?_
  refine HO_pureA ty_ok hck ?_
  by_cases hc : chkF f = true
  · have e1 : putFR b f = putF b f := if_pos hc
    rw [chkE_ok hc, e1]
    obtain ⟨k1, k2, k3, k4, k5⟩ := chkF_iff hc
    have s1 := txt_size k1
    have s2 := txt_size k2
    have s3 := txt_size k3
    have hF : putF b f = f.l.foldl putC ([f.a, f.b, f.p].foldl putTx b ++ leb (zig (f.l.length : Int))) := rfl
    have hs3 : ∀ s ∈ [f.a, f.b, f.p], s.size ≤ 32 := by
      intro s hs
      simp only [List.mem_cons, List.not_mem_nil, or_false] at hs
      rcases hs with rfl | rfl | rfl <;> omega
    refine rn0 ?_
    refine HC_loopR (fun i : Nat => pfSt f i (([f.a, f.b, f.p].take i).foldl putTx b)) (fun i => pfRe f (([f.a, f.b, f.p].take i).foldl putTx b)) (fun i => i ≤ 3) (fun i => 3 - i) 0 [0, 0, 1] [] (by omega) ?_ ?_
    · exact ft1 (jn @pfSt.eq_1 (jn @pfRe.eq_1 (jn @List.take_zero.{0} (jn @List.foldl_nil.{0, 0} (jn @fctE.eq_1 @tD.eq_1)))))
    intro i hi1
    refine HC_of_R ty_ok ?_
    by_cases hlt : i < 3
    · have hi : (i : Int) < 3 := by omega
      have hd := drop_tD [f.a, f.b, f.p] i hlt
      have hle := tD_len [f.a, f.b, f.p]
      have hstep := fold_take putTx [f.a, f.b, f.p] i hlt b
      have hacc := foldX_le ([f.a, f.b, f.p].take i) b (fun s h => hs3 s (List.mem_of_mem_take h))
      rw [List.length_take] at hacc
      have hsz := hs3 [f.a, f.b, f.p][i] (List.getElem_mem hlt)
      generalize [f.a, f.b, f.p][i] = s at *
      generalize ([f.a, f.b, f.p].take i).foldl putTx b = acc at *
      simp only [List.length_cons, List.length_nil] at hacc hle
      have hk := putText_ac acc s (by omega) (by omega)
      rw [← hstep] at hk
      refine rn1 (jn @pfSt.eq_1 (jn @pfRe.eq_1 (jn @fctE.eq_1 (jn @hi (jn @hd @hle))))) ?_
      (repeat (refine And.intro (by omega) ?_))
      refine HO_callX ty_ok [] hk (trivial) rfl ?_
      rintro v r' ⟨rfl, rfl⟩ _
      refine rn0 ?_
      (repeat (refine And.intro (by omega) ?_))
      refine ⟨i + 1, by omega, by omega, [0, 1, 3], [], ?_⟩
      exact ft1 (jn @pfSt.eq_1 (jn @pfRe.eq_1 @fctE.eq_1))
    · have hi : ¬ (i : Int) < 3 := by omega
      have h3 : [f.a, f.b, f.p].take i = [f.a, f.b, f.p] := List.take_of_length_le (by simp only [List.length_cons, List.length_nil]; omega)
      rw [h3]
      have hx := foldX_le [f.a, f.b, f.p] b hs3
      simp only [List.length_cons, List.length_nil] at hx
      obtain ⟨b3, hb3⟩ : ∃ b3, b3 = [f.a, f.b, f.p].foldl putTx b := ⟨_, rfl⟩
      rw [← hb3] at hx hF ⊢
      have hpi := putInt_ac b3 (f.l.length : Int) (by omega) (by omega) (by omega)
      have hb0l := leb_nat (n := f.l.length) (by omega)
      obtain ⟨b0, hb0⟩ : ∃ b0, b0 = b3 ++ leb (zig (f.l.length : Int)) := ⟨_, rfl⟩
      have hb0e : b0.length = b3.length + (leb (zig (f.l.length : Int))).length := by rw [hb0, List.length_append]
      rw [← hb0] at hpi hF
      rw [hF]
      refine rn1 (jn @pfSt.eq_1 (jn @pfRe.eq_1 (jn @fctE.eq_1 @hi))) ?_
      refine HO_callX ty_ok [] hpi (trivial) rfl ?_
      rintro v r' ⟨rfl, rfl⟩ _
      refine rn0 ?_
      refine HC_loopR (fun i : Nat => pcSt f i ((f.l.take i).foldl putC b0)) (fun i => pcRe ((f.l.take i).foldl putC b0)) (fun i => i ≤ f.l.length) (fun i => f.l.length - i) 0 [0, 0, 0, 0, 3] [] (by omega) ?_ ?_
      · exact ft1 (jn @pcSt.eq_1 (jn @pcRe.eq_1 (jn @List.take_zero.{0} @List.foldl_nil.{0, 0})))
      intro i hi1
      refine HC_of_R ty_ok ?_
      by_cases hlt : i < f.l.length
      · have hi : (i : Int) < f.l.length := by omega
        have hd := flatE_drop cstE_len f.l i hlt
        have hle := flatE_len cstE_len f.l
        have hstep := fold_take putC f.l i hlt b0
        have hoc := ho f.l[i] (List.getElem_mem hlt)
        have hgc := good_size (k5 f.l[i] (List.getElem_mem hlt))
        have hacc := foldC_le (f.l.take i) b0 (fun t h => ⟨ho t (List.mem_of_mem_take h), k5 t (List.mem_of_mem_take h)⟩)
        rw [List.length_take] at hacc
        generalize f.l[i] = c at *
        generalize (f.l.take i).foldl putC b0 = acc at *
        have hk := putC_ac acc c hoc (by omega)
        rw [← hstep] at hk
        simp only [cstE, List.cons_append, List.nil_append] at hd hk
        refine rn1 (jn @pcSt.eq_1 (jn @pcRe.eq_1 (jn @hi (jn @hd (jn @hle @cstE.eq_1))))) ?_
        (repeat (refine And.intro (by omega) ?_))
        refine HO_callX ty_ok [4] hk (⟨fun y h => by injection h with h; subst h; rfl, trivial⟩) (rfl) ?_
        rintro v r' ⟨rfl, rfl⟩ _
        refine rn0 ?_
        (repeat (refine And.intro (by omega) ?_))
        refine ⟨i + 1, by omega, by omega, [0, 1, 2, 3, 6], [], ?_⟩
        exact ft1 (jn @pcSt.eq_1 @pcRe.eq_1)
      · have hi : ¬ (i : Int) < f.l.length := by omega
        rw [List.take_of_length_le (by omega)]
        refine rn1 (jn @pcSt.eq_1 (jn @pcRe.eq_1 @hi)) ?_
        exact fv0 [4] []
  · have e1 : putFR b f = b := if_neg hc
    rw [chkE_no hc, e1]
    refine rn0 ?_
    exact fv0 [1] []
end Go.Proofs.YtdbicadncccpoaaDoor

set_option linter.unusedVariables false
set_option linter.unusedSimpArgs false
set_option maxRecDepth 100000
namespace Go.Proofs.YtdbicadncccpoaaDoor
open Go Go.ChangeShapes Go.WideShapes
def rpcSt (f : Fct) (i : Nat) (acc : List UInt8) : List (Nat × AV) := [(3, .ptr 0 0), (5, .d (.c (.int .i64 0))), (7, .d (.c (.int .i64 i))), (6, .sl (.own 6) 1 acc.length (bD acc))]
def rpcRe (f : Fct) (acc : List UInt8) : Rs := [some (.obj ((fctE f).map .d)), none, none, none, none, none, some (.tok acc.length)]
set_option maxHeartbeats 1000000 in
theorem rputF_ac (b : List UInt8) (f : Fct) (ho : okF f) (hf : f.l.length ≤ 140737488352000) (hb : b.length ≤ 140737488200000) : AC Tryd.prog noG 48 [.d (.sl 1 b.length (bD b)), .d (.agg (fctE f))] []
    (fun v r' => v = .tup [.sl (.own 0) 1 (putFR b f).length (bD (putFR b f)), .d (.c (.int .i64 (chkE f)))] ∧ r' = [some (.tok (putFR b f).length)]) := by
  refine AC.fit ?_
  refine AC_of_R (N := 47) (res := [.tmp 4, .tmp 5]) ty_ok Tryd.call48 Tryd.func48 rfl rfl rfl (Nat.le_of_ble_eq_true rfl) ?_
  have hck := rfchk_ac f hf
  refine rn1 @fctE.eq_1 ?_
  (repeat (refine And.intro (by omega) ?_))
  refine HO_pureA ty_ok hck ?_
  by_cases hc : chkF f = true
  · have e1 : putFR b f = putF b f := if_pos hc
    rw [chkE_ok hc, e1]
    obtain ⟨k1, k2, k3, k4, k5⟩ := chkF_iff hc
    have s1 := txt_size k1
    have s2 := txt_size k2
    have s3 := txt_size k3
    have hF : putF b f = f.l.foldl putC (putTx (putTx (putTx b f.a) f.b) f.p ++ leb (zig (f.l.length : Int))) := rfl
    have g1 := putTx_bd b (s := f.a) (by omega)
    have g2 := putTx_bd (putTx b f.a) (s := f.b) (by omega)
    have g3 := putTx_bd (putTx (putTx b f.a) f.b) (s := f.p) (by omega)
    have c1 := rputText_ac b f.a (by omega) (by omega)
    have c2 := rputText_ac (putTx b f.a) f.b (by omega) (by omega)
    have c3 := rputText_ac (putTx (putTx b f.a) f.b) f.p (by omega) (by omega)
    generalize putTx b f.a = b1 at *
    generalize putTx b1 f.b = b2 at *
    generalize putTx b2 f.p = b3 at *
    have hpi := rputInt_ac b3 (f.l.length : Int) (by omega) (by omega) (by omega)
    have hb0l := leb_nat (n := f.l.length) (by omega)
    obtain ⟨b0, hb0⟩ : ∃ b0, b0 = b3 ++ leb (zig (f.l.length : Int)) := ⟨_, rfl⟩
    have hb0e : b0.length = b3.length + (leb (zig (f.l.length : Int))).length := by rw [hb0, List.length_append]
    rw [← hb0] at hpi hF
    rw [hF]
    refine rn0 ?_
    refine HO_callX ty_ok [] c1 (trivial) rfl ?_
    rintro v r' ⟨rfl, rfl⟩ _
    refine rn0 ?_
    refine HO_callX ty_ok [] c2 (trivial) rfl ?_
    rintro v r' ⟨rfl, rfl⟩ _
    refine rn0 ?_
    refine HO_callX ty_ok [] c3 (trivial) rfl ?_
    rintro v r' ⟨rfl, rfl⟩ _
    refine rn0 ?_
    refine HO_callX ty_ok [] hpi (trivial) rfl ?_
    rintro v r' ⟨rfl, rfl⟩ _
    refine rn0 ?_
    refine HC_loopR (fun i : Nat => rpcSt f i ((f.l.take i).foldl putC b0)) (fun i => rpcRe f ((f.l.take i).foldl putC b0)) (fun i => i ≤ f.l.length) (fun i => f.l.length - i) 0 [0, 0, 0, 0, 0, 0, 5] [] (by omega) ?_ ?_
    · exact ft1 (jn @rpcSt.eq_1 (jn @rpcRe.eq_1 (jn @List.take_zero.{0} (jn @List.foldl_nil.{0, 0} @fctE.eq_1))))
    intro i hi1
    refine HC_of_R ty_ok ?_
    by_cases hlt : i < f.l.length
    · have hi : (i : Int) < f.l.length := by omega
      have hd := flatE_drop cstE_len f.l i hlt
      have hle := flatE_len cstE_len f.l
      have hstep := fold_take putC f.l i hlt b0
      have hoc := ho f.l[i] (List.getElem_mem hlt)
      have hgc := good_size (k5 f.l[i] (List.getElem_mem hlt))
      have hacc := foldC_le (f.l.take i) b0 (fun t h => ⟨ho t (List.mem_of_mem_take h), k5 t (List.mem_of_mem_take h)⟩)
      rw [List.length_take] at hacc
      generalize f.l[i] = c at *
      generalize (f.l.take i).foldl putC b0 = acc at *
      have hk := rputC_ac acc c hoc (by omega)
      rw [← hstep] at hk
      simp only [cstE, List.cons_append, List.nil_append] at hd hk
      refine rn1 (jn @rpcSt.eq_1 (jn @rpcRe.eq_1 (jn @fctE.eq_1 (jn @hi (jn @hd (jn @hle @cstE.eq_1)))))) ?_
      (repeat (refine And.intro (by omega) ?_))
      refine HO_callX ty_ok [6] hk (⟨fun y h => by injection h with h; subst h; rfl, trivial⟩) (rfl) ?_
      rintro v r' ⟨rfl, rfl⟩ _
      refine rn0 ?_
      (repeat (refine And.intro (by omega) ?_))
      refine ⟨i + 1, by omega, by omega, [0, 1, 2, 3, 4, 5, 7], [], ?_⟩
      exact ft1 (jn @rpcSt.eq_1 (jn @rpcRe.eq_1 @fctE.eq_1))
    · have hi : ¬ (i : Int) < f.l.length := by omega
      rw [List.take_of_length_le (by omega)]
      refine rn1 (jn @rpcSt.eq_1 (jn @rpcRe.eq_1 (jn @fctE.eq_1 @hi))) ?_
      exact fv0 [6] []
  · have e1 : putFR b f = b := if_neg hc
    rw [chkE_no hc, e1]
    refine rn0 ?_
    exact fv0 [1] []
end Go.Proofs.YtdbicadncccpoaaDoor
