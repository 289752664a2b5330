/- Parts of the proof: RdR, RdRul, RdF, RRdr, RRdTs, RRdF. -/
import Derived.Test.YtdbicadncccpoaaCJ2
set_option linter.unusedVariables false
set_option linter.unusedSimpArgs false
set_option maxRecDepth 100000
namespace Go.Proofs.Ytdbicadncccpoaa
open Go Go.ChangeShapes Go.WideShapes
structure Lit where
  b : Trm
  p : ByteArray
  l : List Trm
  a : Trm
deriving DecidableEq
structure Rul where
  h : Trm
  p : ByteArray
  l : List Trm
  t : Trm
  b : List Lit
deriving DecidableEq
def litE (x : Lit) : List D := [.c (.string x.b.v), .c (.bool x.b.c.num), .c (.int .i64 x.b.c.n), .c (.string x.b.c.s), .c (.string x.p), .sl 4 x.l.length (flatE trmE x.l), .c (.string x.a.v), .c (.bool x.a.c.num), .c (.int .i64 x.a.c.n), .c (.string x.a.c.s)]
theorem litE_len (x : Lit) : (litE x).length = 10 := rfl
def rulH (h : Trm) (p : ByteArray) (l : List Trm) (t : Trm) : List D := [.c (.string h.v), .c (.bool h.c.num), .c (.int .i64 h.c.n), .c (.string h.c.s), .c (.string p), .sl 4 l.length (flatE trmE l), .c (.string t.v), .c (.bool t.c.num), .c (.int .i64 t.c.n), .c (.string t.c.s)]
def rulE (x : Rul) : List D := [.c (.string x.h.v), .c (.bool x.h.c.num), .c (.int .i64 x.h.c.n), .c (.string x.h.c.s), .c (.string x.p), .sl 4 x.l.length (flatE trmE x.l), .c (.string x.t.v), .c (.bool x.t.c.num), .c (.int .i64 x.t.c.n), .c (.string x.t.c.s), .sl 10 x.b.length (flatE litE x.b)]
theorem rulE_len (x : Rul) : (rulE x).length = 11 := rfl
/-- Many, up to the first error. -/
def rdG {α : Type} (one : Int → Int → Bool → α × Int × Int × Bool) : Nat → Int → Int → Bool → List α × Int × Int × Bool
  | 0, k, e, o => ([], k, e, o)
  | n + 1, k, e, o => if e = 0 then ((one k e o).1 :: (rdG one n (one k e o).2.1 (one k e o).2.2.1 (one k e o).2.2.2).1, (rdG one n (one k e o).2.1 (one k e o).2.2.1 (one k e o).2.2.2).2) else ([], k, e, o)
theorem rdG_err {α : Type} {one : Int → Int → Bool → α × Int × Int × Bool} {k e : Int} {o : Bool} (h : e ≠ 0) : ∀ n, rdG one n k e o = ([], k, e, o)
  | 0 => rfl
  | n + 1 => by rw [rdG, if_neg h]
theorem rdG_ok {α : Type} {one : Int → Int → Bool → α × Int × Int × Bool} {b : List UInt8} (hb : b.length ≤ 140737488355000)
    (H : ∀ k e o, okR b k e → (e = 0 → 0 ≤ k ∧ k ≤ b.length) → okR b (one k e o).2.1 (one k e o).2.2.1 ∧ ((one k e o).2.2.1 = 0 → e = 0 ∧ 0 ≤ k ∧ k < (one k e o).2.1 ∧ (one k e o).2.1 ≤ b.length)) :
    ∀ (n : Nat) (k e : Int) (o : Bool), okR b k e → (e = 0 → 0 ≤ k ∧ k ≤ b.length) → okR b (rdG one n k e o).2.1 (rdG one n k e o).2.2.1 ∧ ((rdG one n k e o).2.2.1 = 0 → e = 0 ∧ 0 ≤ k ∧ k ≤ (rdG one n k e o).2.1 ∧ (rdG one n k e o).2.1 ≤ b.length) ∧ (rdG one n k e o).1.length ≤ n
  | 0, k, e, o, h, hk => ⟨h, fun he => ⟨he, (hk he).1, Int.le_refl _, (hk he).2⟩, Nat.le_refl _⟩
  | n + 1, k, e, o, h, hk => by
    rw [rdG]
    split
    · have h1 := H k e o h hk
      have h2 := rdG_ok hb H n (one k e o).2.1 (one k e o).2.2.1 (one k e o).2.2.2 h1.1 (fun he => by have := h1.2 he; omega)
      simp only [List.length_cons]
      refine ⟨h2.1, fun hh => ?_, by omega⟩
      have := h2.2.1 hh
      have := h1.2 this.1
      omega
    · simp only [List.length_nil]
      exact ⟨h, fun he => ⟨he, (hk he).1, Int.le_refl _, (hk he).2⟩, Nat.zero_le _⟩
def rdOne (β : Int → Int → Bool) (b : List UInt8) (k e : Int) (o : Bool) : Trm × Int × Int × Bool := ((rdTm b k e).1, (rdTm b k e).2.1, (rdTm b k e).2.2, o || β k e)
/-- One, then the next. -/
def thn {α γ : Type} (x : α × Int × Int × Bool) (f : α → Int → Int → Bool → γ) : γ := f x.1 x.2.1 x.2.2.1 x.2.2.2
def tx4 (b : List UInt8) (k e : Int) (o : Bool) : ByteArray × Int × Int × Bool := ((rdT b k e).1, (rdT b k e).2.1, (rdT b k e).2.2, o)
def ct4 (b : List UInt8) (most : Int) (k e : Int) (o : Bool) : Int × Int × Int × Bool := ((rdC b most k e).1, (rdC b most k e).2.1, (rdC b most k e).2.2, o)
def rdLit (β : Int → Int → Bool) (b : List UInt8) (k e : Int) (o : Bool) : Lit × Int × Int × Bool :=
  thn (rdOne β b k e o) fun t1 k e o => thn (tx4 b k e o) fun p k e o => thn (rdTms β b k e o) fun l k e o => thn (rdOne β b k e o) fun t2 k e o => (⟨t1, p, l, t2⟩, k, e, o)
def rdRul (β : Int → Int → Bool) (b : List UInt8) (k e : Int) (o : Bool) : Rul × Int × Int × Bool :=
  thn (rdOne β b k e o) fun h k e o => thn (tx4 b k e o) fun p k e o => thn (rdTms β b k e o) fun l k e o => thn (rdOne β b k e o) fun t k e o => thn (ct4 b 5 k e o) fun n k e o =>
    thn (rdG (rdLit β b) n.toNat k e o) fun m k e o => (⟨h, p, l, t, m⟩, k, e, o)
/-- What is read ends without an error only where it began without one. -/
def okOne {α : Type} (b : List UInt8) (one : Int → Int → Bool → α × Int × Int × Bool) : Prop := ∀ k e o, okR b k e → (e = 0 → 0 ≤ k ∧ k ≤ b.length) → okR b (one k e o).2.1 (one k e o).2.2.1 ∧ ((one k e o).2.2.1 = 0 → e = 0 ∧ 0 ≤ k ∧ k < (one k e o).2.1 ∧ (one k e o).2.1 ≤ b.length)
theorem rdOne_ok {β : Int → Int → Bool} {b : List UInt8} (hb : b.length ≤ 140737488355000) : okOne b (rdOne β b) := fun k e o h hk => rdTm_ok hb h (fun he => (hk he).1)
theorem tx4_ok {b : List UInt8} (hb : b.length ≤ 140737488355000) : okOne b (tx4 b) := fun k e o h _ => ⟨(rdT_ok hb h).1, (rdT_ok hb h).2.1⟩
theorem ct4_ok {b : List UInt8} {most : Int} (hm : 0 ≤ most) (hb : b.length ≤ 140737488355000) : okOne b (ct4 b most) := fun k e o h _ => ⟨(rdC_ok hm hb h).1, (rdC_ok hm hb h).2.1⟩
theorem rdTms_ok' {β : Int → Int → Bool} {b : List UInt8} (hb : b.length ≤ 140737488355000) : okOne b (rdTms β b) := fun k e o h _ => ⟨(rdTms_ok hb h).1, (rdTms_ok hb h).2.1⟩
theorem thn_ok {α γ : Type} {b : List UInt8} {one : Int → Int → Bool → α × Int × Int × Bool} {f : α → Int → Int → Bool → γ × Int × Int × Bool} (h1 : okOne b one) (h2 : ∀ a, okOne b (f a)) : okOne b (fun k e o => thn (one k e o) f) := by
  intro k e o h hk
  have g1 := h1 k e o h hk
  have g2 := h2 (one k e o).1 (one k e o).2.1 (one k e o).2.2.1 (one k e o).2.2.2 g1.1 (fun he => by have := g1.2 he; omega)
  refine ⟨g2.1, fun he => ?_⟩
  have := g2.2 he
  have := g1.2 this.1
  show e = 0 ∧ 0 ≤ k ∧ k < (f _ _ _ _).2.1 ∧ (f _ _ _ _).2.1 ≤ _
  omega
/-- The same, and nothing more is read. -/
theorem thn_end {α γ : Type} {b : List UInt8} {one : Int → Int → Bool → α × Int × Int × Bool} {f : α → Int → Int → Bool → γ × Int × Int × Bool} (h1 : okOne b one) (h2 : ∀ a k e o, (f a k e o).2 = (k, e, o)) : okOne b (fun k e o => thn (one k e o) f) := by
  intro k e o h hk
  have g1 := h1 k e o h hk
  have g2 := h2 (one k e o).1 (one k e o).2.1 (one k e o).2.2.1 (one k e o).2.2.2
  show okR b (f (one k e o).1 (one k e o).2.1 (one k e o).2.2.1 (one k e o).2.2.2).2.1 (f (one k e o).1 (one k e o).2.1 (one k e o).2.2.1 (one k e o).2.2.2).2.2.1 ∧ ((f (one k e o).1 (one k e o).2.1 (one k e o).2.2.1 (one k e o).2.2.2).2.2.1 = 0 → e = 0 ∧ 0 ≤ k ∧ k < (f (one k e o).1 (one k e o).2.1 (one k e o).2.2.1 (one k e o).2.2.2).2.1 ∧ (f (one k e o).1 (one k e o).2.1 (one k e o).2.2.1 (one k e o).2.2.2).2.1 ≤ (b.length : Int))
  rw [g2]
  exact g1
theorem rdLit_ok {β : Int → Int → Bool} {b : List UInt8} (hb : b.length ≤ 140737488355000) : okOne b (rdLit β b) :=
  thn_ok (rdOne_ok hb) fun _ => thn_ok (tx4_ok hb) fun _ => thn_ok (rdTms_ok' hb) fun _ => thn_end (rdOne_ok hb) fun _ _ _ _ => rfl
theorem rdRul_ok {β : Int → Int → Bool} {b : List UInt8} (hb : b.length ≤ 140737488355000) : okOne b (rdRul β b) := by
  refine thn_ok (rdOne_ok hb) fun _ => thn_ok (tx4_ok hb) fun _ => thn_ok (rdTms_ok' hb) fun _ => thn_ok (rdOne_ok hb) fun _ => ?_
  intro k e o h hk
  have g1 := ct4_ok (most := 5) (by omega) hb k e o h hk
  have g2 := rdG_ok hb (rdLit_ok (β := β) hb) (ct4 b 5 k e o).1.toNat (ct4 b 5 k e o).2.1 (ct4 b 5 k e o).2.2.1 (ct4 b 5 k e o).2.2.2 g1.1 (fun he => by have := g1.2 he; omega)
  refine ⟨g2.1, fun he => ?_⟩
  have := g2.2.1 he
  have := g1.2 this.1
  show e = 0 ∧ 0 ≤ k ∧ k < (rdG _ _ _ _ _).2.1 ∧ (rdG _ _ _ _ _).2.1 ≤ _
  omega
end Go.Proofs.Ytdbicadncccpoaa

set_option linter.unusedVariables false
set_option linter.unusedSimpArgs false
set_option maxRecDepth 100000
namespace Go.Proofs.Ytdbicadncccpoaa
open Go Go.ChangeShapes Go.WideShapes
structure LsI where
  i : Nat
  acc : List Lit
  k : Int
  e : Int
  o : Bool
def lsSt (n : Int) (x : LsI) : List (Nat × AV) := [(0, .ptr 0 0), (1, .ptr 1 0), (4, .ptr 2 0), (5, .ptr 3 0), (6, .d (.c (.int .i64 n))), (7, .d (.c (.int .i64 x.i)))]
def zRul : List D := [.c (.string ⟨#[]⟩), .c (.bool false), .c (.int .i64 0), .c (.string ⟨#[]⟩), .c (.string ⟨#[]⟩), .c (.slice none 0 0), .c (.string ⟨#[]⟩), .c (.bool false), .c (.int .i64 0), .c (.string ⟨#[]⟩), .c (.slice none 0 0)]
def lsRe (b : List UInt8) (H : List D) (x : LsI) : Rs := [some (.obj (rdO b x.k x.e)), some (.obj [.d (.c (.bool x.o))]), some (.obj (zRul.map .d)), some (.obj (H.map .d ++ [.sl (.own 4) 10 x.acc.length (flatE litE x.acc)])), some (.tok (flatE litE x.acc).length)]
end Go.Proofs.Ytdbicadncccpoaa

set_option linter.unusedVariables false
set_option linter.unusedSimpArgs false
set_option maxRecDepth 100000
namespace Go.Proofs.Ytdbicadncccpoaa
open Go Go.ChangeShapes Go.WideShapes
def cv4 (b : List UInt8) (k e : Int) (o : Bool) : Cst × Int × Int × Bool := ((rdV b k e).1, (rdV b k e).2.1, (rdV b k e).2.2, o)
theorem cv4_ok {b : List UInt8} (hb : b.length ≤ 140737488355000) : okOne b (cv4 b) := fun k e o h hk => rdV_ok hb h (fun he => (hk he).1)
def zF : Fct := ⟨⟨#[]⟩, ⟨#[]⟩, ⟨#[]⟩, []⟩
/-- What a fact's bytes say, ahead of the look at it. -/
def rdF0 (b : List UInt8) (k : Int) : Fct × Int × Int × Bool :=
  thn (tx4 b k 0 false) fun a k e o => thn (tx4 b k e o) fun c k e o => thn (tx4 b k e o) fun p k e o => thn (ct4 b 48 k e o) fun n k e o => thn (rdG (cv4 b) n.toNat k e o) fun l k e o => (⟨a, c, p, l⟩, k, e, o)
def rdF (b : List UInt8) (k : Int) : Fct × Int × Int := if (rdF0 b k).2.2.1 = 0 then (if chkF (rdF0 b k).1 then ((rdF0 b k).1, (rdF0 b k).2.1, 0) else (zF, 0, 40)) else (zF, 0, (rdF0 b k).2.2.1)
def fcV (t : Fct × Int × Int) : AV := .tup [.d (.agg (fctE t.1)), .d (.c (.int .i64 t.2.1)), .d (.c (.int .i64 t.2.2))]
structure FsI where
  i : Nat
  acc : List Cst
  k : Int
  e : Int
def fsSt (n : Int) (x : FsI) : List (Nat × AV) := [(4, .ptr 0 0), (5, .d (.c (.int .i64 0))), (6, .d (.c (.int .i64 0))), (7, .ptr 1 0), (8, .d (.c (.int .i64 n))), (9, .d (.c (.int .i64 x.i)))]
def fsRe (b : List UInt8) (s1 s2 s3 : ByteArray) (x : FsI) : Rs := [some (.obj [.d (.c (.string s1)), .d (.c (.string s2)), .d (.c (.string s3)), .sl (.own 2) 3 x.acc.length (flatE cstE x.acc)]), some (.obj (rdO b x.k x.e)), some (.tok (flatE cstE x.acc).length)]
theorem fcV_ok {x : Fct × Int × Int × Bool} (h : x.2.2.1 = 0) (hc : chkF x.1 = true) : (if x.2.2.1 = 0 then (if chkF x.1 then (x.1, x.2.1, (0 : Int)) else (zF, 0, 40)) else (zF, 0, x.2.2.1)) = (x.1, x.2.1, 0) := by rw [if_pos h, if_pos hc]
theorem fcV_bad {x : Fct × Int × Int × Bool} (h : x.2.2.1 = 0) (hc : ¬ chkF x.1 = true) : (if x.2.2.1 = 0 then (if chkF x.1 then (x.1, x.2.1, (0 : Int)) else (zF, 0, 40)) else (zF, 0, x.2.2.1)) = (zF, 0, 40) := by rw [if_pos h, if_neg hc]
theorem fcV_err {x : Fct × Int × Int × Bool} (h : ¬ x.2.2.1 = 0) : (if x.2.2.1 = 0 then (if chkF x.1 then (x.1, x.2.1, (0 : Int)) else (zF, 0, 40)) else (zF, 0, x.2.2.1)) = (zF, 0, x.2.2.1) := by rw [if_neg h]
set_option maxHeartbeats 1000000 in
theorem fact_ac (b : List UInt8) (k : Int) (hb : b.length ≤ 140737488355000) (h0 : -9223372036854775808 ≤ k) (h1 : k ≤ 9223372036854775807) : AC Try.prog noG 43 [.d (.sl 1 b.length (bD b)), .d (.c (.int .i64 k))] []
    (fun v r' => v = fcV (rdF b k) ∧ r' = []) := by
  refine AC.fit ?_
  refine AC_of_R (N := 67) (res := [.cell 4 24, .tmp 5, .tmp 6]) ty_ok Try.call43 Try.func43 rfl rfl rfl (Nat.le_of_ble_eq_true rfl) ?_
  obtain ⟨R, hm⟩ : ∃ R, R = rdF0 b k := ⟨_, rfl⟩
  have hF : rdF b k = if R.2.2.1 = 0 then (if chkF R.1 then (R.1, R.2.1, 0) else (zF, 0, 40)) else (zF, 0, R.2.2.1) := by rw [hm]; rfl
  rw [hF]
  clear hF
  simp only [rdF0, thn, tx4, ct4] at hm
  have ok0 : okR b k 0 := ⟨⟨h0, h1⟩, by omega⟩
  have hx := rtxt_ac b k 0 hb ok0
  have ho := rdT_ok hb ok0
  generalize rdT b k 0 = x_ at *
  obtain ⟨s1, k1, e1⟩ := x_
  dsimp only at hx ho hm
  have a1 := ho
  refine rn0 ?_
  refine HO_callX ty_ok [1] (hx) (rdr_hand _ _ _ _ _ rfl) (rdr_wf _ _ _) ?_
  rintro v r' ⟨rfl, rfl⟩ _
  clear hx
  have hx := rtxt_ac b k1 e1 hb a1.1
  have ho := rdT_ok hb a1.1
  generalize rdT b k1 e1 = x_ at *
  obtain ⟨s2, k2, e2⟩ := x_
  dsimp only at hx ho hm
  have a2 := ho
  refine rn1 (jn @rdr.eq_1 @rdO.eq_1) ?_
  refine HO_callX ty_ok [1] (hx) (rdr_hand _ _ _ _ _ rfl) (rdr_wf _ _ _) ?_
  rintro v r' ⟨rfl, rfl⟩ _
  clear hx
  have hx := rtxt_ac b k2 e2 hb a2.1
  have ho := rdT_ok hb a2.1
  generalize rdT b k2 e2 = x_ at *
  obtain ⟨s3, k3, e3⟩ := x_
  dsimp only at hx ho hm
  have a3 := ho
  refine rn1 (jn @rdr.eq_1 @rdO.eq_1) ?_
  refine HO_callX ty_ok [1] (hx) (rdr_hand _ _ _ _ _ rfl) (rdr_wf _ _ _) ?_
  rintro v r' ⟨rfl, rfl⟩ _
  clear hx
  have hx := rcnt_ac b 48 k3 e3 hb a3.1
  have ho := rdC_ok (most := 48) (by omega) hb a3.1
  generalize rdC b 48 k3 e3 = x_ at *
  obtain ⟨n, k5, e5⟩ := x_
  dsimp only at hx ho hm
  have a5 := ho
  refine rn1 (jn @rdr.eq_1 @rdO.eq_1) ?_
  refine HO_callX ty_ok [1] (hx) (rdr_hand _ _ _ _ _ rfl) (rdr_wf _ _ _) ?_
  rintro v r' ⟨rfl, rfl⟩ _
  refine rn1 (jn @rdr.eq_1 @rdO.eq_1) ?_
  clear ho hx
  obtain ⟨Q, hQ⟩ : ∃ Q, Q = rdG (cv4 b) n.toNat k5 e5 false := ⟨_, rfl⟩
  rw [← hQ] at hm
  refine HC_loopR (fsSt n) (fsRe b s1 s2 s3) (fun x => x.i ≤ n.toNat ∧ x.acc.length ≤ x.i ∧ okR b x.k x.e ∧ (x.e = 0 → 0 ≤ x.k ∧ x.k ≤ b.length) ∧ Q = (x.acc ++ (rdG (cv4 b) (n.toNat - x.i) x.k x.e false).1, (rdG (cv4 b) (n.toNat - x.i) x.k x.e false).2)) (fun x => n.toNat - x.i) ⟨0, [], k5, e5⟩ [0, 1, 2] [0] ⟨by simp only; omega, Nat.le_refl _, a5.1, fun he => by have := a5.2.1 he; simp only; omega, by simpa using hQ⟩ ?_ ?_
  · exact ft1 (jn @fsSt.eq_1 (jn @fsRe.eq_1 (jn @flatE_nil @rdO.eq_1)))
  intro ⟨i, acc, kk, ee⟩ ⟨q1, q2, q3, q4, q6⟩
  simp only at q1 q2 q3 q4 q6
  refine HC_of_R ty_ok ?_
  by_cases hlt : i < n.toNat ∧ ee = 0
  · obtain ⟨hlt, he⟩ := hlt
    have hi : (i : Int) < n := by omega
    subst he
    have hn1 : n.toNat - i = (n.toNat - (i + 1)) + 1 := by omega
    rw [hn1, rdG, if_pos rfl] at q6
    have hx := val_ac b kk 0 hb q3 (fun _ => (q4 rfl).1)
    have ho := rdV_ok hb q3 (fun _ => (q4 rfl).1)
    have hcv : cv4 b kk 0 false = ((rdV b kk 0).1, (rdV b kk 0).2.1, (rdV b kk 0).2.2, false) := rfl
    rw [hcv] at q6
    generalize rdV b kk 0 = x_ at *
    obtain ⟨u, m4, f4⟩ := x_
    dsimp only at hx ho q6
    have hsn := flatE_snoc cstE acc u
    have hle := flatE_len cstE_len acc
    refine rn1 (jn @fsSt.eq_1 (jn @fsRe.eq_1 (jn @rdO.eq_1 @hi))) ?_
    refine HC_of_HV mix ?_
    refine HV_split 1 3 (by decide) ?_ ?_
    · simp only [addAt]
      refine HV_order [] ty_ok [0, 1, 2, 3, 4, 5, 6, 7] (by kernel_rfl) rfl _ rfl ?_
      simp only [opl_nil', opl_cons', oplC_some, List.getElem?_toArray, List.getElem?_cons_zero, List.getElem?_cons_succ]
      refine rn0 ?_
      refine HO_callX ty_ok [1] (hx) (rdr_hand _ _ _ _ _ rfl) (rdr_wf _ _ _) ?_
      rintro v r' ⟨rfl, rfl⟩ _
      refine rn1 (jn @rdr.eq_1 (jn @rdO.eq_1 @cstE.eq_1)) ?_
      (repeat (refine And.intro (by omega) ?_))
      refine ⟨⟨i + 1, acc ++ [u], m4, f4⟩, ⟨by simp only; omega, by simp only [List.length_append, List.length_cons, List.length_nil]; omega, ho.1, fun hh => by have := ho.2 hh; simp only; omega, by simp only [List.append_assoc, List.cons_append, List.nil_append]; exact q6⟩, by simp only; omega, [0, 1, 2], [], ?_⟩
      exact ft1 (jn @fsSt.eq_1 (jn @fsRe.eq_1 (jn @rdO.eq_1 (jn @hsn @cstE.eq_1))))
    · simp only [addAt]
      refine HV_order [] ty_ok [0, 2, 3, 1, 4, 5, 6, 7] (by kernel_rfl) rfl _ rfl ?_
      simp only [opl_nil', opl_cons', oplC_some, List.getElem?_toArray, List.getElem?_cons_zero, List.getElem?_cons_succ]
      refine rn0 ?_
      refine HO_callX ty_ok [1] (hx) (rdr_hand _ _ _ _ _ rfl) (rdr_wf _ _ _) ?_
      rintro v r' ⟨rfl, rfl⟩ _
      refine rn1 (jn @rdr.eq_1 (jn @rdO.eq_1 @cstE.eq_1)) ?_
      (repeat (refine And.intro (by omega) ?_))
      refine ⟨⟨i + 1, acc ++ [u], m4, f4⟩, ⟨by simp only; omega, by simp only [List.length_append, List.length_cons, List.length_nil]; omega, ho.1, fun hh => by have := ho.2 hh; simp only; omega, by simp only [List.append_assoc, List.cons_append, List.nil_append]; exact q6⟩, by simp only; omega, [0, 1, 2], [], ?_⟩
      exact ft1 (jn @fsSt.eq_1 (jn @fsRe.eq_1 (jn @rdO.eq_1 (jn @hsn @cstE.eq_1))))
  · have q7 : Q = (acc, kk, ee, false) := by
      by_cases h0 : i < n.toNat
      · rw [rdG_err (fun he => hlt ⟨h0, he⟩)] at q6
        simpa using q6
      · have hn1 : n.toNat - i = 0 := by omega
        rw [hn1, rdG] at q6
        simpa using q6
    rw [q7] at hm
    dsimp only at hm
    subst hm
    have hcf := fchk_ac ⟨s1, s2, s3, acc⟩ (by show acc.length ≤ _; omega)
    simp only [fctE] at hcf
    have fin : ¬ ee = 0 ∨ (ee = 0 ∧ ¬ (i : Int) < n) := by
      by_cases he : ee = 0
      · exact .inr ⟨he, fun hi => hlt ⟨by omega, he⟩⟩
      · exact .inl he
    rcases fin with he | ⟨he, hi⟩
    · rw [fcV_err he]
      by_cases hi : (i : Int) < n
      · refine rn1 (jn @fsSt.eq_1 (jn @fsRe.eq_1 (jn @rdO.eq_1 (jn @hi @he)))) ?_
        refine HC_of_HV mix ?_
        refine HV_split 4 5 (by decide) ?_ ?_
        · simp only [addAt]
          refine HV_order [] ty_ok [0, 1, 2, 3, 4, 5, 6, 7] (by kernel_rfl) rfl _ rfl ?_
          simp only [opl_nil', opl_cons', oplC_some, List.getElem?_toArray, List.getElem?_cons_zero, List.getElem?_cons_succ]
          refine rn0 ?_
          exact fv1 [] [] @fctE.eq_1
        · simp only [addAt]
          refine HV_order [] ty_ok [0, 1, 2, 3, 5, 4, 6, 7] (by kernel_rfl) rfl _ rfl ?_
          simp only [opl_nil', opl_cons', oplC_some, List.getElem?_toArray, List.getElem?_cons_zero, List.getElem?_cons_succ]
          refine rn0 ?_
          exact fv1 [] [] @fctE.eq_1
      · refine rn1 (jn @fsSt.eq_1 (jn @fsRe.eq_1 (jn @rdO.eq_1 (jn @hi @he)))) ?_
        refine HC_of_HV mix ?_
        refine HV_split 4 5 (by decide) ?_ ?_
        · simp only [addAt]
          refine HV_order [] ty_ok [0, 1, 2, 3, 4, 5, 6, 7] (by kernel_rfl) rfl _ rfl ?_
          simp only [opl_nil', opl_cons', oplC_some, List.getElem?_toArray, List.getElem?_cons_zero, List.getElem?_cons_succ]
          refine rn0 ?_
          exact fv1 [] [] @fctE.eq_1
        · simp only [addAt]
          refine HV_order [] ty_ok [0, 1, 2, 3, 5, 4, 6, 7] (by kernel_rfl) rfl _ rfl ?_
          simp only [opl_nil', opl_cons', oplC_some, List.getElem?_toArray, List.getElem?_cons_zero, List.getElem?_cons_succ]
          refine rn0 ?_
          exact fv1 [] [] @fctE.eq_1
    · subst he
      refine rn1 (jn @fsSt.eq_1 (jn @fsRe.eq_1 (jn @rdO.eq_1 @hi))) ?_
      refine HO_pureA ty_ok hcf ?_
      by_cases hc : chkF ⟨s1, s2, s3, acc⟩ = true
      · rw [if_pos hc, chkE_ok hc]
        refine rn0 ?_
        refine HC_of_HV mix ?_
        refine HV_split 4 5 (by decide) ?_ ?_
        · simp only [addAt]
          refine HV_order [] ty_ok [0, 1, 2, 3, 4, 5, 6, 7] (by kernel_rfl) rfl _ rfl ?_
          simp only [opl_nil', opl_cons', oplC_some, List.getElem?_toArray, List.getElem?_cons_zero, List.getElem?_cons_succ]
          refine rn0 ?_
          exact fv1 [] [] @fctE.eq_1
        · simp only [addAt]
          refine HV_order [] ty_ok [0, 1, 2, 3, 5, 4, 6, 7] (by kernel_rfl) rfl _ rfl ?_
          simp only [opl_nil', opl_cons', oplC_some, List.getElem?_toArray, List.getElem?_cons_zero, List.getElem?_cons_succ]
          refine rn0 ?_
          exact fv1 [] [] @fctE.eq_1
      · rw [if_neg hc, chkE_no hc]
        refine rn0 ?_
        refine HC_of_HV mix ?_
        refine HV_split 4 5 (by decide) ?_ ?_
        · simp only [addAt]
          refine HV_order [] ty_ok [0, 1, 2, 3, 4, 5, 6, 7] (by kernel_rfl) rfl _ rfl ?_
          simp only [opl_nil', opl_cons', oplC_some, List.getElem?_toArray, List.getElem?_cons_zero, List.getElem?_cons_succ]
          refine rn0 ?_
          exact fv1 [] [] @fctE.eq_1
        · simp only [addAt]
          refine HV_order [] ty_ok [0, 1, 2, 3, 5, 4, 6, 7] (by kernel_rfl) rfl _ rfl ?_
          simp only [opl_nil', opl_cons', oplC_some, List.getElem?_toArray, List.getElem?_cons_zero, List.getElem?_cons_succ]
          refine rn0 ?_
          exact fv1 [] [] @fctE.eq_1
end Go.Proofs.Ytdbicadncccpoaa

set_option linter.unusedVariables false
set_option linter.unusedSimpArgs false
set_option maxRecDepth 100000
namespace Go.Proofs.Ytdbicadncccpoaa
open Go Go.ChangeShapes Go.WideShapes
def rdO4 (b : List UInt8) (k e : Int) (o : Bool) : List AV := [.d (.sl 1 b.length (bD b)), .d (.c (.int .i64 k)), .d (.c (.int .i64 e)), .d (.c (.bool o))]
def rdr4 (b : List UInt8) (k e : Int) (o : Bool) : Rs := [some (.obj (rdO4 b k e o))]
theorem rdr4_hand (b : List UInt8) (k e : Int) (o : Bool) (rc : Rs) (i : Nat) (hi : rc[i]? = some (some (.obj (rdO4 b k e o)))) : HandOK (nm [i] rc.length) rc (rdr4 b k e o) [i] := by
  refine ⟨fun y h => ?_, trivial⟩
  injection h with h; subst h
  rw [hi]; rfl
theorem rdr4_wf (b : List UInt8) (k e : Int) (o : Bool) : wfRs (rdr4 b k e o).length (rdr4 b k e o) = true := rfl
set_option maxHeartbeats 400000 in
theorem rrtxt_ac (b : List UInt8) (k e : Int) (o : Bool) (hb : b.length ≤ 140737488355000) (h : okR b k e) : AC Try.prog noG 78 [.ptr 0 0] (rdr4 b k e o)
    (fun v r' => v = .d (.c (.string (rdT b k e).1)) ∧ r' = rdr4 b (rdT b k e).2.1 (rdT b k e).2.2 o) := by
  refine AC_of_R (N := 35) (res := [.tmp 2]) ty_ok Try.call78 Try.func78 rfl rfl rfl (Nat.le_of_ble_eq_true rfl) ?_
  obtain ⟨h1, h2⟩ := h
  by_cases he : e = 0
  · subst he
    have ht := txt_bd b k
    have hx := rtext_ac b k h1.1 h1.2 hb
    have hm : rdT b k 0 = if (txt b k).2.2 = 0 then ((txt b k).1, (txt b k).2.1, 0) else (⟨#[]⟩, k, (txt b k).2.2) := if_pos rfl
    generalize txt b k = t at *
    obtain ⟨s, nx, er⟩ := t
    simp only at ht hm
    refine rn1 (jn @rdr4.eq_1 @rdO4.eq_1) ?_
    refine HC_plan [] ty_ok mix (by kernel_rfl) ?_
    refine rn0 ?_
    refine HO_pureA ty_ok hx ?_
    by_cases h0 : er = 0
    · rw [if_pos h0] at hm
      exact rz1 (jn @triS.eq_1 (jn @h0 @hm))
    · rw [if_neg h0] at hm
      exact rz1 (jn @triS.eq_1 (jn @h0 @hm))
  · have hm : rdT b k e = (⟨#[]⟩, k, e) := if_neg he
    exact rz1 (jn @rdr4.eq_1 (jn @rdO4.eq_1 (jn @he @hm)))
set_option maxHeartbeats 400000 in
theorem rrint_ac (b : List UInt8) (k e : Int) (o : Bool) (hb : b.length ≤ 140737488355000) (h : okR b k e) : AC Try.prog noG 101 [.ptr 0 0] (rdr4 b k e o)
    (fun v r' => v = .d (.c (.int .i64 (rdN b k e).1)) ∧ r' = rdr4 b (rdN b k e).2.1 (rdN b k e).2.2 o) := by
  refine AC_of_R (N := 35) (res := [.tmp 2]) ty_ok Try.call101 Try.func101 rfl rfl rfl (Nat.le_of_ble_eq_true rfl) ?_
  obtain ⟨h1, h2⟩ := h
  by_cases he : e = 0
  · subst he
    have ht := rdInt_bd b k
    have hx := rint_ac b k h1.1 h1.2 hb
    have hm : rdN b k 0 = if (rdInt b k).2.2 = 0 then ((rdInt b k).1, (rdInt b k).2.1, 0) else (0, k, (rdInt b k).2.2) := if_pos rfl
    generalize rdInt b k = t at *
    obtain ⟨s, nx, er⟩ := t
    simp only at ht hm
    refine rn1 (jn @rdr4.eq_1 @rdO4.eq_1) ?_
    refine HC_plan [] ty_ok mix (by kernel_rfl) ?_
    refine rn0 ?_
    refine HO_pureA ty_ok hx ?_
    by_cases h0 : er = 0
    · rw [if_pos h0] at hm
      exact rz1 (jn @tri.eq_1 (jn @h0 @hm))
    · rw [if_neg h0] at hm
      exact rz1 (jn @tri.eq_1 (jn @h0 @hm))
  · have hm : rdN b k e = (0, k, e) := if_neg he
    exact rz1 (jn @rdr4.eq_1 (jn @rdO4.eq_1 (jn @he @hm)))
set_option maxHeartbeats 400000 in
theorem rrcnt_ac (b : List UInt8) (most k e : Int) (o : Bool) (hb : b.length ≤ 140737488355000) (h : okR b k e) : AC Try.prog noG 79 [.ptr 0 0, .d (.c (.int .i64 most))] (rdr4 b k e o)
    (fun v r' => v = .d (.c (.int .i64 (rdC b most k e).1)) ∧ r' = rdr4 b (rdC b most k e).2.1 (rdC b most k e).2.2 o) := by
  refine AC_of_R (N := 24) (res := [.tmp 4]) ty_ok Try.call79 Try.func79 rfl rfl rfl (Nat.le_of_ble_eq_true rfl) ?_
  have hx := rrint_ac b k e o hb h
  have hm : rdC b most k e = if (rdN b k e).2.2 = 0 then (if (rdN b k e).1 < 0 ∨ most < (rdN b k e).1 then (0, (rdN b k e).2.1, 11) else rdN b k e) else (0, (rdN b k e).2.1, (rdN b k e).2.2) := rfl
  generalize rdN b k e = t at *
  obtain ⟨s, nx, er⟩ := t
  simp only at hm hx
  refine rn1 (jn @rdr4.eq_1 @rdO4.eq_1) ?_
  refine HO_callX ty_ok [0] (hx) (rdr4_hand _ _ _ _ _ _ rfl) (rdr4_wf _ _ _ _) ?_
  rintro v r' ⟨rfl, rfl⟩ _
  by_cases h0 : er = 0
  · rw [if_pos h0] at hm
    by_cases g1 : s < 0
    · rw [if_pos (.inl g1)] at hm
      exact rz1 (jn @rdr4.eq_1 (jn @rdO4.eq_1 (jn @h0 (jn @g1 @hm))))
    · by_cases g2 : most < s
      · rw [if_pos (.inr g2)] at hm
        exact rz1 (jn @rdr4.eq_1 (jn @rdO4.eq_1 (jn @h0 (jn @g1 (jn @g2 @hm)))))
      · rw [if_neg (by omega)] at hm
        exact rz1 (jn @rdr4.eq_1 (jn @rdO4.eq_1 (jn @h0 (jn @g1 (jn @g2 @hm)))))
  · rw [if_neg h0] at hm
    exact rz1 (jn @rdr4.eq_1 (jn @rdO4.eq_1 (jn @h0 @hm)))
set_option maxHeartbeats 400000 in
theorem rrknd_ac (b : List UInt8) (most : Nat) (k e : Int) (o : Bool) (hb : b.length ≤ 140737488355000) (h : okR b k e) (hk : e = 0 → 0 ≤ k) : AC Try.prog noG 102 [.ptr 0 0, .d (.c (.int .i64 most))] (rdr4 b k e o)
    (fun v r' => v = .d (.c (.int .i64 ((rdK b most k e).1 : Nat))) ∧ r' = rdr4 b (rdK b most k e).2.1 (rdK b most k e).2.2 o) := by
  refine AC_of_R (N := 49) (res := [.tmp 4]) ty_ok Try.call102 Try.func102 rfl rfl rfl (Nat.le_of_ble_eq_true rfl) ?_
  by_cases he : e = 0
  · subst he
    have hk := hk rfl
    by_cases g1 : (b.length : Int) ≤ k
    · have hm : rdK b most k 0 = (0, k, 10) := by rw [rdK, if_pos rfl, if_pos g1]
      refine rn1 (jn @rdr4.eq_1 @rdO4.eq_1) ?_
      refine HC_plan [] ty_ok mix (by kernel_rfl) ?_
      refine rn1 (jn @g1 @hm) ?_
      rfl
    · have g3 : k < b.length := by omega
      have hd := bD_at b k hk g3
      have hc8 := (b.getD k.toNat 0).toNat_lt
      have hm : rdK b most k 0 = if most < (b.getD k.toNat 0).toNat then (0, k, 11) else ((b.getD k.toNat 0).toNat, k + 1, 0) := by rw [rdK, if_pos rfl, if_neg g1]
      generalize hc : (b.getD k.toNat 0).toNat = c at *
      refine rn1 (jn @rdr4.eq_1 @rdO4.eq_1) ?_
      refine HC_plan [] ty_ok mix (by kernel_rfl) ?_
      refine rn1 @g1 ?_
      refine HC_plan [] ty_ok mix (by kernel_rfl) ?_
      by_cases g2 : most < c
      · have g2' : (most : Int) < c := by omega
        rw [if_pos g2] at hm
        refine rn1 (jn @g1 (jn @g2' (jn @g3 (jn @hk (jn @hc @hm))))) ?_
        rfl
      · have g2' : ¬ (most : Int) < c := by omega
        rw [if_neg g2] at hm
        exact rz1 (jn @g1 (jn @g2' (jn @g3 (jn @hk (jn @hc @hm)))))
  · have hm : rdK b most k e = (0, k, e) := if_neg he
    refine rn1 (jn @rdr4.eq_1 (jn @rdO4.eq_1 (jn @he @hm))) ?_
    rfl
set_option maxHeartbeats 400000 in
theorem rrval_ac (b : List UInt8) (k e : Int) (o : Bool) (hb : b.length ≤ 140737488355000) (h : okR b k e) (hk : e = 0 → 0 ≤ k) : AC Try.prog noG 80 [.ptr 0 0] (rdr4 b k e o)
    (fun v r' => v = .d (.agg (cstE (rdV b k e).1)) ∧ r' = rdr4 b (rdV b k e).2.1 (rdV b k e).2.2 o) := by
  refine AC.fit ?_
  refine AC_of_R (N := 12) (res := [.cell 2 120]) ty_ok Try.call80 Try.func80 rfl rfl rfl (Nat.le_of_ble_eq_true rfl) ?_
  have hx := rrknd_ac b 1 k e o hb h hk
  have ho := rdK_ok (most := 1) hb h hk
  have hm : rdV b k e = if (rdK b 1 k e).1 = 1 then (⟨false, 0, (rdT b (rdK b 1 k e).2.1 (rdK b 1 k e).2.2).1⟩, (rdT b (rdK b 1 k e).2.1 (rdK b 1 k e).2.2).2)
    else (⟨true, (rdN b (rdK b 1 k e).2.1 (rdK b 1 k e).2.2).1, ⟨#[]⟩⟩, (rdN b (rdK b 1 k e).2.1 (rdK b 1 k e).2.2).2) := rfl
  generalize rdK b 1 k e = t at *
  obtain ⟨q, k1, e1⟩ := t
  simp only at hx hm ho
  have c1 : ((1 : Nat) : Int) = 1 := rfl
  rw [c1] at hx
  refine rn1 (jn @rdr4.eq_1 @rdO4.eq_1) ?_
  refine HO_callX ty_ok [0] (hx) (rdr4_hand _ _ _ _ _ _ rfl) (rdr4_wf _ _ _ _) ?_
  rintro v r' ⟨rfl, rfl⟩ _
  by_cases g : q = 1
  · subst g
    have h2 := rrtxt_ac b k1 e1 o hb ho.1
    rw [if_pos rfl] at hm
    generalize rdT b k1 e1 = u at *
    obtain ⟨s, k2, e2⟩ := u
    simp only at h2 hm
    rw [hm]
    refine rn1 (jn @rdr4.eq_1 (jn @rdO4.eq_1 @c1)) ?_
    refine HO_callX ty_ok [0] (h2) (rdr4_hand _ _ _ _ _ _ rfl) (rdr4_wf _ _ _ _) ?_
    rintro v r' ⟨rfl, rfl⟩ _
    refine rn1 (jn @rdr4.eq_1 @rdO4.eq_1) ?_
    exact fv1 [0] [] (jn @rdr4.eq_1 (jn @rdO4.eq_1 @cstE.eq_1))
  · have g' : ¬ (q : Int) = 1 := by omega
    have h2 := rrint_ac b k1 e1 o hb ho.1
    rw [if_neg g] at hm
    generalize rdN b k1 e1 = u at *
    obtain ⟨s, k2, e2⟩ := u
    simp only at h2 hm
    rw [hm]
    refine rn1 (jn @rdr4.eq_1 (jn @rdO4.eq_1 @g')) ?_
    refine HO_callX ty_ok [0] (h2) (rdr4_hand _ _ _ _ _ _ rfl) (rdr4_wf _ _ _ _) ?_
    rintro v r' ⟨rfl, rfl⟩ _
    refine rn1 (jn @rdr4.eq_1 @rdO4.eq_1) ?_
    exact fv1 [0] [] (jn @rdr4.eq_1 (jn @rdO4.eq_1 @cstE.eq_1))
def oddR (b : List UInt8) (k e : Int) : Bool := if (rdK b 2 k e).1 = 1 then !txtOK (rdT b (rdK b 2 k e).2.1 (rdK b 2 k e).2.2).1 else if (rdK b 2 k e).1 = 2 then !goodC (rdV b (rdK b 2 k e).2.1 (rdK b 2 k e).2.2).1 else false
theorem odd_bad {b : List UInt8} {k e : Int} (hb : b.length ≤ 140737488355000) (h : okR b k e) (hk : e = 0 → 0 ≤ k) (h0 : (rdTm b k e).2.2 = 0) : badC b k e = oddR b k e := by
  have ho := rdK_ok (most := 2) hb h hk
  unfold badC
  rw [decide_eq_true h0, Bool.true_and]
  have hT := rdTm_ok hb h hk
  have hm : rdTm b k e = if (rdK b 2 k e).1 = 1 then (⟨(rdT b (rdK b 2 k e).2.1 (rdK b 2 k e).2.2).1, zC⟩, (rdT b (rdK b 2 k e).2.1 (rdK b 2 k e).2.2).2)
    else if (rdK b 2 k e).1 = 2 then (⟨⟨#[]⟩, (rdV b (rdK b 2 k e).2.1 (rdK b 2 k e).2.2).1⟩, (rdV b (rdK b 2 k e).2.1 (rdK b 2 k e).2.2).2)
    else (zT, (rdK b 2 k e).2) := rfl
  have hodd : oddR b k e = if (rdK b 2 k e).1 = 1 then !txtOK (rdT b (rdK b 2 k e).2.1 (rdK b 2 k e).2.2).1 else if (rdK b 2 k e).1 = 2 then !goodC (rdV b (rdK b 2 k e).2.1 (rdK b 2 k e).2.2).1 else false := rfl
  rw [hodd]
  have hq : (rdK b 2 k e).1 = (b.getD k.toNat 0).toNat := by
    by_cases hz : (rdK b 2 k e).2.2 = 0
    · exact (ho.2.1 hz).2.2.2.2
    · have h2 := ho.2.2.2 hz
      rw [hm, if_neg (by omega), if_neg (by omega)] at h0
      exact absurd h0 hz
  rw [← hq]
  generalize rdK b 2 k e = t at *
  obtain ⟨q, k1, e1⟩ := t
  simp only at hm ho hq ⊢
  by_cases g : q = 1
  · subst g
    rw [if_pos rfl] at hm ⊢
    rw [hm]
    generalize (rdT b k1 e1).1 = s
    simp only [rightT, decide_eq_false (show ¬ (1 : Nat) = 0 by decide), Bool.not_false, Bool.true_and, decide_true, Bool.and_true, Bool.true_or]
    by_cases hs : s = ⟨#[]⟩
    · subst hs
      rw [if_pos rfl]
      rfl
    · rw [if_neg hs, decide_eq_false (fun hh => hs (by injection hh)), Bool.or_false]
  · rw [if_neg g] at hm ⊢
    by_cases g2 : q = 2
    · subst g2
      rw [if_pos rfl] at hm ⊢
      rw [hm]
      generalize (rdV b k1 e1).1 = c
      simp only [rightT, decide_eq_false (show ¬ (2 : Nat) = 0 by decide), Bool.not_false, Bool.true_and, if_true]
      have e1 : decide ((⟨⟨#[]⟩, c⟩ : Trm) = zT) = decide (c = zC) := ztD rfl
      rw [e1]
      by_cases hc : c = zC
      · subst hc; rfl
      · rw [decide_eq_false hc, Bool.false_or, Bool.or_false]
    · rw [if_neg g2] at hm ⊢
      have : q = 0 := by have := ho.2.2.1; omega
      subst this
      rfl
end Go.Proofs.Ytdbicadncccpoaa

set_option linter.unusedVariables false
set_option linter.unusedSimpArgs false
set_option maxRecDepth 100000
namespace Go.Proofs.Ytdbicadncccpoaa
open Go Go.ChangeShapes Go.WideShapes
def rtsSt (n : Int) (x : TsI) : List (Nat × AV) := [(0, .ptr 0 0), (3, .d (.c (.int .i64 n))), (4, .sl (.own 1) 4 x.acc.length (flatE trmE x.acc)), (5, .d (.c (.int .i64 x.i)))]
def rtsRe (b : List UInt8) (x : TsI) : Rs := [some (.obj (rdO4 b x.k x.e x.o)), some (.tok (flatE trmE x.acc).length)]
def rlsSt (n : Int) (x : LsI) : List (Nat × AV) := [(0, .ptr 0 0), (2, .ptr 1 0), (3, .ptr 2 0), (4, .d (.c (.int .i64 n))), (5, .d (.c (.int .i64 x.i)))]
def rlsRe (b : List UInt8) (H : List D) (x : LsI) : Rs := [some (.obj (rdO4 b x.k x.e x.o)), some (.obj (zRul.map .d)), some (.obj (H.map .d ++ [.sl (.own 3) 10 x.acc.length (flatE litE x.acc)])), some (.tok (flatE litE x.acc).length)]
end Go.Proofs.Ytdbicadncccpoaa

set_option linter.unusedVariables false
set_option linter.unusedSimpArgs false
set_option maxRecDepth 100000
namespace Go.Proofs.Ytdbicadncccpoaa
open Go Go.ChangeShapes Go.WideShapes
def zFD : List AV := [.d (.c (.string ⟨#[]⟩)), .d (.c (.string ⟨#[]⟩)), .d (.c (.string ⟨#[]⟩)), .d (.c (.slice none 0 0))]
def rfsSt (n : Int) (x : FsI) : List (Nat × AV) := [(4, .ptr 0 0), (5, .d (.c (.int .i64 0))), (6, .d (.c (.int .i64 0))), (7, .ptr 1 0), (8, .ptr 2 0), (9, .d (.c (.int .i64 n))), (10, .d (.c (.int .i64 x.i)))]
def rfsRe (b : List UInt8) (s1 s2 s3 : ByteArray) (x : FsI) : Rs := [some (.obj zFD), some (.obj (rdO4 b x.k x.e false)), some (.obj [.d (.c (.string s1)), .d (.c (.string s2)), .d (.c (.string s3)), .sl (.own 3) 3 x.acc.length (flatE cstE x.acc)]), some (.tok (flatE cstE x.acc).length)]
set_option maxHeartbeats 1000000 in
theorem rrfact_ac (b : List UInt8) (k : Int) (hb : b.length ≤ 140737488355000) (h0 : -9223372036854775808 ≤ k) (h1 : k ≤ 9223372036854775807) : AC Try.prog noG 46 [.d (.sl 1 b.length (bD b)), .d (.c (.int .i64 k))] []
    (fun v r' => v = fcV (rdF b k) ∧ r' = []) := by
  refine AC.fit ?_
  refine AC_of_R (N := 64) (res := [.cell 4 24, .tmp 5, .tmp 6]) ty_ok Try.call46 Try.func46 rfl rfl rfl (Nat.le_of_ble_eq_true rfl) ?_
  obtain ⟨R, hm⟩ : ∃ R, R = rdF0 b k := ⟨_, rfl⟩
  have hF : rdF b k = if R.2.2.1 = 0 then (if chkF R.1 then (R.1, R.2.1, 0) else (zF, 0, 40)) else (zF, 0, R.2.2.1) := by rw [hm]; rfl
  rw [hF]
  clear hF
  simp only [rdF0, thn, tx4, ct4] at hm
  have ok0 : okR b k 0 := ⟨⟨h0, h1⟩, by omega⟩
  have hx := rrtxt_ac b k 0 false hb ok0
  have ho := rdT_ok hb ok0
  generalize rdT b k 0 = x_ at *
  obtain ⟨s1, k1, e1⟩ := x_
  dsimp only at hx ho hm
  have a1 := ho
  refine rn0 ?_
  refine HO_callX ty_ok [1] (hx) (rdr4_hand _ _ _ _ _ _ rfl) (rdr4_wf _ _ _ _) ?_
  rintro v r' ⟨rfl, rfl⟩ _
  clear hx
  have hx := rrtxt_ac b k1 e1 false hb a1.1
  have ho := rdT_ok hb a1.1
  generalize rdT b k1 e1 = x_ at *
  obtain ⟨s2, k2, e2⟩ := x_
  dsimp only at hx ho hm
  have a2 := ho
  refine rn1 (jn @rdr4.eq_1 @rdO4.eq_1) ?_
  refine HO_callX ty_ok [1] (hx) (rdr4_hand _ _ _ _ _ _ rfl) (rdr4_wf _ _ _ _) ?_
  rintro v r' ⟨rfl, rfl⟩ _
  clear hx
  have hx := rrtxt_ac b k2 e2 false hb a2.1
  have ho := rdT_ok hb a2.1
  generalize rdT b k2 e2 = x_ at *
  obtain ⟨s3, k3, e3⟩ := x_
  dsimp only at hx ho hm
  have a3 := ho
  refine rn1 (jn @rdr4.eq_1 @rdO4.eq_1) ?_
  refine HO_callX ty_ok [1] (hx) (rdr4_hand _ _ _ _ _ _ rfl) (rdr4_wf _ _ _ _) ?_
  rintro v r' ⟨rfl, rfl⟩ _
  clear hx
  have hx := rrcnt_ac b 48 k3 e3 false hb a3.1
  have ho := rdC_ok (most := 48) (by omega) hb a3.1
  generalize rdC b 48 k3 e3 = x_ at *
  obtain ⟨n, k5, e5⟩ := x_
  dsimp only at hx ho hm
  have a5 := ho
  refine rn1 (jn @rdr4.eq_1 @rdO4.eq_1) ?_
  refine HO_callX ty_ok [1] (hx) (rdr4_hand _ _ _ _ _ _ rfl) (rdr4_wf _ _ _ _) ?_
  rintro v r' ⟨rfl, rfl⟩ _
  refine rn1 (jn @rdr4.eq_1 @rdO4.eq_1) ?_
  clear ho hx
  obtain ⟨Q, hQ⟩ : ∃ Q, Q = rdG (cv4 b) n.toNat k5 e5 false := ⟨_, rfl⟩
  rw [← hQ] at hm
  refine HC_loopR (rfsSt n) (rfsRe b s1 s2 s3) (fun x => x.i ≤ n.toNat ∧ x.acc.length ≤ x.i ∧ okR b x.k x.e ∧ (x.e = 0 → 0 ≤ x.k ∧ x.k ≤ b.length) ∧ Q = (x.acc ++ (rdG (cv4 b) (n.toNat - x.i) x.k x.e false).1, (rdG (cv4 b) (n.toNat - x.i) x.k x.e false).2)) (fun x => n.toNat - x.i) ⟨0, [], k5, e5⟩ [0, 1, 2, 3] [0] ⟨by simp only; omega, Nat.le_refl _, a5.1, fun he => by have := a5.2.1 he; simp only; omega, by simpa using hQ⟩ ?_ ?_
  · exact ft1 (jn @rfsSt.eq_1 (jn @rfsRe.eq_1 (jn @flatE_nil (jn @rdO4.eq_1 @zFD.eq_1))))
  intro ⟨i, acc, kk, ee⟩ ⟨q1, q2, q3, q4, q6⟩
  simp only at q1 q2 q3 q4 q6
  refine HC_of_R ty_ok ?_
  by_cases hlt : i < n.toNat ∧ ee = 0
  · obtain ⟨hlt, he⟩ := hlt
    have hi : (i : Int) < n := by omega
    subst he
    have hn1 : n.toNat - i = (n.toNat - (i + 1)) + 1 := by omega
    rw [hn1, rdG, if_pos rfl] at q6
    have hx := rrval_ac b kk 0 false hb q3 (fun _ => (q4 rfl).1)
    have ho := rdV_ok hb q3 (fun _ => (q4 rfl).1)
    have hcv : cv4 b kk 0 false = ((rdV b kk 0).1, (rdV b kk 0).2.1, (rdV b kk 0).2.2, false) := rfl
    rw [hcv] at q6
    generalize rdV b kk 0 = x_ at *
    obtain ⟨u, m4, f4⟩ := x_
    dsimp only at hx ho q6
    have hsn := flatE_snoc cstE acc u
    have hle := flatE_len cstE_len acc
    refine rn1 (jn @rfsSt.eq_1 (jn @rfsRe.eq_1 (jn @rdO4.eq_1 (jn @zFD.eq_1 @hi)))) ?_
    refine HC_of_HV mix ?_
    refine HV_split 1 3 (by decide) ?_ ?_
    · simp only [addAt]
      refine HV_order [] ty_ok [0, 1, 2, 3, 4, 5, 6, 7] (by kernel_rfl) rfl _ rfl ?_
      simp only [opl_nil', opl_cons', oplC_some, List.getElem?_toArray, List.getElem?_cons_zero, List.getElem?_cons_succ]
      refine rn0 ?_
      refine HO_callX ty_ok [1] (hx) (rdr4_hand _ _ _ _ _ _ rfl) (rdr4_wf _ _ _ _) ?_
      rintro v r' ⟨rfl, rfl⟩ _
      refine rn1 (jn @rdr4.eq_1 (jn @rdO4.eq_1 @cstE.eq_1)) ?_
      (repeat (refine And.intro (by omega) ?_))
      refine ⟨⟨i + 1, acc ++ [u], m4, f4⟩, ⟨by simp only; omega, by simp only [List.length_append, List.length_cons, List.length_nil]; omega, ho.1, fun hh => by have := ho.2 hh; simp only; omega, by simp only [List.append_assoc, List.cons_append, List.nil_append]; exact q6⟩, by simp only; omega, [0, 1, 2, 3], [], ?_⟩
      exact ft1 (jn @rfsSt.eq_1 (jn @rfsRe.eq_1 (jn @rdO4.eq_1 (jn @hsn (jn @cstE.eq_1 @zFD.eq_1)))))
    · simp only [addAt]
      refine HV_order [] ty_ok [0, 2, 3, 1, 4, 5, 6, 7] (by kernel_rfl) rfl _ rfl ?_
      simp only [opl_nil', opl_cons', oplC_some, List.getElem?_toArray, List.getElem?_cons_zero, List.getElem?_cons_succ]
      refine rn0 ?_
      refine HO_callX ty_ok [1] (hx) (rdr4_hand _ _ _ _ _ _ rfl) (rdr4_wf _ _ _ _) ?_
      rintro v r' ⟨rfl, rfl⟩ _
      refine rn1 (jn @rdr4.eq_1 (jn @rdO4.eq_1 @cstE.eq_1)) ?_
      (repeat (refine And.intro (by omega) ?_))
      refine ⟨⟨i + 1, acc ++ [u], m4, f4⟩, ⟨by simp only; omega, by simp only [List.length_append, List.length_cons, List.length_nil]; omega, ho.1, fun hh => by have := ho.2 hh; simp only; omega, by simp only [List.append_assoc, List.cons_append, List.nil_append]; exact q6⟩, by simp only; omega, [0, 1, 2, 3], [], ?_⟩
      exact ft1 (jn @rfsSt.eq_1 (jn @rfsRe.eq_1 (jn @rdO4.eq_1 (jn @hsn (jn @cstE.eq_1 @zFD.eq_1)))))
  · have q7 : Q = (acc, kk, ee, false) := by
      by_cases h0 : i < n.toNat
      · rw [rdG_err (fun he => hlt ⟨h0, he⟩)] at q6
        simpa using q6
      · have hn1 : n.toNat - i = 0 := by omega
        rw [hn1, rdG] at q6
        simpa using q6
    rw [q7] at hm
    dsimp only at hm
    subst hm
    have hcf := rfchk_ac ⟨s1, s2, s3, acc⟩ (by show acc.length ≤ _; omega)
    simp only [fctE] at hcf
    have fin : ¬ ee = 0 ∨ (ee = 0 ∧ ¬ (i : Int) < n) := by
      by_cases he : ee = 0
      · exact .inr ⟨he, fun hi => hlt ⟨by omega, he⟩⟩
      · exact .inl he
    rcases fin with he | ⟨he, hi⟩
    · rw [fcV_err he]
      by_cases hi : (i : Int) < n
      · refine rn1 (jn @rfsSt.eq_1 (jn @rfsRe.eq_1 (jn @rdO4.eq_1 (jn @zFD.eq_1 (jn @hi @he))))) ?_
        refine HC_of_HV mix ?_
        refine HV_split 4 5 (by decide) ?_ ?_
        · simp only [addAt]
          refine HV_order [] ty_ok [0, 1, 2, 3, 4, 5, 6, 7] (by kernel_rfl) rfl _ rfl ?_
          simp only [opl_nil', opl_cons', oplC_some, List.getElem?_toArray, List.getElem?_cons_zero, List.getElem?_cons_succ]
          refine rn0 ?_
          exact fv1 [] [] @fctE.eq_1
        · simp only [addAt]
          refine HV_order [] ty_ok [0, 1, 2, 3, 5, 4, 6, 7] (by kernel_rfl) rfl _ rfl ?_
          simp only [opl_nil', opl_cons', oplC_some, List.getElem?_toArray, List.getElem?_cons_zero, List.getElem?_cons_succ]
          refine rn0 ?_
          exact fv1 [] [] @fctE.eq_1
      · refine rn1 (jn @rfsSt.eq_1 (jn @rfsRe.eq_1 (jn @rdO4.eq_1 (jn @zFD.eq_1 (jn @hi @he))))) ?_
        refine HC_of_HV mix ?_
        refine HV_split 4 5 (by decide) ?_ ?_
        · simp only [addAt]
          refine HV_order [] ty_ok [0, 1, 2, 3, 4, 5, 6, 7] (by kernel_rfl) rfl _ rfl ?_
          simp only [opl_nil', opl_cons', oplC_some, List.getElem?_toArray, List.getElem?_cons_zero, List.getElem?_cons_succ]
          refine rn0 ?_
          exact fv1 [] [] @fctE.eq_1
        · simp only [addAt]
          refine HV_order [] ty_ok [0, 1, 2, 3, 5, 4, 6, 7] (by kernel_rfl) rfl _ rfl ?_
          simp only [opl_nil', opl_cons', oplC_some, List.getElem?_toArray, List.getElem?_cons_zero, List.getElem?_cons_succ]
          refine rn0 ?_
          exact fv1 [] [] @fctE.eq_1
    · subst he
      refine rn1 (jn @rfsSt.eq_1 (jn @rfsRe.eq_1 (jn @rdO4.eq_1 (jn @zFD.eq_1 @hi)))) ?_
      refine HO_pureA ty_ok hcf ?_
      by_cases hc : chkF ⟨s1, s2, s3, acc⟩ = true
      · rw [if_pos hc, chkE_ok hc]
        refine rn0 ?_
        refine HC_of_HV mix ?_
        refine HV_split 4 5 (by decide) ?_ ?_
        · simp only [addAt]
          refine HV_order [] ty_ok [0, 1, 2, 3, 4, 5, 6, 7] (by kernel_rfl) rfl _ rfl ?_
          simp only [opl_nil', opl_cons', oplC_some, List.getElem?_toArray, List.getElem?_cons_zero, List.getElem?_cons_succ]
          refine rn0 ?_
          exact fv1 [] [] @fctE.eq_1
        · simp only [addAt]
          refine HV_order [] ty_ok [0, 1, 2, 3, 5, 4, 6, 7] (by kernel_rfl) rfl _ rfl ?_
          simp only [opl_nil', opl_cons', oplC_some, List.getElem?_toArray, List.getElem?_cons_zero, List.getElem?_cons_succ]
          refine rn0 ?_
          exact fv1 [] [] @fctE.eq_1
      · rw [if_neg hc, chkE_no hc]
        refine rn0 ?_
        exact fv1 [] [] @fctE.eq_1
end Go.Proofs.Ytdbicadncccpoaa
