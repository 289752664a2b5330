import Derived.Test.YtfeoafddagdbfaaCRdTs
set_option linter.unusedVariables false
set_option linter.unusedSimpArgs false
set_option maxRecDepth 100000
namespace Go.Proofs.Ytfeoafddagdbfaa
open Go Go.ChangeShapes Go.WideShapes
structure Lit where
  b : Trm
  p : ByteArray
  l : List Trm
  a : Trm
deriving DecidableEq
structure Rul where
  h : Trm
  p : ByteArray
  l : List Trm
  t : Trm
  b : List Lit
deriving DecidableEq
def litE (x : Lit) : List D := [.c (.string x.b.v), .c (.bool x.b.c.num), .c (.int .i64 x.b.c.n), .c (.string x.b.c.s), .c (.string x.p), .sl 4 x.l.length (flatE trmE x.l), .c (.string x.a.v), .c (.bool x.a.c.num), .c (.int .i64 x.a.c.n), .c (.string x.a.c.s)]
theorem litE_len (x : Lit) : (litE x).length = 10 := rfl
def rulH (h : Trm) (p : ByteArray) (l : List Trm) (t : Trm) : List D := [.c (.string h.v), .c (.bool h.c.num), .c (.int .i64 h.c.n), .c (.string h.c.s), .c (.string p), .sl 4 l.length (flatE trmE l), .c (.string t.v), .c (.bool t.c.num), .c (.int .i64 t.c.n), .c (.string t.c.s)]
def rulE (x : Rul) : List D := [.c (.string x.h.v), .c (.bool x.h.c.num), .c (.int .i64 x.h.c.n), .c (.string x.h.c.s), .c (.string x.p), .sl 4 x.l.length (flatE trmE x.l), .c (.string x.t.v), .c (.bool x.t.c.num), .c (.int .i64 x.t.c.n), .c (.string x.t.c.s), .sl 10 x.b.length (flatE litE x.b)]
theorem rulE_len (x : Rul) : (rulE x).length = 11 := rfl
/-- Many, up to the first error. -/
def rdG {α : Type} (one : Int → Int → Bool → α × Int × Int × Bool) : Nat → Int → Int → Bool → List α × Int × Int × Bool
  | 0, k, e, o => ([], k, e, o)
  | n + 1, k, e, o => if e = 0 then ((one k e o).1 :: (rdG one n (one k e o).2.1 (one k e o).2.2.1 (one k e o).2.2.2).1, (rdG one n (one k e o).2.1 (one k e o).2.2.1 (one k e o).2.2.2).2) else ([], k, e, o)
theorem rdG_err {α : Type} {one : Int → Int → Bool → α × Int × Int × Bool} {k e : Int} {o : Bool} (h : e ≠ 0) : ∀ n, rdG one n k e o = ([], k, e, o)
  | 0 => rfl
  | n + 1 => by rw [rdG, if_neg h]
theorem rdG_ok {α : Type} {one : Int → Int → Bool → α × Int × Int × Bool} {b : List UInt8} (hb : b.length ≤ 140737488355000)
    (H : ∀ k e o, okR b k e → (e = 0 → 0 ≤ k ∧ k ≤ b.length) → okR b (one k e o).2.1 (one k e o).2.2.1 ∧ ((one k e o).2.2.1 = 0 → e = 0 ∧ 0 ≤ k ∧ k < (one k e o).2.1 ∧ (one k e o).2.1 ≤ b.length)) :
    ∀ (n : Nat) (k e : Int) (o : Bool), okR b k e → (e = 0 → 0 ≤ k ∧ k ≤ b.length) → okR b (rdG one n k e o).2.1 (rdG one n k e o).2.2.1 ∧ ((rdG one n k e o).2.2.1 = 0 → e = 0 ∧ 0 ≤ k ∧ k ≤ (rdG one n k e o).2.1 ∧ (rdG one n k e o).2.1 ≤ b.length) ∧ (rdG one n k e o).1.length ≤ n
  | 0, k, e, o, h, hk => ⟨h, fun he => ⟨he, (hk he).1, Int.le_refl _, (hk he).2⟩, Nat.le_refl _⟩
  | n + 1, k, e, o, h, hk => by
    rw [rdG]
    split
    · have h1 := H k e o h hk
      have h2 := rdG_ok hb H n (one k e o).2.1 (one k e o).2.2.1 (one k e o).2.2.2 h1.1 (fun he => by have := h1.2 he; omega)
      simp only [List.length_cons]
      refine ⟨h2.1, fun hh => ?_, by omega⟩
      have := h2.2.1 hh
      have := h1.2 this.1
      omega
    · simp only [List.length_nil]
      exact ⟨h, fun he => ⟨he, (hk he).1, Int.le_refl _, (hk he).2⟩, Nat.zero_le _⟩
def rdOne (β : Int → Int → Bool) (b : List UInt8) (k e : Int) (o : Bool) : Trm × Int × Int × Bool := ((rdTm b k e).1, (rdTm b k e).2.1, (rdTm b k e).2.2, o || β k e)
/-- One, then the next. -/
def thn {α γ : Type} (x : α × Int × Int × Bool) (f : α → Int → Int → Bool → γ) : γ := f x.1 x.2.1 x.2.2.1 x.2.2.2
def tx4 (b : List UInt8) (k e : Int) (o : Bool) : ByteArray × Int × Int × Bool := ((rdT b k e).1, (rdT b k e).2.1, (rdT b k e).2.2, o)
def ct4 (b : List UInt8) (most : Int) (k e : Int) (o : Bool) : Int × Int × Int × Bool := ((rdC b most k e).1, (rdC b most k e).2.1, (rdC b most k e).2.2, o)
def rdLit (β : Int → Int → Bool) (b : List UInt8) (k e : Int) (o : Bool) : Lit × Int × Int × Bool :=
  thn (rdOne β b k e o) fun t1 k e o => thn (tx4 b k e o) fun p k e o => thn (rdTms β b k e o) fun l k e o => thn (rdOne β b k e o) fun t2 k e o => (⟨t1, p, l, t2⟩, k, e, o)
def rdRul (β : Int → Int → Bool) (b : List UInt8) (k e : Int) (o : Bool) : Rul × Int × Int × Bool :=
  thn (rdOne β b k e o) fun h k e o => thn (tx4 b k e o) fun p k e o => thn (rdTms β b k e o) fun l k e o => thn (rdOne β b k e o) fun t k e o => thn (ct4 b 5 k e o) fun n k e o =>
    thn (rdG (rdLit β b) n.toNat k e o) fun m k e o => (⟨h, p, l, t, m⟩, k, e, o)
/-- What is read ends without an error only where it began without one. -/
def okOne {α : Type} (b : List UInt8) (one : Int → Int → Bool → α × Int × Int × Bool) : Prop := ∀ k e o, okR b k e → (e = 0 → 0 ≤ k ∧ k ≤ b.length) → okR b (one k e o).2.1 (one k e o).2.2.1 ∧ ((one k e o).2.2.1 = 0 → e = 0 ∧ 0 ≤ k ∧ k < (one k e o).2.1 ∧ (one k e o).2.1 ≤ b.length)
theorem rdOne_ok {β : Int → Int → Bool} {b : List UInt8} (hb : b.length ≤ 140737488355000) : okOne b (rdOne β b) := fun k e o h hk => rdTm_ok hb h (fun he => (hk he).1)
theorem tx4_ok {b : List UInt8} (hb : b.length ≤ 140737488355000) : okOne b (tx4 b) := fun k e o h _ => ⟨(rdT_ok hb h).1, (rdT_ok hb h).2.1⟩
theorem ct4_ok {b : List UInt8} {most : Int} (hm : 0 ≤ most) (hb : b.length ≤ 140737488355000) : okOne b (ct4 b most) := fun k e o h _ => ⟨(rdC_ok hm hb h).1, (rdC_ok hm hb h).2.1⟩
theorem rdTms_ok' {β : Int → Int → Bool} {b : List UInt8} (hb : b.length ≤ 140737488355000) : okOne b (rdTms β b) := fun k e o h _ => ⟨(rdTms_ok hb h).1, (rdTms_ok hb h).2.1⟩
theorem thn_ok {α γ : Type} {b : List UInt8} {one : Int → Int → Bool → α × Int × Int × Bool} {f : α → Int → Int → Bool → γ × Int × Int × Bool} (h1 : okOne b one) (h2 : ∀ a, okOne b (f a)) : okOne b (fun k e o => thn (one k e o) f) := by
  intro k e o h hk
  have g1 := h1 k e o h hk
  have g2 := h2 (one k e o).1 (one k e o).2.1 (one k e o).2.2.1 (one k e o).2.2.2 g1.1 (fun he => by have := g1.2 he; omega)
  refine ⟨g2.1, fun he => ?_⟩
  have := g2.2 he
  have := g1.2 this.1
  show e = 0 ∧ 0 ≤ k ∧ k < (f _ _ _ _).2.1 ∧ (f _ _ _ _).2.1 ≤ _
  omega
/-- The same, and nothing more is read. -/
theorem thn_end {α γ : Type} {b : List UInt8} {one : Int → Int → Bool → α × Int × Int × Bool} {f : α → Int → Int → Bool → γ × Int × Int × Bool} (h1 : okOne b one) (h2 : ∀ a k e o, (f a k e o).2 = (k, e, o)) : okOne b (fun k e o => thn (one k e o) f) := by
  intro k e o h hk
  have g1 := h1 k e o h hk
  have g2 := h2 (one k e o).1 (one k e o).2.1 (one k e o).2.2.1 (one k e o).2.2.2
  show okR b (f (one k e o).1 (one k e o).2.1 (one k e o).2.2.1 (one k e o).2.2.2).2.1 (f (one k e o).1 (one k e o).2.1 (one k e o).2.2.1 (one k e o).2.2.2).2.2.1 ∧ ((f (one k e o).1 (one k e o).2.1 (one k e o).2.2.1 (one k e o).2.2.2).2.2.1 = 0 → e = 0 ∧ 0 ≤ k ∧ k < (f (one k e o).1 (one k e o).2.1 (one k e o).2.2.1 (one k e o).2.2.2).2.1 ∧ (f (one k e o).1 (one k e o).2.1 (one k e o).2.2.1 (one k e o).2.2.2).2.1 ≤ (b.length : Int))
  rw [g2]
  exact g1
theorem rdLit_ok {β : Int → Int → Bool} {b : List UInt8} (hb : b.length ≤ 140737488355000) : okOne b (rdLit β b) :=
  thn_ok (rdOne_ok hb) fun _ => thn_ok (tx4_ok hb) fun _ => thn_ok (rdTms_ok' hb) fun _ => thn_end (rdOne_ok hb) fun _ _ _ _ => rfl
theorem rdRul_ok {β : Int → Int → Bool} {b : List UInt8} (hb : b.length ≤ 140737488355000) : okOne b (rdRul β b) := by
  refine thn_ok (rdOne_ok hb) fun _ => thn_ok (tx4_ok hb) fun _ => thn_ok (rdTms_ok' hb) fun _ => thn_ok (rdOne_ok hb) fun _ => ?_
  intro k e o h hk
  have g1 := ct4_ok (most := 5) (by omega) hb k e o h hk
  have g2 := rdG_ok hb (rdLit_ok (β := β) hb) (ct4 b 5 k e o).1.toNat (ct4 b 5 k e o).2.1 (ct4 b 5 k e o).2.2.1 (ct4 b 5 k e o).2.2.2 g1.1 (fun he => by have := g1.2 he; omega)
  refine ⟨g2.1, fun he => ?_⟩
  have := g2.2.1 he
  have := g1.2 this.1
  show e = 0 ∧ 0 ≤ k ∧ k < (rdG _ _ _ _ _).2.1 ∧ (rdG _ _ _ _ _).2.1 ≤ _
  omega
end Go.Proofs.Ytfeoafddagdbfaa
