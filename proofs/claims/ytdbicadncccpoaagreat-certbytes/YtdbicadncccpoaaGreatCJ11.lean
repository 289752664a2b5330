/- Parts of the proof: Trip, TripI. -/
import Derived.Test.YtdbicadncccpoaaGreatCJ10
import Derived.Test.YtdbicadncccpoaaGreatCJ2
set_option linter.unusedVariables false
set_option linter.unusedSimpArgs false
set_option maxRecDepth 100000
namespace Go.Proofs.YtdbicadncccpoaaGreat
open Go Go.ChangeShapes Go.WideShapes
/-- These bytes lie at this place, and end at that one. -/
def At (b : List UInt8) (k : Int) (x : List UInt8) (nx : Int) : Prop := ∃ kn : Nat, k = kn ∧ nx = ((kn + x.length : Nat) : Int) ∧ kn + x.length ≤ b.length ∧ (b.drop kn).take x.length = x
theorem At.parts {b : List UInt8} {k nx : Int} {x : List UInt8} (h : At b k x nx) : ∃ p r : List UInt8, b = p ++ x ++ r ∧ k = p.length ∧ nx = ((p ++ x).length : Nat) := by
  obtain ⟨kn, h1, h2, h3, h4⟩ := h
  refine ⟨b.take kn, b.drop (kn + x.length), ?_, ?_, ?_⟩
  · have h5 : b = b.take kn ++ b.drop kn := (List.take_append_drop kn b).symm
    have h6 : b.drop kn = (b.drop kn).take x.length ++ (b.drop kn).drop x.length := (List.take_append_drop _ _).symm
    rw [h4, List.drop_drop] at h6
    rw [List.append_assoc, ← h6]
    exact h5
  · rw [List.length_take]; omega
  · rw [List.length_append, List.length_take]; omega
theorem At.app {b : List UInt8} {k m nx : Int} {x y : List UInt8} (h1 : At b k x m) (h2 : At b m y nx) : At b k (x ++ y) nx := by
  obtain ⟨k1, a1, a2, a3, a4⟩ := h1
  obtain ⟨k2, c1, c2, c3, c4⟩ := h2
  have e : k2 = k1 + x.length := by omega
  subst e
  refine ⟨k1, a1, by rw [List.length_append]; omega, by rw [List.length_append]; omega, ?_⟩
  rw [List.length_append, List.take_add, a4, List.drop_drop, c4]
theorem At.split {b : List UInt8} {k nx : Int} {x y : List UInt8} (h : At b k (x ++ y) nx) : ∃ m, At b k x m ∧ At b m y nx := by
  obtain ⟨kn, h1, h2, h3, h4⟩ := h
  rw [List.length_append] at h2 h3 h4
  rw [List.take_add] at h4
  have hl : ((b.drop kn).take x.length).length = x.length := by rw [List.length_take, List.length_drop]; omega
  obtain ⟨e1, e2⟩ := List.append_inj h4 hl
  refine ⟨((kn + x.length : Nat) : Int), ⟨kn, h1, rfl, by omega, e1⟩, ⟨kn + x.length, rfl, by omega, by omega, ?_⟩⟩
  rw [List.drop_drop] at e2
  exact e2
theorem At.nil {b : List UInt8} {k : Int} (h0 : 0 ≤ k) (h1 : k ≤ b.length) : At b k [] k := ⟨k.toNat, by omega, by simp; omega, by simp; omega, by simp⟩
theorem At.bd {b : List UInt8} {k nx : Int} {x : List UInt8} (h : At b k x nx) : 0 ≤ k ∧ nx = k + x.length ∧ nx ≤ b.length := by
  obtain ⟨kn, h1, h2, h3, _⟩ := h
  omega
theorem At.one {b : List UInt8} {k nx : Int} {x : UInt8} (h : At b k [x] nx) : 0 ≤ k ∧ k < b.length ∧ b.getD k.toNat 0 = x ∧ nx = k + 1 := by
  obtain ⟨kn, h1, h2, h3, h4⟩ := h
  simp only [List.length_cons, List.length_nil] at h2 h3 h4
  have hk : k.toNat = kn := by omega
  have hlt : kn < b.length := by omega
  rw [List.drop_eq_getElem_cons hlt, List.take_succ_cons, List.take_zero] at h4
  injection h4 with h4
  exact ⟨by omega, by omega, by rw [hk, List.getD_eq_getElem?_getD, List.getElem?_eq_getElem hlt]; exact h4, by omega⟩
theorem At.of_one {b : List UInt8} {k : Int} (h0 : 0 ≤ k) (h1 : k < b.length) : At b k [b.getD k.toNat 0] (k + 1) := by
  have hlt : k.toNat < b.length := by omega
  refine ⟨k.toNat, by omega, by simp; omega, by simp; omega, ?_⟩
  rw [List.length_cons, List.length_nil, List.drop_eq_getElem_cons hlt, List.take_succ_cons, List.take_zero, List.getD_eq_getElem?_getD, List.getElem?_eq_getElem hlt]
  rfl
/-! ### What is laid stands behind any bytes -/
theorem putTx_app (b : List UInt8) (s : ByteArray) : putTx b s = b ++ putTx [] s := by simp [putTx]
theorem putC_app (b : List UInt8) (c : Cst) : putC b c = b ++ putC [] c := by
  unfold putC
  split
  · simp
  · rw [putTx_app (b ++ [1]), putTx_app ([] ++ [1])]; simp
theorem fold_app {α : Type} {w : List UInt8 → α → List UInt8} (hw : ∀ b a, w b a = b ++ w [] a) : ∀ (l : List α) (b : List UInt8), l.foldl w b = b ++ l.foldl w []
  | [], b => by simp
  | a :: l, b => by
    rw [List.foldl_cons, List.foldl_cons, fold_app hw l (w b a), fold_app hw l (w [] a), hw b a, List.append_assoc]
def WF (f : Fct) : List UInt8 := putTx [] f.a ++ (putTx [] f.b ++ (putTx [] f.p ++ (leb (zig (f.l.length : Int)) ++ f.l.foldl putC [])))
theorem putF_app (b : List UInt8) (f : Fct) : putF b f = b ++ WF f := by
  unfold putF WF
  rw [fold_app putC_app, putTx_app (putTx (putTx b f.a) f.b), putTx_app (putTx b f.a), putTx_app b f.a]
  simp only [List.append_assoc]
theorem fold_cons {α : Type} {w : List UInt8 → α → List UInt8} (hw : ∀ b a, w b a = b ++ w [] a) (a : α) (l : List α) : (a :: l).foldl w [] = w [] a ++ l.foldl w [] := by
  rw [List.foldl_cons, fold_app hw]
/-! ### What is laid is read -/
end Go.Proofs.YtdbicadncccpoaaGreat

set_option linter.unusedVariables false
set_option linter.unusedSimpArgs false
set_option maxRecDepth 100000
namespace Go.Proofs.YtdbicadncccpoaaGreat
open Go Go.ChangeShapes Go.WideShapes
/-! ### What is read was laid so -/
theorem rdN_inv {b : List UInt8} {k e nx n : Int} (h : rdN b k e = (n, nx, 0)) : e = 0 ∧ (-9223372036854775808 ≤ n ∧ n ≤ 9223372036854775807) ∧ At b k (leb (zig n)) nx := by
  unfold rdN at h
  split at h
  · split at h
    · rename_i h1 h2
      have hb := rdInt_bd b k
      have hr : rdInt b k = (n, nx, 0) := by rw [← h]; exact Prod.ext rfl (Prod.ext rfl h2)
      obtain ⟨kn, g1, g2, g3, g4⟩ := rdInt_inv b k n nx hr
      rw [hr] at hb
      exact ⟨h1, hb.1, kn, g1, g2, g3, g4⟩
    · rename_i h1 h2
      simp only [Prod.mk.injEq] at h
      exact absurd h.2.2 h2
  · rename_i h1
    simp only [Prod.mk.injEq] at h
    exact absurd h.2.2 h1
theorem rdC_inv {b : List UInt8} {m k e nx n : Int} (h : rdC b m k e = (n, nx, 0)) : e = 0 ∧ (0 ≤ n ∧ n ≤ m) ∧ At b k (leb (zig n)) nx := by
  unfold rdC at h
  split at h
  · split at h
    · simp at h
    · rename_i h2
      have h3 := rdN_inv h
      rw [h] at h2
      simp only at h2
      exact ⟨h3.1, by omega, h3.2.2⟩
  · rename_i h1
    simp only [Prod.mk.injEq] at h
    exact absurd h.2.2 h1
theorem rdT_inv {b : List UInt8} {k e nx : Int} {s : ByteArray} (h : rdT b k e = (s, nx, 0)) : e = 0 ∧ s.size ≤ 65536 ∧ At b k (putTx [] s) nx := by
  unfold rdT at h
  split at h
  · split at h
    · rename_i h1 h2
      have hr : txt b k = (s, nx, 0) := by rw [← h]; exact Prod.ext rfl (Prod.ext rfl h2)
      obtain ⟨kn, g1, g2, g3, g4, g5⟩ := txt_inv b k s nx hr
      exact ⟨h1, g5, kn, g1, g2, g3, g4⟩
    · rename_i h1 h2
      simp only [Prod.mk.injEq] at h
      exact absurd h.2.2 h2
  · rename_i h1
    simp only [Prod.mk.injEq] at h
    exact absurd h.2.2 h1
theorem rdK_inv {b : List UInt8} {m q : Nat} {k e nx : Int} (hk : e = 0 → 0 ≤ k) (h : rdK b m k e = (q, nx, 0)) : e = 0 ∧ ∃ x : UInt8, q = x.toNat ∧ x = b.getD k.toNat 0 ∧ q ≤ m ∧ At b k [x] nx := by
  unfold rdK at h
  split at h
  · rename_i he
    split at h
    · simp at h
    · split at h
      · simp at h
      · rename_i h1 h2
        simp only [Prod.mk.injEq] at h
        obtain ⟨g1, g2, _⟩ := h
        refine ⟨he, _, g1.symm, rfl, by omega, ?_⟩
        rw [← g2]
        exact At.of_one (hk he) (by omega)
  · rename_i h1
    simp only [Prod.mk.injEq] at h
    exact absurd h.2.2 h1
theorem u8_of_nat {x : UInt8} {n : Nat} (h : x.toNat = n) : x = UInt8.ofNat n := by rw [← h, UInt8.ofNat_toNat]
theorem rdV_inv {b : List UInt8} {k e nx : Int} {c : Cst} (hk : e = 0 → 0 ≤ k) (h : rdV b k e = (c, nx, 0)) : e = 0 ∧ okC c ∧ At b k (putC [] c) nx := by
  unfold rdV at h
  rcases hK : rdK b 1 k e with ⟨q, k1, e1⟩
  rw [hK] at h
  simp only at h
  split at h
  · rename_i h1
    rcases hT : rdT b k1 e1 with ⟨s, k2, e2⟩
    rw [hT] at h
    simp only [Prod.mk.injEq] at h
    obtain ⟨rfl, rfl, rfl⟩ := h
    obtain ⟨rfl, _, h3⟩ := rdT_inv hT
    obtain ⟨he, x, g1, _, _, g4⟩ := rdK_inv hk hK
    have hx : x = 1 := u8_of_nat (n := 1) (by omega)
    refine ⟨he, ⟨by simp only; decide, by simp only; decide⟩, ?_⟩
    show At b k (putTx ([] ++ [1]) s) _
    rw [putTx_app, List.nil_append]
    rw [hx] at g4
    exact g4.app h3
  · rename_i h1
    rcases hT : rdN b k1 e1 with ⟨s, k2, e2⟩
    rw [hT] at h
    simp only [Prod.mk.injEq] at h
    obtain ⟨rfl, rfl, rfl⟩ := h
    obtain ⟨rfl, hb, h3⟩ := rdN_inv hT
    obtain ⟨he, x, g1, _, g3, g4⟩ := rdK_inv hk hK
    have hx : x = 0 := u8_of_nat (n := 0) (by omega)
    refine ⟨he, hb, ?_⟩
    show At b k ([] ++ [0] ++ leb (zig s)) _
    rw [List.nil_append]
    rw [hx] at g4
    exact g4.app h3
theorem rdG_inv {α : Type} {w : List UInt8 → α → List UInt8} {one : Int → Int → Bool → α × Int × Int × Bool} {P : α → Prop} {b : List UInt8} (hw : ∀ b a, w b a = b ++ w [] a)
    (H : ∀ (k e : Int) (o : Bool) (a : α) (nx : Int) (o' : Bool), (e = 0 → o = false → 0 ≤ k ∧ k ≤ b.length) → one k e o = (a, nx, 0, o') → o' = false → e = 0 ∧ o = false ∧ P a ∧ At b k (w [] a) nx) :
    ∀ (n : Nat) (k e : Int) (o : Bool) (l : List α) (nx : Int) (o' : Bool), (e = 0 → o = false → 0 ≤ k ∧ k ≤ b.length) → rdG one n k e o = (l, nx, 0, o') → o' = false → e = 0 ∧ o = false ∧ l.length = n ∧ (∀ a ∈ l, P a) ∧ At b k (l.foldl w []) nx
  | 0, k, e, o, l, nx, o', hk, h, ho => by
    rw [rdG] at h
    simp only [Prod.mk.injEq] at h
    obtain ⟨rfl, rfl, rfl, rfl⟩ := h
    exact ⟨rfl, ho, rfl, by simp, At.nil (hk rfl ho).1 (hk rfl ho).2⟩
  | n + 1, k, e, o, l, nx, o', hk, h, ho => by
    rw [rdG] at h
    split at h
    · rename_i he
      rcases h1 : one k e o with ⟨a, k1, e1, o1⟩
      rw [h1] at h
      simp only at h
      rcases h2 : rdG one n k1 e1 o1 with ⟨l2, k2, e2, o2⟩
      rw [h2] at h
      simp only [Prod.mk.injEq] at h
      obtain ⟨rfl, rfl, rfl, rfl⟩ := h
      have hk1 : e1 = 0 → o1 = false → 0 ≤ k1 ∧ k1 ≤ b.length := fun h3 h4 => by
        subst h3
        have := (H k e o a k1 o1 hk h1 h4).2.2.2.bd
        omega
      obtain ⟨r1, r2, r3, r4, r5⟩ := rdG_inv hw H n k1 e1 o1 l2 k2 o2 hk1 h2 ho
      subst r1
      obtain ⟨g1, g2, g3, g4⟩ := H k e o a k1 o1 hk h1 r2
      refine ⟨g1, g2, by rw [List.length_cons, r3], ?_, ?_⟩
      · intro x hx
        simp only [List.mem_cons] at hx
        rcases hx with rfl | hx
        · exact g3
        · exact r4 x hx
      · rw [fold_cons hw]
        exact g4.app r5
    · rename_i he
      simp only [Prod.mk.injEq] at h
      exact absurd h.2.2.1 he
theorem rdF_inv {b : List UInt8} {k nx : Int} {f : Fct} (h : rdF b k = (f, nx, 0)) : chkF f = true ∧ okF f ∧ At b k (WF f) nx := by
  unfold rdF at h
  split at h
  · rename_i h0
    split at h
    · rename_i hc
      simp only [Prod.mk.injEq] at h
      obtain ⟨g1, g2, _⟩ := h
      rw [g1] at hc
      have hR : rdF0 b k = (f, nx, 0, (rdF0 b k).2.2.2) := by rw [← g1, ← g2]; exact Prod.ext rfl (Prod.ext rfl (Prod.ext h0 rfl))
      clear h0 g1 g2
      generalize ho : (rdF0 b k).2.2.2 = o' at hR
      clear ho
      simp only [rdF0, thn, tx4, ct4] at hR
      rcases h1 : rdT b k 0 with ⟨s1, k1, e1⟩
      rw [h1] at hR; dsimp only at hR
      rcases h2 : rdT b k1 e1 with ⟨s2, k2, e2⟩
      rw [h2] at hR; dsimp only at hR
      rcases h3 : rdT b k2 e2 with ⟨s3, k3, e3⟩
      rw [h3] at hR; dsimp only at hR
      rcases h5 : rdC b 48 k3 e3 with ⟨n, k5, e5⟩
      rw [h5] at hR; dsimp only at hR
      rcases h6 : rdG (cv4 b) n.toNat k5 e5 false with ⟨m, k6, e6, o6⟩
      rw [h6] at hR; dsimp only at hR
      simp only [Prod.mk.injEq] at hR
      obtain ⟨rfl, rfl, rfl, rfl⟩ := hR
      have b5 : e5 = 0 → false = false → 0 ≤ k5 ∧ k5 ≤ b.length := fun he _ => by
        subst he
        have := (rdC_inv h5).2.2.bd; omega
      have hcv : ∀ (k e : Int) (o : Bool) (a : Cst) (nx : Int) (o' : Bool), (e = 0 → o = false → 0 ≤ k ∧ k ≤ b.length) → cv4 b k e o = (a, nx, 0, o') → o' = false → e = 0 ∧ o = false ∧ okC a ∧ At b k (putC [] a) nx := by
        intro k e o a nx o' hk h1 h2
        unfold cv4 at h1
        simp only [Prod.mk.injEq] at h1
        obtain ⟨r1, r2, r3, r4⟩ := h1
        have ho : o = false := by rw [r4, h2]
        obtain ⟨g1, g2, g3⟩ := rdV_inv (c := a) (nx := nx) (fun he => (hk he ho).1) (by rw [← r1, ← r2]; exact Prod.ext rfl (Prod.ext rfl r3))
        exact ⟨g1, ho, g2, g3⟩
      have ho6 : o6 = false := by
        have : ∀ n k e o, (rdG (cv4 b) n k e o).2.2.2 = o := by
          intro n
          induction n with
          | zero => intro k e o; rfl
          | succ n ih =>
            intro k e o
            rw [rdG]
            split
            · simp only [cv4, ih]
            · rfl
        have h7 := this n.toNat k5 e5 false
        rw [h6] at h7
        exact h7
      obtain ⟨f1, f2, f3, f4, f5⟩ := rdG_inv (P := okC) putC_app hcv n.toNat k5 e5 false m k6 o6 b5 h6 ho6
      subst f1
      obtain ⟨g1, g2, g3⟩ := rdC_inv h5
      subst g1
      have hn : n = (m.length : Int) := by omega
      rw [hn] at g3
      obtain ⟨a1, _, a3⟩ := rdT_inv h3
      subst a1
      obtain ⟨c1, _, c3⟩ := rdT_inv h2
      subst c1
      obtain ⟨_, _, d3⟩ := rdT_inv h1
      exact ⟨hc, f4, d3.app (c3.app (a3.app (g3.app f5)))⟩
    · simp at h
  · rename_i h0
    simp only [Prod.mk.injEq] at h
    exact absurd h.2.2 h0
end Go.Proofs.YtdbicadncccpoaaGreat
