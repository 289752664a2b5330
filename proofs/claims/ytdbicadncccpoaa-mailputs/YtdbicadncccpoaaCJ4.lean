/- Parts of the proof: WtF, RgtR, EncM, REnc, Enc, Dec, Sim, CLive. -/
import Derived.Test.YtdbicadncccpoaaCJ0
import Derived.Test.YtdbicadncccpoaaCJ3
import Derived.Test.YtdbicadncccpoaaCJ2
set_option linter.unusedVariables false
set_option linter.unusedSimpArgs false
set_option maxRecDepth 100000
namespace Go.Proofs.Ytdbicadncccpoaa
open Go Go.ChangeShapes Go.WideShapes
/-- Sizes that a call's data have. -/
def szF (f : Fct) : Prop := f.a.size ≤ 140737488352000 ∧ f.b.size ≤ 140737488352000 ∧ f.p.size ≤ 140737488352000 ∧ f.l.length ≤ 140737488352000 ∧ ∀ c ∈ f.l, c.s.size ≤ 140737488352000
def wfSt1 (l : List Fct) (m : Int) (x : Nat × Int) : List (Nat × AV) := [(0, .d (.sl 4 l.length (flatE fctE l))), (1, .d (.c (.int .i64 m))), (5, .d (.c (.int .i64 x.2))), (6, .d (.c (.int .i64 x.1)))]
def wfSt2 (l : List Fct) (m : Int) (i : Nat) (x : Nat × Int) : List (Nat × AV) := [(0, .d (.sl 4 l.length (flatE fctE l))), (1, .d (.c (.int .i64 m))), (5, .d (.c (.int .i64 x.2))), (6, .d (.c (.int .i64 i))), (7, .d (.c (.int .i64 x.1)))]
set_option maxHeartbeats 1000000 in
theorem wF_ac (l : List Fct) (m : Int) (hl : l.length ≤ 140737488352000) (hs : ∀ f ∈ l, szF f) (m0 : 0 ≤ m) (m1 : m ≤ 1000000) : AC Try.prog noG 32 [.d (.sl 4 l.length (flatE fctE l)), .d (.c (.int .i64 m))] []
    (fun v r' => (∃ n : Int, v = .d (.c (.int .i64 n)) ∧ (n ≤ m → l.length ≤ m)) ∧ r' = []) := by
  refine AC.pure ?_ (by rintro v ⟨n, rfl, _⟩; rfl)
  refine AC_of_R (N := 79) (res := [.tmp 4]) ty_ok Try.call32 Try.func32 rfl rfl rfl (Nat.le_of_ble_eq_true rfl) ?_
  refine rn0 ?_
  refine HC_loopR (wfSt1 l m) (fun _ => []) (fun x => x.1 ≤ l.length ∧ (x.1 : Int) ≤ x.2 ∧ x.2 ≤ 1000000000000000) (fun x => l.length - x.1) (0, 0) [] [] ⟨by simp, by simp, by simp⟩ ?_ ?_
  · exact ft1 @wfSt1.eq_1
  intro ⟨i, n⟩ ⟨h1, h2, h3⟩
  simp only at h1 h2 h3
  refine HC_of_R ty_ok ?_
  by_cases hlt : i < l.length
  · have hi : (i : Int) < l.length := by omega
    by_cases hn : n ≤ m
    · have hd := flatE_drop fctE_len l i hlt
      have hle := flatE_len fctE_len l
      have hsz := hs l[i] (List.getElem_mem hlt)
      generalize l[i] = f at *
      obtain ⟨z1, z2, z3, z4, z5⟩ := hsz
      simp only [fctE, List.cons_append, List.nil_append] at hd
      refine rn1 (jn @wfSt1.eq_1 (jn @hi @hn)) ?_
      refine HC_plan [] ty_ok mix (by kernel_rfl) ?_
      refine rn1 (jn @hd @hle) ?_
      (repeat (refine And.intro (by omega) ?_))
      obtain ⟨n0, hn0⟩ : ∃ n0 : Int, n0 = n + (1 + (f.l.length : Int) + ((f.a.size : Int) + f.b.size + f.p.size) / 16) := ⟨_, rfl⟩
      have hb0 : n + 1 ≤ n0 ∧ n0 ≤ 900000000000000 := by omega
      refine HC_loopR (wfSt2 l m i) (fun _ => []) (fun x => x.1 ≤ f.l.length ∧ n0 ≤ x.2 ∧ x.2 ≤ 1000000000000000) (fun x => f.l.length - x.1) (0, n0) [] [] ⟨by simp, by simp, by simp only; omega⟩ ?_ ?_
      · rw [hn0]
        exact ft1 @wfSt2.eq_1
      intro ⟨k, q⟩ ⟨g1, g2, g3⟩
      simp only at g1 g2 g3
      refine HC_of_R ty_ok ?_
      by_cases hkl : k < f.l.length
      · have hk : (k : Int) < f.l.length := by omega
        by_cases hq : q ≤ m
        · have hd2 := flatE_drop cstE_len f.l k hkl
          have hle2 := flatE_len cstE_len f.l
          have hsz := z5 f.l[k] (List.getElem_mem hkl)
          generalize f.l[k] = c at *
          simp only [cstE, List.cons_append, List.nil_append] at hd2
          refine rn1 (jn @wfSt2.eq_1 (jn @hi (jn @hd (jn @hle (jn @hk (jn @hq (jn @hd2 @hle2))))))) ?_
          (repeat (refine And.intro (by omega) ?_))
          refine ⟨(k + 1, q + (c.s.size : Int) / 16), ⟨by simp only; omega, by simp only; omega, by simp only; omega⟩, by simp only; omega, [], [], ?_⟩
          exact ft1 @wfSt2.eq_1
        · refine rn1 (jn @wfSt2.eq_1 (jn @hi (jn @hd (jn @hle (jn @hk @hq))))) ?_
          (repeat (refine And.intro (by omega) ?_))
          refine ⟨(i + 1, q), ⟨by simp only; omega, by simp only; omega, by simp only; omega⟩, by simp only; omega, [], [], ?_⟩
          exact ft1 @wfSt1.eq_1
      · have hk : ¬ (k : Int) < f.l.length := by omega
        refine rn1 (jn @wfSt2.eq_1 (jn @hi (jn @hd (jn @hle @hk)))) ?_
        (repeat (refine And.intro (by omega) ?_))
        refine ⟨(i + 1, q), ⟨by simp only; omega, by simp only; omega, by simp only; omega⟩, by simp only; omega, [], [], ?_⟩
        exact ft1 @wfSt1.eq_1
    · refine rn1 (jn @wfSt1.eq_1 (jn @hi @hn)) ?_
      exact ⟨n, rfl, fun h => absurd h hn⟩
  · have hi : ¬ (i : Int) < l.length := by omega
    refine rn1 (jn @wfSt1.eq_1 @hi) ?_
    exact ⟨n, rfl, fun h => by omega⟩
end Go.Proofs.Ytdbicadncccpoaa

set_option linter.unusedVariables false
set_option linter.unusedSimpArgs false
set_option maxRecDepth 100000
namespace Go.Proofs.Ytdbicadncccpoaa
open Go Go.ChangeShapes Go.WideShapes
def rightI (x : Lit) : Bool := rightT x.b && (rightT x.a && (txtOK x.p && rightL x.l))
def rightR (r : Rul) : Bool := rightT r.h && (rightT r.t && (txtOK r.p && (rightL r.l && (decide (r.b.length ≤ 5) && r.b.all rightI))))
def szL (l : List Trm) : Prop := l.length ≤ 140737488352000
def szR (r : Rul) : Prop := szL r.l ∧ r.b.length ≤ 140737488352000 ∧ ∀ x ∈ r.b, szL x.l
def crSt (r : Rul) (i : Nat) : List (Nat × AV) := [(34, .d (.sl 10 r.b.length (flatE litE r.b))), (35, .d (.c (.int .i64 r.b.length))), (36, .d (.c (.int .i64 i)))]
def crRe (r : Rul) : Rs := [none]
def rrSt (r : Rul) (i : Nat) : List (Nat × AV) := [(1, .ptr 0 0), (3, .d (.c (.int .i64 i)))]
def rrRe (r : Rul) : Rs := [some (.obj ((rulE r).map .d))]
end Go.Proofs.Ytdbicadncccpoaa

set_option linter.unusedVariables false
set_option linter.unusedSimpArgs false
set_option maxRecDepth 100000
namespace Go.Proofs.Ytdbicadncccpoaa
open Go Go.ChangeShapes Go.WideShapes
def putLt (b : List UInt8) (x : Lit) : List UInt8 := putT (putTs (putTx (putT b x.b) x.p) x.l) x.a
def putRH (b : List UInt8) (r : Rul) : List UInt8 := putT (putTs (putTx (putT b r.h) r.p) r.l) r.t ++ leb (zig (r.b.length : Int))
def putR (b : List UInt8) (r : Rul) : List UInt8 := r.b.foldl putLt (putRH b r)
def okTs (l : List Trm) : Prop := ∀ t ∈ l, okC t.c
def okI (x : Lit) : Prop := okC x.b.c ∧ okTs x.l ∧ okC x.a.c
def okRl (r : Rul) : Prop := okC r.h.c ∧ okTs r.l ∧ okC r.t.c ∧ ∀ x ∈ r.b, okI x
theorem okC_zC : okC zC := ⟨by decide, by decide⟩
theorem rightT_ok {t : Trm} (h : rightT t = true) (hc : okC t.c) : okT t := by
  obtain ⟨v, c⟩ := t
  simp only [rightT] at h
  refine ⟨hc, ?_⟩
  simp only at hc ⊢
  by_cases hv : v = ⟨#[]⟩
  · rw [if_pos hv] at h
    have hv0 : v.size = 0 := by rw [hv]; rfl
    by_cases hz : c = zC
    · have : c.s.size = 0 := by rw [hz]; rfl
      omega
    · rw [decide_eq_false hz, Bool.false_or] at h
      have := good_size h
      omega
  · rw [if_neg hv, Bool.and_eq_true, decide_eq_true_eq] at h
    have h1 := txt_size h.1
    have : c.s.size = 0 := by rw [h.2]; rfl
    omega
theorem rightL_ok {l : List Trm} (h : rightL l = true) (hc : okTs l) : l.length ≤ 48 ∧ ∀ t ∈ l, okT t := by
  simp only [rightL, Bool.and_eq_true, decide_eq_true_eq, List.all_eq_true] at h
  exact ⟨h.1, fun t ht => rightT_ok (h.2 t ht) (hc t ht)⟩
theorem rightI_iff {x : Lit} (h : rightI x = true) (hc : okI x) : okT x.b ∧ okT x.a ∧ (1 ≤ x.p.size ∧ x.p.size ≤ 32) ∧ x.l.length ≤ 48 ∧ ∀ t ∈ x.l, okT t := by
  simp only [rightI, Bool.and_eq_true] at h
  have hl := rightL_ok h.2.2.2 hc.2.1
  exact ⟨rightT_ok h.1 hc.1, rightT_ok h.2.1 hc.2.2, txt_size h.2.2.1, hl.1, hl.2⟩
theorem rightR_iff {r : Rul} (h : rightR r = true) (hc : okRl r) : okT r.h ∧ okT r.t ∧ (1 ≤ r.p.size ∧ r.p.size ≤ 32) ∧ (r.l.length ≤ 48 ∧ ∀ t ∈ r.l, okT t) ∧ r.b.length ≤ 5 ∧ ∀ x ∈ r.b, rightI x = true ∧ okI x := by
  simp only [rightR, Bool.and_eq_true, decide_eq_true_eq, List.all_eq_true] at h
  exact ⟨rightT_ok h.1 hc.1, rightT_ok h.2.1 hc.2.2.1, txt_size h.2.2.1, rightL_ok h.2.2.2.1 hc.2.1, h.2.2.2.2.1, fun x hx => ⟨h.2.2.2.2.2 x hx, hc.2.2.2 x hx⟩⟩
theorem put4_le {b : List UInt8} {t1 t2 : Trm} {p : ByteArray} {l : List Trm} (h1 : okT t1) (h2 : okT t2) (hp : p.size ≤ 32) (hl : l.length ≤ 48) (ht : ∀ t ∈ l, okT t) :
    (putT b t1).length ≤ b.length + 76 ∧ (putTx (putT b t1) p).length ≤ b.length + 118 ∧ (putTs (putTx (putT b t1) p) l).length ≤ b.length + 3776 ∧ (putT (putTs (putTx (putT b t1) p) l) t2).length ≤ b.length + 3852 := by
  have g1 := putT_le (b := b) h1
  have g2 := putTx_bd (putT b t1) (s := p) (by omega)
  have g3 := putTs_le (b := putTx (putT b t1) p) ht (by omega)
  have g4 := putT_le (b := putTs (putTx (putT b t1) p) l) h2
  omega
theorem putLt_le {b : List UInt8} {x : Lit} (h : rightI x = true) (hc : okI x) : (putLt b x).length ≤ b.length + 3852 := by
  obtain ⟨h1, h2, h3, h4, h5⟩ := rightI_iff h hc
  exact (put4_le h1 h2 h3.2 h4 h5).2.2.2
theorem foldI_le : ∀ (l : List Lit) (b : List UInt8), (∀ x ∈ l, rightI x = true ∧ okI x) → (l.foldl putLt b).length ≤ b.length + 3852 * l.length
  | [], b, _ => by simp
  | t :: l, b, h => by
    have h1 := putLt_le (b := b) (h t (by simp)).1 (h t (by simp)).2
    have h2 := foldI_le l (putLt b t) (fun x hx => h x (by simp [hx]))
    rw [List.foldl_cons, List.length_cons]; omega
theorem putRH_le {b : List UInt8} {r : Rul} (h : rightR r = true) (hc : okRl r) : (putRH b r).length ≤ b.length + 3862 := by
  obtain ⟨h1, h2, h3, h4, h5, _⟩ := rightR_iff h hc
  have g := (put4_le (b := b) h1 h2 h3.2 h4.1 h4.2).2.2.2
  have := leb_nat (n := r.b.length) (by omega)
  rw [putRH, List.length_append]; omega
theorem putR_le {b : List UInt8} {r : Rul} (h : rightR r = true) (hc : okRl r) : (putR b r).length ≤ b.length + 23200 := by
  have g1 := putRH_le (b := b) h hc
  obtain ⟨_, _, _, _, h5, h6⟩ := rightR_iff h hc
  have g2 := foldI_le r.b (putRH b r) h6
  unfold putR; omega
theorem foldR_le : ∀ (l : List Rul) (b : List UInt8), (∀ x ∈ l, rightR x = true ∧ okRl x) → (l.foldl putR b).length ≤ b.length + 23200 * l.length
  | [], b, _ => by simp
  | t :: l, b, h => by
    have h1 := putR_le (b := b) (h t (by simp)).1 (h t (by simp)).2
    have h2 := foldR_le l (putR b t) (fun x hx => h x (by simp [hx]))
    rw [List.foldl_cons, List.length_cons]; omega
def encR (l : List Rul) : List UInt8 × Int := if 768 < l.length then ([], 3) else if l.all rightR then (l.foldl putR (leb (zig (l.length : Int))), 0) else ([], 50)
def enV (t : List UInt8 × Int) : AV := .tup [.d (.sl 1 t.1.length (bD t.1)), .d (.c (.int .i64 t.2))]
end Go.Proofs.Ytdbicadncccpoaa

set_option linter.unusedVariables false
set_option linter.unusedSimpArgs false
set_option maxRecDepth 100000
namespace Go.Proofs.Ytdbicadncccpoaa
open Go Go.ChangeShapes Go.WideShapes
def prA (r : Rul) (acc : List UInt8) : List (Nat × AV) := [(3, .ptr 1 0), (0, .sl (.own 2) 1 acc.length (bD acc))]
def prB (r : Rul) (acc : List UInt8) : List (Nat × AV) := [(3, .ptr 1 0), (0, .sl (.own 3) 1 acc.length (bD acc))]
def reA (r : Rul) (acc : List UInt8) : Rs := [none, some (.obj ((rulE r).map .d)), some (.tok acc.length)]
def reB (r : Rul) (acc : List UInt8) : Rs := [none, some (.obj ((rulE r).map .d)), none, some (.tok acc.length)]
def prSt (r : Rul) (x : Nat × List UInt8) : List (Nat × AV) := [(3, .ptr 1 0), (0, .sl (.own 5) 1 x.2.length (bD x.2)), (5, .d (.c (.int .i64 x.1)))]
def prRe (r : Rul) (x : Nat × List UInt8) : Rs := [none, some (.obj ((rulE r).map .d)), none, none, none, some (.tok x.2.length)]
def prC (i : Nat) (acc : List UInt8) : List (Nat × AV) := [(3, .ptr 1 0), (0, .sl (.own 7) 1 acc.length (bD acc)), (5, .d (.c (.int .i64 i))), (6, .ptr 6 0)]
def reC (r : Rul) (x : Lit) (acc : List UInt8) : Rs := [none, some (.obj ((rulE r).map .d)), none, none, none, none, some (.obj ((litE x).map .d)), some (.tok acc.length)]
end Go.Proofs.Ytdbicadncccpoaa

set_option linter.unusedVariables false
set_option linter.unusedSimpArgs false
set_option maxRecDepth 100000
namespace Go.Proofs.Ytdbicadncccpoaa
open Go Go.ChangeShapes Go.WideShapes
def okRs (l : List Rul) : Prop := ∀ r ∈ l, szR r ∧ okRl r
theorem enc_bad {l : List Rul} (h : ¬ 768 < l.length) (i : Nat) (hi : i < l.length) (hb : rightR l[i] = false) : encR l = ([], 50) := by
  rw [encR, if_neg h, if_neg]
  rw [all_ex rightR l i hi hb]; decide
theorem enc_ok {l : List Rul} (h : ¬ 768 < l.length) (ha : l.all rightR = true) : encR l = (l.foldl putR (leb (zig (l.length : Int))), 0) := by rw [encR, if_neg h, if_pos ha]
def reSt (l : List Rul) (x : Nat × List UInt8) : List (Nat × AV) := [(0, .d (.sl 11 l.length (flatE rulE l))), (4, .sl (.own 1) 1 x.2.length (bD x.2)), (5, .d (.c (.int .i64 x.1)))]
def reRe (x : Nat × List UInt8) : Rs := [none, some (.tok x.2.length)]
def ceSt (l : List Rul) (x : Nat × List UInt8) : List (Nat × AV) := [(15, .d (.sl 11 l.length (flatE rulE l))), (16, .d (.c (.int .i64 l.length))), (17, .d (.c (.int .i64 x.1))), (4, .sl (.own 1) 1 x.2.length (bD x.2))]
def ceFr (l : List Rul) (i : Nat) : List (Nat × AV) := [(15, .d (.sl 11 l.length (flatE rulE l))), (16, .d (.c (.int .i64 l.length))), (17, .d (.c (.int .i64 i)))]
def ceA (acc : List UInt8) : List (Nat × AV) := [(6, .ptr 2 0), (4, .sl (.own 3) 1 acc.length (bD acc))]
def ceB (acc : List UInt8) : List (Nat × AV) := [(6, .ptr 2 0), (4, .sl (.own 4) 1 acc.length (bD acc))]
def ceReA (r : Rul) (acc : List UInt8) : Rs := [none, none, some (.obj ((rulE r).map .d)), some (.tok acc.length)]
def ceReB (r : Rul) (acc : List UInt8) : Rs := [none, none, some (.obj ((rulE r).map .d)), none, some (.tok acc.length)]
def ceIn (r : Rul) (k : Nat) : List (Nat × AV) := [(43, .d (.sl 10 r.b.length (flatE litE r.b))), (44, .d (.c (.int .i64 r.b.length))), (45, .d (.c (.int .i64 k)))]
def ceI (acc : List UInt8) : List (Nat × AV) := [(4, .sl (.own 5) 1 acc.length (bD acc))]
def ceReI (acc : List UInt8) : Rs := [none, none, none, none, none, some (.tok acc.length)]
def ceJ (acc : List UInt8) : List (Nat × AV) := [(4, .sl (.own 7) 1 acc.length (bD acc))]
def ceReJ (acc : List UInt8) : Rs := [none, none, none, none, none, none, none, some (.tok acc.length)]
end Go.Proofs.Ytdbicadncccpoaa

set_option linter.unusedVariables false
set_option linter.unusedSimpArgs false
set_option maxRecDepth 100000
namespace Go.Proofs.Ytdbicadncccpoaa
open Go Go.ChangeShapes Go.WideShapes
theorem rdMany_len {β : Int → Int → Bool} {b : List UInt8} : ∀ (n : Nat) (k e : Int) (o : Bool), (rdMany β b n k e o).1.length ≤ n
  | 0, k, e, o => Nat.le_refl _
  | n + 1, k, e, o => by
    rw [rdMany]
    split
    · have := rdMany_len (β := β) (b := b) n (rdTm b k e).2.1 (rdTm b k e).2.2 (o || β k e)
      simp only [List.length_cons]; omega
    · exact Nat.zero_le _
theorem rdC_most {b : List UInt8} {most k e : Int} (hm : 0 ≤ most) : (rdC b most k e).1 ≤ most := by
  unfold rdC
  split
  · split
    · exact hm
    · rename_i h; omega
  · exact hm
theorem rdTms_len {β : Int → Int → Bool} {b : List UInt8} {k e : Int} {o : Bool} : (rdTms β b k e o).1.length ≤ 48 := by
  have h1 := rdMany_len (β := β) (b := b) (rdC b 48 k e).1.toNat (rdC b 48 k e).2.1 (rdC b 48 k e).2.2 o
  have h2 := rdC_most (b := b) (most := 48) (k := k) (e := e) (by decide)
  unfold rdTms; omega
theorem rdG_all {α : Type} {one : Int → Int → Bool → α × Int × Int × Bool} {p : α → Prop} (H : ∀ k e o, p (one k e o).1) : ∀ (n : Nat) (k e : Int) (o : Bool), ∀ x ∈ (rdG one n k e o).1, p x
  | 0, k, e, o, x, h => by simp [rdG] at h
  | n + 1, k, e, o, x, h => by
    rw [rdG] at h
    split at h
    · simp only [List.mem_cons] at h
      rcases h with rfl | h
      · exact H _ _ _
      · exact rdG_all H n _ _ _ x h
    · simp at h
theorem rdG_len {α : Type} {one : Int → Int → Bool → α × Int × Int × Bool} : ∀ (n : Nat) (k e : Int) (o : Bool), (rdG one n k e o).1.length ≤ n
  | 0, k, e, o => Nat.le_refl _
  | n + 1, k, e, o => by
    rw [rdG]
    split
    · have := rdG_len (one := one) n (one k e o).2.1 (one k e o).2.2.1 (one k e o).2.2.2
      simp only [List.length_cons]; omega
    · exact Nat.zero_le _
theorem rdRul_sz {β : Int → Int → Bool} {b : List UInt8} {k e : Int} {o : Bool} : szR (rdRul β b k e o).1 := by
  simp only [rdRul, thn, tx4, ct4, szR, szL]
  refine ⟨?_, ?_, ?_⟩
  · exact Nat.le_trans rdTms_len (by decide)
  · refine Nat.le_trans (rdG_len _ _ _ _) ?_
    have h2 := rdC_most (b := b) (most := 5) (k := (rdOne β b (rdTms β b (rdT b (rdOne β b k e o).2.1 (rdOne β b k e o).2.2.1).2.1 (rdT b (rdOne β b k e o).2.1 (rdOne β b k e o).2.2.1).2.2 (rdOne β b k e o).2.2.2).2.1 (rdTms β b (rdT b (rdOne β b k e o).2.1 (rdOne β b k e o).2.2.1).2.1 (rdT b (rdOne β b k e o).2.1 (rdOne β b k e o).2.2.1).2.2 (rdOne β b k e o).2.2.2).2.2.1 (rdTms β b (rdT b (rdOne β b k e o).2.1 (rdOne β b k e o).2.2.1).2.1 (rdT b (rdOne β b k e o).2.1 (rdOne β b k e o).2.2.1).2.2 (rdOne β b k e o).2.2.2).2.2.2).2.1) (e := (rdOne β b (rdTms β b (rdT b (rdOne β b k e o).2.1 (rdOne β b k e o).2.2.1).2.1 (rdT b (rdOne β b k e o).2.1 (rdOne β b k e o).2.2.1).2.2 (rdOne β b k e o).2.2.2).2.1 (rdTms β b (rdT b (rdOne β b k e o).2.1 (rdOne β b k e o).2.2.1).2.1 (rdT b (rdOne β b k e o).2.1 (rdOne β b k e o).2.2.1).2.2 (rdOne β b k e o).2.2.2).2.2.1 (rdTms β b (rdT b (rdOne β b k e o).2.1 (rdOne β b k e o).2.2.1).2.1 (rdT b (rdOne β b k e o).2.1 (rdOne β b k e o).2.2.1).2.2 (rdOne β b k e o).2.2.2).2.2.2).2.2.1) (by decide)
    omega
  · refine rdG_all (p := fun x : Lit => x.l.length ≤ 140737488352000) ?_ _ _ _ _
    intro k e o
    simp only [rdLit, thn, tx4]
    exact Nat.le_trans rdTms_len (by decide)
/-- A rule read, and looked at. -/
def lkR (R : Rul × Int × Int × Bool) : Int := if R.2.2.1 = 0 ∧ (R.2.2.2 = true ∨ rightR R.1 = false) then 50 else R.2.2.1
def dcC (b : List UInt8) (k e : Int) (_ : Bool) : Rul × Int × Int × Bool := ((rdRul (badC b) b k e false).1, (rdRul (badC b) b k e false).2.1, lkR (rdRul (badC b) b k e false), false)
def dcR (b : List UInt8) (k e : Int) (o : Bool) : Rul × Int × Int × Bool := ((rdRul (oddR b) b k e o).1, (rdRul (oddR b) b k e o).2.1, lkR (rdRul (oddR b) b k e o), (rdRul (oddR b) b k e o).2.2.2)
theorem lk_ok {b : List UInt8} {k e : Int} {R : Rul × Int × Int × Bool} (h : okR b R.2.1 R.2.2.1 ∧ (R.2.2.1 = 0 → e = 0 ∧ 0 ≤ k ∧ k < R.2.1 ∧ R.2.1 ≤ b.length)) : okR b R.2.1 (lkR R) ∧ (lkR R = 0 → e = 0 ∧ 0 ≤ k ∧ k < R.2.1 ∧ R.2.1 ≤ b.length) := by
  unfold lkR
  split
  · exact ⟨⟨h.1.1, by decide⟩, fun h => by cases h⟩
  · exact h
theorem dcC_ok {b : List UInt8} (hb : b.length ≤ 140737488355000) : okOne b (dcC b) := fun k e _ h hk => lk_ok (rdRul_ok hb k e false h hk)
theorem dcR_ok {b : List UInt8} (hb : b.length ≤ 140737488355000) : okOne b (dcR b) := fun k e o h hk => lk_ok (rdRul_ok hb k e o h hk)
def dec0 (one : Int → Int → Bool → Rul × Int × Int × Bool) (b : List UInt8) : List Rul × Int × Int × Bool := rdG one (rdC b 768 0 0).1.toNat (rdC b 768 0 0).2.1 (rdC b 768 0 0).2.2 false
def decE (b : List UInt8) (x : List Rul × Int × Int × Bool) : List Rul × Int := if x.2.2.1 = 0 then (if x.2.1 < b.length then ([], 11) else (x.1, 0)) else ([], x.2.2.1)
def deV (t : List Rul × Int) : AV := .tup [.d (.sl 11 t.1.length (flatE rulE t.1)), .d (.c (.int .i64 t.2))]
theorem lk_err {R : Rul × Int × Int × Bool} (h : ¬ R.2.2.1 = 0) : lkR R = R.2.2.1 := by unfold lkR; rw [if_neg (fun hh => h hh.1)]
theorem lk_bad {R : Rul × Int × Int × Bool} (h : R.2.2.1 = 0) (hb : R.2.2.2 = true ∨ rightR R.1 = false) : lkR R = 50 := by unfold lkR; rw [if_pos ⟨h, hb⟩]
theorem lk_fine {R : Rul × Int × Int × Bool} (h : R.2.2.1 = 0) (hb : R.2.2.2 = false) (hr : rightR R.1 = true) : lkR R = 0 := by
  unfold lkR; rw [if_neg (fun hh => by rcases hh.2 with h1 | h1 <;> simp_all), h]
structure DsI where
  i : Nat
  acc : List Rul
  k : Int
  e : Int
  o : Bool
def cdSt (b : List UInt8) (n : Int) (x : DsI) : List (Nat × AV) := [(0, .d (.sl 1 b.length (bD b))), (4, .ptr 0 0), (5, .d (.c (.int .i64 n))), (6, .sl (.own 1) 11 x.acc.length (flatE rulE x.acc)), (7, .d (.c (.int .i64 x.i)))]
def cdRe (b : List UInt8) (x : DsI) : Rs := [some (.obj (rdO b x.k x.e)), some (.tok (flatE rulE x.acc).length)]
def rdcSt (b : List UInt8) (n : Int) (x : DsI) : List (Nat × AV) := [(0, .d (.sl 1 b.length (bD b))), (4, .ptr 0 0), (5, .d (.c (.int .i64 n))), (6, .sl (.own 1) 11 x.acc.length (flatE rulE x.acc)), (7, .d (.c (.int .i64 x.i)))]
def rdcRe (b : List UInt8) (x : DsI) : Rs := [some (.obj (rdO4 b x.k x.e x.o)), some (.tok (flatE rulE x.acc).length)]
end Go.Proofs.Ytdbicadncccpoaa

set_option linter.unusedVariables false
set_option linter.unusedSimpArgs false
set_option maxRecDepth 100000
namespace Go.Proofs.Ytdbicadncccpoaa
open Go Go.ChangeShapes Go.WideShapes
/-- Two readers that differ in what they think of odd terms, and agree where no error is met. -/
def Sim {α : Type} (b : List UInt8) (f g : Int → Int → Bool → α × Int × Int × Bool) : Prop := ∀ k e o1 o2, okR b k e → (e = 0 → 0 ≤ k ∧ k ≤ b.length) → (e = 0 → o1 = o2) →
  (f k e o1).1 = (g k e o2).1 ∧ (f k e o1).2.1 = (g k e o2).2.1 ∧ (f k e o1).2.2.1 = (g k e o2).2.2.1 ∧ ((f k e o1).2.2.1 = 0 → (f k e o1).2.2.2 = (g k e o2).2.2.2)
theorem thn_sim {α γ : Type} {b : List UInt8} {f g : Int → Int → Bool → α × Int × Int × Bool} {F F' : α → Int → Int → Bool → γ × Int × Int × Bool} (ho : okOne b f) (h : Sim b f g) (H : ∀ a, Sim b (F a) (F' a)) : Sim b (fun k e o => thn (f k e o) F) (fun k e o => thn (g k e o) F') := by
  intro k e o1 o2 hk h0 he
  obtain ⟨h1, h2, h3, h4⟩ := h k e o1 o2 hk h0 he
  have hok := ho k e o1 hk h0
  have := H (f k e o1).1 (f k e o1).2.1 (f k e o1).2.2.1 (f k e o1).2.2.2 (g k e o2).2.2.2 hok.1 (fun h => by have := hok.2 h; omega) h4
  simp only [thn]
  rw [← h1, ← h2, ← h3]
  exact this
theorem sim_end {α : Type} {b : List UInt8} (a : α) : Sim b (fun k e o => (a, k, e, o)) (fun k e o => (a, k, e, o)) := fun k e o1 o2 _ _ he => ⟨rfl, rfl, rfl, he⟩
theorem one_sim {b : List UInt8} (hb : b.length ≤ 140737488355000) : Sim b (rdOne (badC b) b) (rdOne (oddR b) b) := by
  intro k e o1 o2 h h0 he
  refine ⟨rfl, rfl, rfl, fun hh => ?_⟩
  have hh : (rdTm b k e).2.2 = 0 := hh
  have h1 := (rdTm_ok hb h (fun x => (h0 x).1)).2 hh
  have h2 := odd_bad hb h (fun x => (h0 x).1) hh
  show (o1 || badC b k e) = (o2 || oddR b k e)
  rw [he h1.1, h2]
theorem tx4_sim {b : List UInt8} (hb : b.length ≤ 140737488355000) : Sim b (tx4 b) (tx4 b) := fun k e o1 o2 h h0 he => ⟨rfl, rfl, rfl, fun hh => he ((tx4_ok hb k e o1 h h0).2 hh).1⟩
theorem ct4_sim {b : List UInt8} {m : Int} (hm : 0 ≤ m) (hb : b.length ≤ 140737488355000) : Sim b (ct4 b m) (ct4 b m) := fun k e o1 o2 h h0 he => ⟨rfl, rfl, rfl, fun hh => he ((ct4_ok hm hb k e o1 h h0).2 hh).1⟩
theorem many_sim {b : List UInt8} (hb : b.length ≤ 140737488355000) : ∀ n, Sim b (rdMany (badC b) b n) (rdMany (oddR b) b n)
  | 0 => fun k e o1 o2 _ _ he => ⟨rfl, rfl, rfl, he⟩
  | n + 1 => by
    intro k e o1 o2 h h0 he
    simp only [rdMany]
    by_cases h1 : e = 0
    · rw [if_pos h1, if_pos h1]
      have hs := one_sim hb k e o1 o2 h h0 he
      have hok := rdTm_ok hb h (fun x => (h0 x).1)
      have := many_sim hb n (rdTm b k e).2.1 (rdTm b k e).2.2 (o1 || badC b k e) (o2 || oddR b k e) hok.1 (fun x => by have := hok.2 x; omega) hs.2.2.2
      exact ⟨by simp only; rw [this.1], this.2⟩
    · rw [if_neg h1, if_neg h1]
      exact ⟨rfl, rfl, rfl, fun hh => absurd hh h1⟩
theorem tms_sim {b : List UInt8} (hb : b.length ≤ 140737488355000) : Sim b (rdTms (badC b) b) (rdTms (oddR b) b) := by
  intro k e o1 o2 h h0 he
  have h1 := rdC_ok (most := 48) (by omega) hb h
  exact many_sim hb _ _ _ _ _ h1.1 (fun x => by have := h1.2.1 x; omega) (fun x => he (h1.2.1 x).1)
theorem g_sim {α : Type} {b : List UInt8} {f g : Int → Int → Bool → α × Int × Int × Bool} (ho : okOne b f) (H : Sim b f g) : ∀ n, Sim b (rdG f n) (rdG g n)
  | 0 => fun k e o1 o2 _ _ he => ⟨rfl, rfl, rfl, he⟩
  | n + 1 => by
    intro k e o1 o2 h h0 he
    simp only [rdG]
    by_cases h1 : e = 0
    · rw [if_pos h1, if_pos h1]
      obtain ⟨s1, s2, s3, s4⟩ := H k e o1 o2 h h0 he
      have hok := ho k e o1 h h0
      have := g_sim ho H n (f k e o1).2.1 (f k e o1).2.2.1 (f k e o1).2.2.2 (g k e o2).2.2.2 hok.1 (fun x => by have := hok.2 x; omega) s4
      rw [← s1, ← s2, ← s3]
      exact ⟨by simp only; rw [this.1], this.2⟩
    · rw [if_neg h1, if_neg h1]
      exact ⟨rfl, rfl, rfl, fun hh => absurd hh h1⟩
theorem lit_sim {b : List UInt8} (hb : b.length ≤ 140737488355000) : Sim b (rdLit (badC b) b) (rdLit (oddR b) b) :=
  thn_sim (rdOne_ok hb) (one_sim hb) fun _ => thn_sim (tx4_ok hb) (tx4_sim hb) fun _ => thn_sim (rdTms_ok' hb) (tms_sim hb) fun _ => thn_sim (rdOne_ok hb) (one_sim hb) fun _ => sim_end _
theorem rul_sim {b : List UInt8} (hb : b.length ≤ 140737488355000) : Sim b (rdRul (badC b) b) (rdRul (oddR b) b) :=
  thn_sim (rdOne_ok hb) (one_sim hb) fun _ => thn_sim (tx4_ok hb) (tx4_sim hb) fun _ => thn_sim (rdTms_ok' hb) (tms_sim hb) fun _ => thn_sim (rdOne_ok hb) (one_sim hb) fun _ =>
    thn_sim (ct4_ok (by decide) hb) (ct4_sim (by decide) hb) fun n => by
      intro k e o1 o2 h h0 he
      obtain ⟨s1, s2, s3, s4⟩ := g_sim (rdLit_ok hb) (lit_sim hb) n.toNat k e o1 o2 h h0 he
      simp only [thn]
      rw [← s1, ← s2, ← s3]
      exact ⟨rfl, rfl, rfl, s4⟩
theorem lk_zero {R : Rul × Int × Int × Bool} (h : lkR R = 0) : R.2.2.1 = 0 ∧ R.2.2.2 = false := by
  unfold lkR at h
  split at h
  · cases h
  · rename_i hh
    refine ⟨h, ?_⟩
    cases ho : R.2.2.2 with
    | false => rfl
    | true => exact absurd ⟨h, .inl ho⟩ hh
/-- The program's reader begins each rule anew; the reference's goes on, and has met nothing odd. -/
theorem dc_sim {b : List UInt8} (hb : b.length ≤ 140737488355000) : ∀ n k e o1 o2, okR b k e → (e = 0 → 0 ≤ k ∧ k ≤ b.length) → (e = 0 → o2 = false) →
    (rdG (dcC b) n k e o1).1 = (rdG (dcR b) n k e o2).1 ∧ (rdG (dcC b) n k e o1).2.1 = (rdG (dcR b) n k e o2).2.1 ∧ (rdG (dcC b) n k e o1).2.2.1 = (rdG (dcR b) n k e o2).2.2.1
  | 0, k, e, o1, o2, _, _, _ => ⟨rfl, rfl, rfl⟩
  | n + 1, k, e, o1, o2, h, h0, he => by
    simp only [rdG]
    by_cases h1 : e = 0
    · rw [if_pos h1, if_pos h1, he h1]
      obtain ⟨s1, s2, s3, s4⟩ := rul_sim hb k e false false h h0 (fun _ => rfl)
      have hok := dcC_ok hb k e o1 h h0
      have hlk : lkR (rdRul (badC b) b k e false) = lkR (rdRul (oddR b) b k e false) := by
        unfold lkR
        rw [← s1, ← s3]
        by_cases hz : (rdRul (badC b) b k e false).2.2.1 = 0
        · rw [s4 hz]
        · rw [if_neg (fun hh => hz hh.1), if_neg (fun hh => hz hh.1)]
      simp only [dcC, dcR] at hok ⊢
      rw [← s1, ← s2, ← hlk]
      have hz : lkR (rdRul (badC b) b k e false) = 0 → (rdRul (oddR b) b k e false).2.2.2 = false := by
        intro hh
        rw [hlk] at hh
        exact (lk_zero hh).2
      have := dc_sim hb n (rdRul (badC b) b k e false).2.1 (lkR (rdRul (badC b) b k e false)) false _ hok.1 (fun x => by have := hok.2 x; omega) hz
      exact ⟨by rw [this.1], this.2.1, this.2.2⟩
    · rw [if_neg h1, if_neg h1]
      exact ⟨rfl, rfl, rfl⟩
theorem dec_same {b : List UInt8} (hb : b.length ≤ 140737488355000) : decE b (dec0 (dcC b) b) = decE b (dec0 (dcR b) b) := by
  have h0 := rdC_ok (b := b) (most := 768) (k := 0) (e := 0) (by omega) hb ⟨by omega, by omega⟩
  obtain ⟨s1, s2, s3⟩ := dc_sim hb (rdC b 768 0 0).1.toNat (rdC b 768 0 0).2.1 (rdC b 768 0 0).2.2 false false h0.1 (fun x => by have := h0.2.1 x; omega) (fun _ => rfl)
  unfold decE dec0
  rw [s1, s2, s3]
end Go.Proofs.Ytdbicadncccpoaa

set_option linter.unusedVariables false
set_option linter.unusedSimpArgs false
set_option maxRecDepth 100000
namespace Go.Proofs.Ytdbicadncccpoaa
open Go Go.ChangeShapes Go.WideShapes
theorem AC_tup2 {f : FuncId} {args : List AV} {sz n : Nat} {xs : List D} {e : D} {O : AV → Rs → Prop} (h : AC Try.prog noG f args [] O) (hO : ∀ v r', O v r' → v = .tup [.sl (.own 0) sz n xs, .d e]) : AC Try.prog noG f args [] (fun v r' => v = .tup [.d (.sl sz n xs), .d e] ∧ r' = []) :=
  AC.wk (h.mono (fun v r' hv => by rw [hO v r' hv]; exact wkv_tup ⟨WeakA.toD rfl, WeakA.refl _, trivial⟩)) rfl
theorem putF_dat (b : List UInt8) (f : Fct) (ho : okF f) (hf : f.l.length ≤ 140737488352000) (hb : b.length ≤ 140737488200000) : AC Try.prog noG 36 [.d (.sl 1 b.length (bD b)), .d (.agg (fctE f))] []
    (fun v r' => v = .tup [.d (.sl 1 (putFR b f).length (bD (putFR b f))), .d (.c (.int .i64 (chkE f)))] ∧ r' = []) := AC_tup2 (putF_ac b f ho hf hb) (by rintro v r' ⟨rfl, _⟩; rfl)
theorem rputF_dat (b : List UInt8) (f : Fct) (ho : okF f) (hf : f.l.length ≤ 140737488352000) (hb : b.length ≤ 140737488200000) : AC Try.prog noG 40 [.d (.sl 1 b.length (bD b)), .d (.agg (fctE f))] []
    (fun v r' => v = .tup [.d (.sl 1 (putFR b f).length (bD (putFR b f))), .d (.c (.int .i64 (chkE f)))] ∧ r' = []) := AC_tup2 (rputF_ac b f ho hf hb) (by rintro v r' ⟨rfl, _⟩; rfl)
theorem putFR_len {b : List UInt8} {f : Fct} (ho : okF f) : (putFR b f).length ≤ b.length + 2300 := by
  unfold putFR
  split
  · exact putF_le ho (by assumption)
  · omega
theorem rdF0_len {b : List UInt8} {k : Int} : (rdF0 b k).1.l.length ≤ 48 := by
  simp only [rdF0, thn, tx4, ct4]
  refine Nat.le_trans (rdG_len _ _ _ _) ?_
  exact Int.toNat_le.2 (rdC_most (by decide))
theorem rdF_len {b : List UInt8} {k : Int} : (rdF b k).1.l.length ≤ 48 := by
  unfold rdF
  split
  · split
    · exact rdF0_len
    · exact Nat.zero_le _
  · exact Nat.zero_le _
def fL : Fct := ⟨⟨#[97]⟩, ⟨#[97]⟩, ⟨#[112]⟩, [⟨true, 1, ⟨#[]⟩⟩]⟩
theorem fL_put : putFR [] fL = [2, 97, 2, 97, 2, 112, 2, 0, 2] := by decide +kernel
theorem fL_chk : chkE fL = 0 := by decide +kernel
theorem d00 : decE [0, 0] (dec0 (dcC [0, 0]) [0, 0]) = ([], 11) := by decide +kernel
theorem e0 : encR [] = ([0], 0) := by decide +kernel
end Go.Proofs.Ytdbicadncccpoaa
