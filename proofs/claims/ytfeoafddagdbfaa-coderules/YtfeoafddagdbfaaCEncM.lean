import Derived.Test.YtfeoafddagdbfaaCRgtR
import Derived.Test.YtfeoafddagdbfaaCPutF
set_option linter.unusedVariables false
set_option linter.unusedSimpArgs false
set_option maxRecDepth 100000
namespace Go.Proofs.Ytfeoafddagdbfaa
open Go Go.ChangeShapes Go.WideShapes
def putLt (b : List UInt8) (x : Lit) : List UInt8 := putT (putTs (putTx (putT b x.b) x.p) x.l) x.a
def putRH (b : List UInt8) (r : Rul) : List UInt8 := putT (putTs (putTx (putT b r.h) r.p) r.l) r.t ++ leb (zig (r.b.length : Int))
def putR (b : List UInt8) (r : Rul) : List UInt8 := r.b.foldl putLt (putRH b r)
def okTs (l : List Trm) : Prop := ∀ t ∈ l, okC t.c
def okI (x : Lit) : Prop := okC x.b.c ∧ okTs x.l ∧ okC x.a.c
def okRl (r : Rul) : Prop := okC r.h.c ∧ okTs r.l ∧ okC r.t.c ∧ ∀ x ∈ r.b, okI x
theorem okC_zC : okC zC := ⟨by decide, by decide⟩
theorem rightT_ok {t : Trm} (h : rightT t = true) (hc : okC t.c) : okT t := by
  obtain ⟨v, c⟩ := t
  simp only [rightT] at h
  refine ⟨hc, ?_⟩
  simp only at hc ⊢
  by_cases hv : v = ⟨#[]⟩
  · rw [if_pos hv] at h
    have hv0 : v.size = 0 := by rw [hv]; rfl
    by_cases hz : c = zC
    · have : c.s.size = 0 := by rw [hz]; rfl
      omega
    · rw [decide_eq_false hz, Bool.false_or] at h
      have := good_size h
      omega
  · rw [if_neg hv, Bool.and_eq_true, decide_eq_true_eq] at h
    have h1 := txt_size h.1
    have : c.s.size = 0 := by rw [h.2]; rfl
    omega
theorem rightL_ok {l : List Trm} (h : rightL l = true) (hc : okTs l) : l.length ≤ 48 ∧ ∀ t ∈ l, okT t := by
  simp only [rightL, Bool.and_eq_true, decide_eq_true_eq, List.all_eq_true] at h
  exact ⟨h.1, fun t ht => rightT_ok (h.2 t ht) (hc t ht)⟩
theorem rightI_iff {x : Lit} (h : rightI x = true) (hc : okI x) : okT x.b ∧ okT x.a ∧ (1 ≤ x.p.size ∧ x.p.size ≤ 32) ∧ x.l.length ≤ 48 ∧ ∀ t ∈ x.l, okT t := by
  simp only [rightI, Bool.and_eq_true] at h
  have hl := rightL_ok h.2.2.2 hc.2.1
  exact ⟨rightT_ok h.1 hc.1, rightT_ok h.2.1 hc.2.2, txt_size h.2.2.1, hl.1, hl.2⟩
theorem rightR_iff {r : Rul} (h : rightR r = true) (hc : okRl r) : okT r.h ∧ okT r.t ∧ (1 ≤ r.p.size ∧ r.p.size ≤ 32) ∧ (r.l.length ≤ 48 ∧ ∀ t ∈ r.l, okT t) ∧ r.b.length ≤ 5 ∧ ∀ x ∈ r.b, rightI x = true ∧ okI x := by
  simp only [rightR, Bool.and_eq_true, decide_eq_true_eq, List.all_eq_true] at h
  exact ⟨rightT_ok h.1 hc.1, rightT_ok h.2.1 hc.2.2.1, txt_size h.2.2.1, rightL_ok h.2.2.2.1 hc.2.1, h.2.2.2.2.1, fun x hx => ⟨h.2.2.2.2.2 x hx, hc.2.2.2 x hx⟩⟩
theorem put4_le {b : List UInt8} {t1 t2 : Trm} {p : ByteArray} {l : List Trm} (h1 : okT t1) (h2 : okT t2) (hp : p.size ≤ 32) (hl : l.length ≤ 48) (ht : ∀ t ∈ l, okT t) :
    (putT b t1).length ≤ b.length + 76 ∧ (putTx (putT b t1) p).length ≤ b.length + 118 ∧ (putTs (putTx (putT b t1) p) l).length ≤ b.length + 3776 ∧ (putT (putTs (putTx (putT b t1) p) l) t2).length ≤ b.length + 3852 := by
  have g1 := putT_le (b := b) h1
  have g2 := putTx_bd (putT b t1) (s := p) (by omega)
  have g3 := putTs_le (b := putTx (putT b t1) p) ht (by omega)
  have g4 := putT_le (b := putTs (putTx (putT b t1) p) l) h2
  omega
theorem putLt_le {b : List UInt8} {x : Lit} (h : rightI x = true) (hc : okI x) : (putLt b x).length ≤ b.length + 3852 := by
  obtain ⟨h1, h2, h3, h4, h5⟩ := rightI_iff h hc
  exact (put4_le h1 h2 h3.2 h4 h5).2.2.2
theorem foldI_le : ∀ (l : List Lit) (b : List UInt8), (∀ x ∈ l, rightI x = true ∧ okI x) → (l.foldl putLt b).length ≤ b.length + 3852 * l.length
  | [], b, _ => by simp
  | t :: l, b, h => by
    have h1 := putLt_le (b := b) (h t (by simp)).1 (h t (by simp)).2
    have h2 := foldI_le l (putLt b t) (fun x hx => h x (by simp [hx]))
    rw [List.foldl_cons, List.length_cons]; omega
theorem putRH_le {b : List UInt8} {r : Rul} (h : rightR r = true) (hc : okRl r) : (putRH b r).length ≤ b.length + 3862 := by
  obtain ⟨h1, h2, h3, h4, h5, _⟩ := rightR_iff h hc
  have g := (put4_le (b := b) h1 h2 h3.2 h4.1 h4.2).2.2.2
  have := leb_nat (n := r.b.length) (by omega)
  rw [putRH, List.length_append]; omega
theorem putR_le {b : List UInt8} {r : Rul} (h : rightR r = true) (hc : okRl r) : (putR b r).length ≤ b.length + 23200 := by
  have g1 := putRH_le (b := b) h hc
  obtain ⟨_, _, _, _, h5, h6⟩ := rightR_iff h hc
  have g2 := foldI_le r.b (putRH b r) h6
  unfold putR; omega
theorem foldR_le : ∀ (l : List Rul) (b : List UInt8), (∀ x ∈ l, rightR x = true ∧ okRl x) → (l.foldl putR b).length ≤ b.length + 23200 * l.length
  | [], b, _ => by simp
  | t :: l, b, h => by
    have h1 := putR_le (b := b) (h t (by simp)).1 (h t (by simp)).2
    have h2 := foldR_le l (putR b t) (fun x hx => h x (by simp [hx]))
    rw [List.foldl_cons, List.length_cons]; omega
def encR (l : List Rul) : List UInt8 × Int := if 768 < l.length then ([], 3) else if l.all rightR then (l.foldl putR (leb (zig (l.length : Int))), 0) else ([], 50)
def enV (t : List UInt8 × Int) : AV := .tup [.d (.sl 1 t.1.length (bD t.1)), .d (.c (.int .i64 t.2))]
end Go.Proofs.Ytfeoafddagdbfaa
