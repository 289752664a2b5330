import Derived.Test.YtfeoafddagdbfaaCDec
set_option linter.unusedVariables false
set_option linter.unusedSimpArgs false
set_option maxRecDepth 100000
namespace Go.Proofs.Ytfeoafddagdbfaa
open Go Go.ChangeShapes Go.WideShapes
/-- Two readers that differ in what they think of odd terms, and agree where no error is met. -/
def Sim {α : Type} (b : List UInt8) (f g : Int → Int → Bool → α × Int × Int × Bool) : Prop := ∀ k e o1 o2, okR b k e → (e = 0 → 0 ≤ k ∧ k ≤ b.length) → (e = 0 → o1 = o2) →
  (f k e o1).1 = (g k e o2).1 ∧ (f k e o1).2.1 = (g k e o2).2.1 ∧ (f k e o1).2.2.1 = (g k e o2).2.2.1 ∧ ((f k e o1).2.2.1 = 0 → (f k e o1).2.2.2 = (g k e o2).2.2.2)
theorem thn_sim {α γ : Type} {b : List UInt8} {f g : Int → Int → Bool → α × Int × Int × Bool} {F F' : α → Int → Int → Bool → γ × Int × Int × Bool} (ho : okOne b f) (h : Sim b f g) (H : ∀ a, Sim b (F a) (F' a)) : Sim b (fun k e o => thn (f k e o) F) (fun k e o => thn (g k e o) F') := by
  intro k e o1 o2 hk h0 he
  obtain ⟨h1, h2, h3, h4⟩ := h k e o1 o2 hk h0 he
  have hok := ho k e o1 hk h0
  have := H (f k e o1).1 (f k e o1).2.1 (f k e o1).2.2.1 (f k e o1).2.2.2 (g k e o2).2.2.2 hok.1 (fun h => by have := hok.2 h; omega) h4
  simp only [thn]
  rw [← h1, ← h2, ← h3]
  exact this
theorem sim_end {α : Type} {b : List UInt8} (a : α) : Sim b (fun k e o => (a, k, e, o)) (fun k e o => (a, k, e, o)) := fun k e o1 o2 _ _ he => ⟨rfl, rfl, rfl, he⟩
theorem one_sim {b : List UInt8} (hb : b.length ≤ 140737488355000) : Sim b (rdOne (badC b) b) (rdOne (oddR b) b) := by
  intro k e o1 o2 h h0 he
  refine ⟨rfl, rfl, rfl, fun hh => ?_⟩
  have hh : (rdTm b k e).2.2 = 0 := hh
  have h1 := (rdTm_ok hb h (fun x => (h0 x).1)).2 hh
  have h2 := odd_bad hb h (fun x => (h0 x).1) hh
  show (o1 || badC b k e) = (o2 || oddR b k e)
  rw [he h1.1, h2]
theorem tx4_sim {b : List UInt8} (hb : b.length ≤ 140737488355000) : Sim b (tx4 b) (tx4 b) := fun k e o1 o2 h h0 he => ⟨rfl, rfl, rfl, fun hh => he ((tx4_ok hb k e o1 h h0).2 hh).1⟩
theorem ct4_sim {b : List UInt8} {m : Int} (hm : 0 ≤ m) (hb : b.length ≤ 140737488355000) : Sim b (ct4 b m) (ct4 b m) := fun k e o1 o2 h h0 he => ⟨rfl, rfl, rfl, fun hh => he ((ct4_ok hm hb k e o1 h h0).2 hh).1⟩
theorem many_sim {b : List UInt8} (hb : b.length ≤ 140737488355000) : ∀ n, Sim b (rdMany (badC b) b n) (rdMany (oddR b) b n)
  | 0 => fun k e o1 o2 _ _ he => ⟨rfl, rfl, rfl, he⟩
  | n + 1 => by
    intro k e o1 o2 h h0 he
    simp only [rdMany]
    by_cases h1 : e = 0
    · rw [if_pos h1, if_pos h1]
      have hs := one_sim hb k e o1 o2 h h0 he
      have hok := rdTm_ok hb h (fun x => (h0 x).1)
      have := many_sim hb n (rdTm b k e).2.1 (rdTm b k e).2.2 (o1 || badC b k e) (o2 || oddR b k e) hok.1 (fun x => by have := hok.2 x; omega) hs.2.2.2
      exact ⟨by simp only; rw [this.1], this.2⟩
    · rw [if_neg h1, if_neg h1]
      exact ⟨rfl, rfl, rfl, fun hh => absurd hh h1⟩
theorem tms_sim {b : List UInt8} (hb : b.length ≤ 140737488355000) : Sim b (rdTms (badC b) b) (rdTms (oddR b) b) := by
  intro k e o1 o2 h h0 he
  have h1 := rdC_ok (most := 48) (by omega) hb h
  exact many_sim hb _ _ _ _ _ h1.1 (fun x => by have := h1.2.1 x; omega) (fun x => he (h1.2.1 x).1)
theorem g_sim {α : Type} {b : List UInt8} {f g : Int → Int → Bool → α × Int × Int × Bool} (ho : okOne b f) (H : Sim b f g) : ∀ n, Sim b (rdG f n) (rdG g n)
  | 0 => fun k e o1 o2 _ _ he => ⟨rfl, rfl, rfl, he⟩
  | n + 1 => by
    intro k e o1 o2 h h0 he
    simp only [rdG]
    by_cases h1 : e = 0
    · rw [if_pos h1, if_pos h1]
      obtain ⟨s1, s2, s3, s4⟩ := H k e o1 o2 h h0 he
      have hok := ho k e o1 h h0
      have := g_sim ho H n (f k e o1).2.1 (f k e o1).2.2.1 (f k e o1).2.2.2 (g k e o2).2.2.2 hok.1 (fun x => by have := hok.2 x; omega) s4
      rw [← s1, ← s2, ← s3]
      exact ⟨by simp only; rw [this.1], this.2⟩
    · rw [if_neg h1, if_neg h1]
      exact ⟨rfl, rfl, rfl, fun hh => absurd hh h1⟩
theorem lit_sim {b : List UInt8} (hb : b.length ≤ 140737488355000) : Sim b (rdLit (badC b) b) (rdLit (oddR b) b) :=
  thn_sim (rdOne_ok hb) (one_sim hb) fun _ => thn_sim (tx4_ok hb) (tx4_sim hb) fun _ => thn_sim (rdTms_ok' hb) (tms_sim hb) fun _ => thn_sim (rdOne_ok hb) (one_sim hb) fun _ => sim_end _
theorem rul_sim {b : List UInt8} (hb : b.length ≤ 140737488355000) : Sim b (rdRul (badC b) b) (rdRul (oddR b) b) :=
  thn_sim (rdOne_ok hb) (one_sim hb) fun _ => thn_sim (tx4_ok hb) (tx4_sim hb) fun _ => thn_sim (rdTms_ok' hb) (tms_sim hb) fun _ => thn_sim (rdOne_ok hb) (one_sim hb) fun _ =>
    thn_sim (ct4_ok (by decide) hb) (ct4_sim (by decide) hb) fun n => by
      intro k e o1 o2 h h0 he
      obtain ⟨s1, s2, s3, s4⟩ := g_sim (rdLit_ok hb) (lit_sim hb) n.toNat k e o1 o2 h h0 he
      simp only [thn]
      rw [← s1, ← s2, ← s3]
      exact ⟨rfl, rfl, rfl, s4⟩
theorem lk_zero {R : Rul × Int × Int × Bool} (h : lkR R = 0) : R.2.2.1 = 0 ∧ R.2.2.2 = false := by
  unfold lkR at h
  split at h
  · cases h
  · rename_i hh
    refine ⟨h, ?_⟩
    cases ho : R.2.2.2 with
    | false => rfl
    | true => exact absurd ⟨h, .inl ho⟩ hh
/-- The program's reader begins each rule anew; the reference's goes on, and has met nothing odd. -/
theorem dc_sim {b : List UInt8} (hb : b.length ≤ 140737488355000) : ∀ n k e o1 o2, okR b k e → (e = 0 → 0 ≤ k ∧ k ≤ b.length) → (e = 0 → o2 = false) →
    (rdG (dcC b) n k e o1).1 = (rdG (dcR b) n k e o2).1 ∧ (rdG (dcC b) n k e o1).2.1 = (rdG (dcR b) n k e o2).2.1 ∧ (rdG (dcC b) n k e o1).2.2.1 = (rdG (dcR b) n k e o2).2.2.1
  | 0, k, e, o1, o2, _, _, _ => ⟨rfl, rfl, rfl⟩
  | n + 1, k, e, o1, o2, h, h0, he => by
    simp only [rdG]
    by_cases h1 : e = 0
    · rw [if_pos h1, if_pos h1, he h1]
      obtain ⟨s1, s2, s3, s4⟩ := rul_sim hb k e false false h h0 (fun _ => rfl)
      have hok := dcC_ok hb k e o1 h h0
      have hlk : lkR (rdRul (badC b) b k e false) = lkR (rdRul (oddR b) b k e false) := by
        unfold lkR
        rw [← s1, ← s3]
        by_cases hz : (rdRul (badC b) b k e false).2.2.1 = 0
        · rw [s4 hz]
        · rw [if_neg (fun hh => hz hh.1), if_neg (fun hh => hz hh.1)]
      simp only [dcC, dcR] at hok ⊢
      rw [← s1, ← s2, ← hlk]
      have hz : lkR (rdRul (badC b) b k e false) = 0 → (rdRul (oddR b) b k e false).2.2.2 = false := by
        intro hh
        rw [hlk] at hh
        exact (lk_zero hh).2
      have := dc_sim hb n (rdRul (badC b) b k e false).2.1 (lkR (rdRul (badC b) b k e false)) false _ hok.1 (fun x => by have := hok.2 x; omega) hz
      exact ⟨by rw [this.1], this.2.1, this.2.2⟩
    · rw [if_neg h1, if_neg h1]
      exact ⟨rfl, rfl, rfl⟩
theorem dec_same {b : List UInt8} (hb : b.length ≤ 140737488355000) : decE b (dec0 (dcC b) b) = decE b (dec0 (dcR b) b) := by
  have h0 := rdC_ok (b := b) (most := 768) (k := 0) (e := 0) (by omega) hb ⟨by omega, by omega⟩
  obtain ⟨s1, s2, s3⟩ := dc_sim hb (rdC b 768 0 0).1.toNat (rdC b 768 0 0).2.1 (rdC b 768 0 0).2.2 false false h0.1 (fun x => by have := h0.2.1 x; omega) (fun _ => rfl)
  unfold decE dec0
  rw [s1, s2, s3]
end Go.Proofs.Ytfeoafddagdbfaa
