/- Parts of the proof: OrdT, TrailD, TFind, LayR, Dig. -/
import Derived.Test.YthdjblfiiogmgaaCJ0
import Derived.Test.YthdjblfiiogmgaaCJ1
set_option linter.unusedVariables false
set_option linter.unusedSimpArgs false
set_option maxRecDepth 100000
namespace Go.Proofs.Ythdjblfiiogmgaa
open Go Go.ChangeShapes Go.WideShapes
/-! The order of facts is one: plain, with no program in sight. -/
structure IsCmp {α : Type} (c : α → α → Int) : Prop where
  zero : ∀ a b, c a b = 0 ↔ a = b
  anti : ∀ a b, c a b < 0 ↔ 0 < c b a
  trans : ∀ a b d, c a b < 0 → c b d < 0 → c a d < 0
theorem less_trans : ∀ a b d : List UInt8, Op.bytesLess a b = true → Op.bytesLess b d = true → Op.bytesLess a d = true
  | [], _ :: _, _ :: _, _, _ => rfl
  | [], _ :: _, [], _, h => by simp [Op.bytesLess] at h
  | x :: a, [], _, h, _ => by simp [Op.bytesLess] at h
  | x :: a, y :: b, [], _, h => by simp [Op.bytesLess] at h
  | x :: a, y :: b, z :: d, h1, h2 => by
    simp only [Op.bytesLess, Bool.or_eq_true, Bool.and_eq_true, decide_eq_true_eq, beq_iff_eq] at h1 h2 ⊢
    rcases h1 with h1 | ⟨rfl, h1⟩
    · rcases h2 with h2 | ⟨rfl, h2⟩
      · exact .inl (Nat.lt_trans h1 h2)
      · exact .inl h1
    · rcases h2 with h2 | ⟨rfl, h2⟩
      · exact .inl h2
      · exact .inr ⟨rfl, less_trans a b d h1 h2⟩
  | [], [], _, h, _ => by simp [Op.bytesLess] at h
theorem less_tri : ∀ a b : List UInt8, a ≠ b → Op.bytesLess a b = false → Op.bytesLess b a = true
  | [], [], h, _ => absurd rfl h
  | [], _ :: _, _, h => by simp [Op.bytesLess] at h
  | _ :: _, [], _, _ => rfl
  | x :: a, y :: b, hn, h => by
    simp only [Op.bytesLess, Bool.or_eq_false_iff, Bool.and_eq_false_iff, decide_eq_false_iff_not, beq_eq_false_iff_ne, Bool.or_eq_true, Bool.and_eq_true, decide_eq_true_eq, beq_iff_eq] at h ⊢
    by_cases hxy : x = y
    · subst hxy
      refine .inr ⟨rfl, less_tri a b (fun hab => hn (by rw [hab])) ?_⟩
      rcases h.2 with h2 | h2
      · exact absurd rfl h2
      · exact h2
    · refine .inl ?_
      have h1 := h.1
      have : x.toNat ≠ y.toNat := fun he => hxy (UInt8.toNat_inj.1 he)
      have h1' : ¬ x.toNat < y.toNat := h1
      show y.toNat < x.toNat
      omega
theorem less_asym (a b : List UInt8) (h : Op.bytesLess a b = true) : Op.bytesLess b a = false := by
  cases hb : Op.bytesLess b a with
  | false => rfl
  | true => have := less_trans a b a h hb; rw [less_irr] at this; cases this
theorem ba_ext {a b : ByteArray} (h : a.toList = b.toList) : a = b := by
  apply ByteArray.ext
  rw [Go.ByteArray.toList_eq, Go.ByteArray.toList_eq] at h
  exact Array.toList_inj.1 h
theorem txC_lt {a b : ByteArray} : txC a b < 0 ↔ Op.bytesLess a.toList b.toList = true := by
  unfold txC
  split
  · rename_i h; simp [h]
  · rename_i h; split <;> simp_all
theorem txC_gt {a b : ByteArray} : 0 < txC a b ↔ Op.bytesLess b.toList a.toList = true := by
  constructor
  · intro h
    unfold txC at h
    split at h
    · simp at h
    · split at h
      · simp at h
      · rename_i h1 h2
        exact less_tri _ _ (fun he => h2 (ba_ext he)) (by simpa using h1)
  · intro h
    have h1 := less_asym _ _ h
    have h2 : a ≠ b := by rintro rfl; rw [less_irr] at h; cases h
    unfold txC
    rw [h1, if_neg (by decide), if_neg h2]; decide
theorem isTx : IsCmp txC := ⟨fun _ _ => txC_zero, fun a b => by rw [txC_lt, txC_gt], fun a b d h1 h2 => by rw [txC_lt] at *; exact less_trans _ _ _ h1 h2⟩
theorem isI : IsCmp cmpI := ⟨fun _ _ => cmpI_zero, fun a b => by unfold cmpI; split <;> split <;> (try split) <;> omega, fun a b d h1 h2 => by
  have e1 : a < b := by
    unfold cmpI at h1; split at h1
    · assumption
    · split at h1 <;> omega
  have e2 : b < d := by
    unfold cmpI at h2; split at h2
    · assumption
    · split at h2 <;> omega
  unfold cmpI; rw [if_pos (by omega)]; decide⟩
/-- One first, then the other. -/
def lexC {α β : Type} (c : α → α → Int) (d : β → β → Int) (x y : α × β) : Int := if c x.1 y.1 = 0 then d x.2 y.2 else c x.1 y.1
theorem IsCmp.lex {α β : Type} {c : α → α → Int} {d : β → β → Int} (hc : IsCmp c) (hd : IsCmp d) : IsCmp (lexC c d) := by
  refine ⟨fun ⟨a, b⟩ ⟨a', b'⟩ => ?_, fun ⟨a, b⟩ ⟨a', b'⟩ => ?_, fun ⟨a, b⟩ ⟨a', b'⟩ ⟨a'', b''⟩ h1 h2 => ?_⟩
  · simp only [lexC, Prod.mk.injEq]
    split
    · rename_i h; rw [hd.zero]; simp [(hc.zero _ _).1 h]
    · rename_i h
      constructor
      · intro h2; exact absurd h2 h
      · intro h2; exact absurd ((hc.zero _ _).2 h2.1) h
  · simp only [lexC]
    by_cases h : a = a'
    · subst h
      rw [if_pos ((hc.zero a a).2 rfl), if_pos ((hc.zero a a).2 rfl)]; exact hd.anti _ _
    · rw [if_neg (fun h2 => h ((hc.zero _ _).1 h2)), if_neg (fun h2 => h ((hc.zero _ _).1 h2).symm)]; exact hc.anti _ _
  · simp only [lexC] at h1 h2 ⊢
    by_cases h : a = a'
    · subst h
      rw [if_pos ((hc.zero a a).2 rfl)] at h1
      split at h2
      · rename_i h3; rw [if_pos h3]; exact hd.trans _ _ _ h1 h2
      · rename_i h3; rw [if_neg h3]; exact h2
    · rw [if_neg (fun h2 => h ((hc.zero _ _).1 h2))] at h1
      by_cases h' : a' = a''
      · subst h'
        rw [if_neg (by omega)]; exact h1
      · rw [if_neg (fun h2 => h' ((hc.zero _ _).1 h2))] at h2
        have := hc.trans _ _ _ h1 h2
        rw [if_neg (by omega)]; exact this
theorem IsCmp.map {α β : Type} {c : α → α → Int} (hc : IsCmp c) (f : β → α) (hf : ∀ x y, f x = f y → x = y) : IsCmp (fun x y => c (f x) (f y)) :=
  ⟨fun a b => (hc.zero _ _).trans ⟨hf a b, fun h => by rw [h]⟩, fun a b => hc.anti _ _, fun a b d => hc.trans _ _ _⟩
def boC (a b : Bool) : Int := if a = b then 0 else if a then -1 else 1
theorem isBo : IsCmp boC := ⟨by decide, by decide, by decide⟩
theorem cst_lex (a b : Cst) : cstC a b = lexC boC (lexC cmpI txC) (a.num, a.n, a.s) (b.num, b.n, b.s) := by
  simp only [cstC, lexC, boC]
  by_cases h : a.num = b.num
  · rw [if_pos h, if_pos h, if_pos rfl]
  · rw [if_neg h, if_neg h]
    cases a.num <;> simp
theorem isCst : IsCmp cstC := by
  have := (isBo.lex (isI.lex isTx)).map (fun c : Cst => (c.num, c.n, c.s)) (by rintro ⟨a, b, c⟩ ⟨a', b', c'⟩ h; simpa using h)
  have e : cstC = fun x y => lexC boC (lexC cmpI txC) (x.num, x.n, x.s) (y.num, y.n, y.s) := by funext a b; exact cst_lex a b
  rw [e]; exact this
theorem isArg : IsCmp argC := by
  refine ⟨fun _ _ => argC_zero, fun a => ?_, fun a => ?_⟩
  · induction a with
    | nil => intro b; cases b <;> simp [argC]
    | cons x a ih =>
      intro b
      cases b with
      | nil => simp [argC]
      | cons y b =>
        simp only [argC]
        by_cases h : x = y
        · subst h; rw [if_pos (cstC_zero.2 rfl), if_pos (cstC_zero.2 rfl)]; exact ih b
        · rw [if_neg (fun h2 => h (cstC_zero.1 h2)), if_neg (fun h2 => h (cstC_zero.1 h2).symm)]; exact isCst.anti _ _
  · induction a with
    | nil =>
      intro b d h1 h2
      cases b with
      | nil => simp [argC] at h1
      | cons y b => cases d with
        | nil => simp [argC] at h2
        | cons z d => simp [argC]
    | cons x a ih =>
      intro b d h1 h2
      cases b with
      | nil => simp [argC] at h1
      | cons y b => cases d with
        | nil => simp [argC] at h2
        | cons z d =>
          simp only [argC] at h1 h2 ⊢
          by_cases h : x = y
          · subst h
            rw [if_pos (cstC_zero.2 rfl)] at h1
            split at h2
            · rename_i h3; rw [if_pos h3]; exact ih b d h1 h2
            · rename_i h3; rw [if_neg h3]; exact h2
          · rw [if_neg (fun h2 => h (cstC_zero.1 h2))] at h1
            by_cases h' : y = z
            · subst h'
              rw [if_neg (by omega)]; exact h1
            · rw [if_neg (fun h2 => h' (cstC_zero.1 h2))] at h2
              have := isCst.trans _ _ _ h1 h2
              rw [if_neg (by omega)]; exact this
theorem ord_lex (f g : Fct) : ordC f g = lexC txC (lexC txC (lexC txC argC)) (f.a, f.b, f.p, f.l) (g.a, g.b, g.p, g.l) := by
  simp only [ordC, lexC]
  by_cases h1 : f.a = g.a
  · rw [if_pos h1, if_pos (txC_zero.2 h1)]
    by_cases h2 : f.b = g.b
    · rw [if_pos h2, if_pos (txC_zero.2 h2)]
      by_cases h3 : f.p = g.p
      · rw [if_pos h3, if_pos (txC_zero.2 h3)]
      · rw [if_neg h3, if_neg (fun h => h3 (txC_zero.1 h))]
    · rw [if_neg h2, if_neg (fun h => h2 (txC_zero.1 h))]
  · rw [if_neg h1, if_neg (fun h => h1 (txC_zero.1 h))]
theorem isOrd : IsCmp ordC := by
  have := (isTx.lex (isTx.lex (isTx.lex isArg))).map (fun f : Fct => (f.a, f.b, f.p, f.l)) (by rintro ⟨a, b, c, d⟩ ⟨a', b', c', d'⟩ h; simpa using h)
  have e : ordC = fun x y => lexC txC (lexC txC (lexC txC argC)) (x.a, x.b, x.p, x.l) (y.a, y.b, y.p, y.l) := by funext a b; exact ord_lex a b
  rw [e]; exact this
end Go.Proofs.Ythdjblfiiogmgaa

set_option linter.unusedVariables false
set_option linter.unusedSimpArgs false
set_option maxRecDepth 100000
namespace Go.Proofs.Ythdjblfiiogmgaa
open Go Go.ChangeShapes Go.WideShapes
/-! A trail, with no program in sight: its entries, and their numbers by their facts. -/
structure Ntr where
  f : Fct
  why : Int
  rule : Int
  body : List Fct
  tg : List UInt8
deriving DecidableEq
def entE (x : Ntr) : List D := fctE x.f ++ ([.c (.int .i64 x.why), .c (.int .i64 x.rule), .sl 4 x.body.length (flatE fctE x.body)] ++ bD x.tg)
def zE : Ntr := ⟨zF0, 0, 0, [], List.replicate 32 0⟩
where
  zF0 : Fct := ⟨⟨#[]⟩, ⟨#[]⟩, ⟨#[]⟩, []⟩
def fa (L : List Ntr) (k : Nat) : Fct := (L.getD k zE).f
def ltF (L : List Ntr) (f : Fct) (k : Nat) : Bool := decide (ordC (fa L k) f < 0)
def posT (L : List Ntr) (O : List Nat) (f : Fct) : Nat := (O.takeWhile (ltF L f)).length
def hasT (L : List Ntr) (f : Fct) : Bool := L.any fun x => decide (x.f = f)
structure TInv (L : List Ntr) (O : List Nat) : Prop where
  len : O.length = L.length
  lt : ∀ k ∈ O, k < L.length
  all : ∀ k, k < L.length → k ∈ O
  srt : O.Pairwise fun a b => ordC (fa L a) (fa L b) < 0
theorem TInv.nil : TInv [] [] := ⟨rfl, by simp, by simp, .nil⟩
theorem posT_le (L : List Ntr) (O : List Nat) (f : Fct) : posT L O f ≤ O.length := by
  unfold posT
  have := congrArg List.length (List.takeWhile_append_dropWhile (p := ltF L f) (l := O))
  rw [List.length_append] at this; omega
theorem posT_lt (L : List Ntr) (O : List Nat) (f : Fct) (k : Nat) (h : k < O.length) (hk : k < posT L O f) : ordC (fa L O[k]) f < 0 := by
  have h1 := List.takeWhile_append_dropWhile (p := ltF L f) (l := O)
  have h2 : O[k] = (O.takeWhile (ltF L f))[k]'hk := by
    have : O[k]? = (O.takeWhile (ltF L f))[k]? := by
      conv => lhs; rw [← h1]
      rw [List.getElem?_append_left hk]
    rw [List.getElem?_eq_getElem h, List.getElem?_eq_getElem hk] at this
    exact Option.some.inj this
  have h3 : ∀ (l : List Nat), ∀ y ∈ l.takeWhile (ltF L f), ltF L f y = true := by
    intro l
    induction l with
    | nil => simp
    | cons a l ih =>
      intro y hy
      rw [List.takeWhile_cons] at hy
      split at hy
      · rcases List.mem_cons.1 hy with rfl | hy
        · assumption
        · exact ih y hy
      · simp at hy
  have := h3 O _ (h2 ▸ List.getElem_mem hk)
  simpa [ltF] using this
theorem posT_at (L : List Ntr) (O : List Nat) (f : Fct) (h : posT L O f < O.length) : 0 ≤ ordC (fa L (O[posT L O f])) f := by
  have key : ∀ (l : List Nat) (h : (l.takeWhile (ltF L f)).length < l.length), ltF L f (l[(l.takeWhile (ltF L f)).length]) = false := by
    intro l
    induction l with
    | nil => intro h; simp at h
    | cons a l ih =>
      intro h
      cases ha : ltF L f a with
      | true =>
        have e : (a :: l).takeWhile (ltF L f) = a :: l.takeWhile (ltF L f) := by rw [List.takeWhile_cons, ha]; rfl
        simp only [e, List.length_cons, List.getElem_cons_succ]
        exact ih (by rw [e] at h; simpa using h)
      | false =>
        have e : (a :: l).takeWhile (ltF L f) = [] := by rw [List.takeWhile_cons, ha]; rfl
        simp only [e, List.length_nil, List.getElem_cons_zero]
        exact ha
  have := key O h
  simp only [ltF, decide_eq_false_iff_not] at this
  exact Int.not_lt.1 this
theorem TInv.ge {L : List Ntr} {O : List Nat} (hI : TInv L O) (f : Fct) (k : Nat) (h : k < O.length) (hk : posT L O f ≤ k) : 0 ≤ ordC (fa L O[k]) f := by
  have h0 := posT_at L O f (by omega)
  rcases Nat.lt_or_eq_of_le hk with hlt | heq
  · have hp := List.pairwise_iff_getElem.1 hI.srt (posT L O f) k (by omega) h hlt
    rcases Int.lt_or_le (ordC (fa L O[k]) f) 0 with hn | hn
    · have := isOrd.trans _ _ _ hp hn
      omega
    · exact hn
  · subst heq; exact h0
theorem fa_get {L : List Ntr} {k : Nat} (h : k < L.length) : fa L k = L[k].f := by
  rw [fa, List.getD_eq_getElem?_getD, List.getElem?_eq_getElem h]; rfl
theorem hasT_iff {L : List Ntr} {f : Fct} : hasT L f = true ↔ ∃ k, ∃ h : k < L.length, L[k].f = f := by
  simp only [hasT, List.any_eq_true, decide_eq_true_eq]
  constructor
  · rintro ⟨x, hx, h⟩
    obtain ⟨k, hk, rfl⟩ := List.mem_iff_getElem.1 hx
    exact ⟨k, hk, h⟩
  · rintro ⟨k, hk, h⟩
    exact ⟨_, List.getElem_mem hk, h⟩
theorem TInv.found {L : List Ntr} {O : List Nat} (hI : TInv L O) (f : Fct) : hasT L f = decide (∃ h : posT L O f < O.length, ordC (fa L (O[posT L O f])) f = 0) := by
  rw [Bool.eq_iff_iff, decide_eq_true_eq, hasT_iff]
  constructor
  · rintro ⟨k, hk, hf⟩
    obtain ⟨i, hi, hik⟩ := List.mem_iff_getElem.1 (hI.all k hk)
    have h0 : ordC (fa L O[i]) f = 0 := by rw [hik, fa_get hk]; exact (isOrd.zero _ _).2 hf
    rcases Nat.lt_trichotomy i (posT L O f) with h | h | h
    · have := posT_lt L O f i hi h; omega
    · subst h; exact ⟨hi, h0⟩
    · have hp : posT L O f < O.length := by omega
      have h1 := List.pairwise_iff_getElem.1 hI.srt (posT L O f) i hp hi h
      have h2 : fa L O[i] = f := (isOrd.zero _ _).1 h0
      rw [h2] at h1
      have := posT_at L O f hp
      omega
  · rintro ⟨h, h0⟩
    have hk := hI.lt _ (List.getElem_mem h)
    exact ⟨_, hk, by rw [← fa_get hk]; exact (isOrd.zero _ _).1 h0⟩
/-- The number of a fact's entry. -/
def plc : List Ntr → Fct → Int
  | [], _ => -1
  | x :: l, f => if x.f = f then 0 else if plc l f < 0 then -1 else plc l f + 1
theorem plc_at {L : List Ntr} {f : Fct} {k : Nat} (h : k < L.length) (hf : L[k].f = f) (hu : ∀ i (hi : i < L.length), L[i].f = f → i = k) : plc L f = k := by
  induction L generalizing k with
  | nil => simp at h
  | cons x l ih =>
    cases k with
    | zero => simp at hf; rw [plc, if_pos hf]; rfl
    | succ k =>
      have h0 : ¬ x.f = f := fun hx => by have := hu 0 (by simp) (by simpa using hx); omega
      have := ih (k := k) (by simpa using h) (by simpa using hf) (fun i hi h1 => by have := hu (i + 1) (by simpa using hi) (by simpa using h1); omega)
      rw [plc, if_neg h0, this, if_neg (by omega)]; rfl
theorem TInv.uniq {L : List Ntr} {O : List Nat} (hI : TInv L O) {i j : Nat} (hi : i < L.length) (hj : j < L.length) (h : L[i].f = L[j].f) : i = j := by
  obtain ⟨a, ha, hai⟩ := List.mem_iff_getElem.1 (hI.all i hi)
  obtain ⟨b, hb, hbj⟩ := List.mem_iff_getElem.1 (hI.all j hj)
  have hz : ordC (fa L i) (fa L j) = 0 := by rw [fa_get hi, fa_get hj, h]; exact (isOrd.zero _ _).2 rfl
  have hz2 : ordC (fa L j) (fa L i) = 0 := by rw [fa_get hi, fa_get hj, h]; exact (isOrd.zero _ _).2 rfl
  rcases Nat.lt_trichotomy a b with hab | hab | hab
  · have := List.pairwise_iff_getElem.1 hI.srt a b ha hb hab
    rw [hai, hbj] at this; omega
  · subst hab; rw [← hai, ← hbj]
  · have := List.pairwise_iff_getElem.1 hI.srt b a hb ha hab
    rw [hai, hbj] at this; omega
theorem TInv.place {L : List Ntr} {O : List Nat} (hI : TInv L O) {f : Fct} (h : hasT L f = true) : ∃ hp : posT L O f < O.length, plc L f = (O[posT L O f] : Nat) ∧ ∃ hk : O[posT L O f] < L.length, L[O[posT L O f]].f = f := by
  rw [hI.found f, decide_eq_true_eq] at h
  obtain ⟨hp, h0⟩ := h
  have hk := hI.lt _ (List.getElem_mem hp)
  have hf : L[O[posT L O f]].f = f := by rw [← fa_get hk]; exact (isOrd.zero _ _).1 h0
  exact ⟨hp, plc_at hk hf (fun i hi h1 => hI.uniq hi hk (h1.trans hf.symm)), hk, hf⟩
theorem fa_app {L : List Ntr} {x : Ntr} {k : Nat} (h : k < L.length) : fa (L ++ [x]) k = fa L k := by
  rw [fa, fa, List.getD_eq_getElem?_getD, List.getD_eq_getElem?_getD, List.getElem?_append_left h]
theorem fa_last {L : List Ntr} {x : Ntr} : fa (L ++ [x]) L.length = x.f := by
  rw [fa, List.getD_eq_getElem?_getD, List.getElem?_append_right (Nat.le_refl _), Nat.sub_self]; rfl
def insT (L : List Ntr) (O : List Nat) (f : Fct) : List Nat := O.take (posT L O f) ++ [L.length] ++ O.drop (posT L O f)
theorem TInv.enter {L : List Ntr} {O : List Nat} (hI : TInv L O) {x : Ntr} (h : hasT L x.f = false) : TInv (L ++ [x]) (insT L O x.f) := by
  have hmem : ∀ k, k ∈ insT L O x.f ↔ k = L.length ∨ k ∈ O := by
    intro k
    have : O = O.take (posT L O x.f) ++ O.drop (posT L O x.f) := (List.take_append_drop _ _).symm
    constructor
    · intro hk
      simp only [insT, List.mem_append, List.mem_singleton] at hk
      rcases hk with (hk | hk) | hk
      · exact .inr (List.mem_of_mem_take hk)
      · exact .inl hk
      · exact .inr (List.mem_of_mem_drop hk)
    · intro hk
      simp only [insT, List.mem_append, List.mem_singleton]
      rcases hk with hk | hk
      · exact .inl (.inr hk)
      · rw [this, List.mem_append] at hk
        rcases hk with hk | hk
        · exact .inl (.inl hk)
        · exact .inr hk
  have hno : ∀ k ∈ O, ordC (fa L k) x.f ≠ 0 := fun k hk h0 => by
    have hl := hI.lt k hk
    have : hasT L x.f = true := hasT_iff.2 ⟨k, hl, by rw [← fa_get hl]; exact (isOrd.zero _ _).1 h0⟩
    rw [h] at this; cases this
  refine ⟨?_, ?_, ?_, ?_⟩
  · simp only [insT, List.length_append, List.length_take, List.length_drop, List.length_singleton, ← hI.len]
    have := posT_le L O x.f
    omega
  · intro k hk
    rw [List.length_append, List.length_singleton]
    rcases (hmem k).1 hk with rfl | hk
    · omega
    · have := hI.lt k hk; omega
  · intro k hk
    rw [List.length_append, List.length_singleton] at hk
    rw [hmem]
    by_cases hkl : k < L.length
    · exact .inr (hI.all k hkl)
    · exact .inl (by omega)
  · have htd := List.take_append_drop (posT L O x.f) O
    have hs := hI.srt
    rw [← htd, List.pairwise_append] at hs
    obtain ⟨s1, s2, s3⟩ := hs
    have hT : ∀ k ∈ O.take (posT L O x.f), k ∈ O ∧ ordC (fa L k) x.f < 0 := fun k hk => by
      obtain ⟨i, hi, rfl⟩ := List.mem_iff_getElem.1 hk
      have hi' := hi
      rw [List.length_take] at hi'
      refine ⟨List.mem_of_mem_take hk, ?_⟩
      rw [List.getElem_take]
      exact posT_lt L O x.f i (by omega) (by omega)
    have hD : ∀ k ∈ O.drop (posT L O x.f), k ∈ O ∧ ordC x.f (fa L k) < 0 := fun k hk => by
      obtain ⟨i, hi, rfl⟩ := List.mem_iff_getElem.1 hk
      have hi' := hi
      rw [List.length_drop] at hi'
      refine ⟨List.mem_of_mem_drop hk, ?_⟩
      rw [List.getElem_drop]
      have h1 := hI.ge x.f (posT L O x.f + i) (by omega) (by omega)
      have h2 := hno (O[posT L O x.f + i]'(by omega)) (List.getElem_mem _)
      exact (isOrd.anti _ _).2 (by omega)
    have cv : ∀ {a b}, a ∈ O → b ∈ O → ordC (fa L a) (fa L b) < 0 → ordC (fa (L ++ [x]) a) (fa (L ++ [x]) b) < 0 := fun ha hb h => by
      rw [fa_app (hI.lt _ ha), fa_app (hI.lt _ hb)]; exact h
    rw [insT, List.append_assoc, List.pairwise_append]
    refine ⟨s1.imp_of_mem fun ha hb h => cv (hT _ ha).1 (hT _ hb).1 h, ?_, ?_⟩
    · rw [List.singleton_append, List.pairwise_cons]
      refine ⟨fun k hk => ?_, s2.imp_of_mem fun ha hb h => cv (hD _ ha).1 (hD _ hb).1 h⟩
      rw [fa_last, fa_app (hI.lt _ (hD _ hk).1)]
      exact (hD _ hk).2
    · intro a ha b hb
      rw [List.singleton_append, List.mem_cons] at hb
      rcases hb with rfl | hb
      · rw [fa_last, fa_app (hI.lt _ (hT _ ha).1)]; exact (hT _ ha).2
      · exact cv (hT _ ha).1 (hD _ hb).1 (s3 a ha b hb)
end Go.Proofs.Ythdjblfiiogmgaa

set_option linter.unusedVariables false
set_option linter.unusedSimpArgs false
set_option maxRecDepth 100000
namespace Go.Proofs.Ythdjblfiiogmgaa
open Go Go.ChangeShapes Go.WideShapes
/-! trail: what finds a fact's place. -/
/-- Entries as a program can hold them. -/
def okE (x : Ntr) : Prop := x.tg.length = 32 ∧ x.f.l.length ≤ 1000000 ∧ (x.body.length ≤ 1000000 ∧ ∀ f ∈ x.body, f.l.length ≤ 1000000)
def flE (L : List Ntr) : List D := flatE entE L
def oD (O : List Nat) : List D := O.map fun n : Nat => D.c (.int .i64 (n : Int))
def tpC (L : List Ntr) (O : List Nat) : List AV := [.d (.sl 39 L.length (flE L)), .d (.sl 1 O.length (oD O)), .d (.c (.bool true))]
/-- A trail's row. -/
def tr (L : List Ntr) (O : List Nat) : Rs := [some (.obj (tpC L O))]
/-- .. behind the closure's cell. -/
def tb (L : List Ntr) (O : List Nat) : Rs := [some (.obj [.ptr 1 0]), some (.obj (tpC L O))]
end Go.Proofs.Ythdjblfiiogmgaa

set_option linter.unusedVariables false
set_option linter.unusedSimpArgs false
set_option maxRecDepth 100000
namespace Go.Proofs.Ythdjblfiiogmgaa
open Go Go.ChangeShapes Go.WideShapes
section
variable {P : Program} {ti : Ti} {G : GR} {N : Nat} {K : KD}
end
section
variable {P : Program} {ti : Ti} {G : GR} {N : Nat} {ops : Array Oper} {M : KM} {σ : St}
end
end Go.Proofs.Ythdjblfiiogmgaa

set_option linter.unusedVariables false
set_option linter.unusedSimpArgs false
set_option maxRecDepth 100000
namespace Go.Proofs.Ythdjblfiiogmgaa
open Go Go.ChangeShapes Go.WideShapes
/-! A digest's 32 cells, as they lie in an object of one's own. -/
end Go.Proofs.Ythdjblfiiogmgaa
