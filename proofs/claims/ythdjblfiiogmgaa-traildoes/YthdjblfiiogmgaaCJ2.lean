/- Parts of the proof: OrdT, TrailD, TFind, LayR, Dig. -/
import Derived.Test.YthdjblfiiogmgaaCJ0
import Derived.Test.YthdjblfiiogmgaaCJ1
set_option linter.unusedVariables false
set_option linter.unusedSimpArgs false
set_option maxRecDepth 100000
namespace Go.Proofs.Ythdjblfiiogmgaa
open Go Go.ChangeShapes Go.WideShapes
/-! The order of facts is one: plain, with no program in sight. -/
structure IsCmp {α : Type} (c : α → α → Int) : Prop where
  zero : ∀ a b, c a b = 0 ↔ a = b
  anti : ∀ a b, c a b < 0 ↔ 0 < c b a
  trans : ∀ a b d, c a b < 0 → c b d < 0 → c a d < 0
theorem less_trans : ∀ a b d : List UInt8, Op.bytesLess a b = true → Op.bytesLess b d = true → Op.bytesLess a d = true
  | [], _ :: _, _ :: _, _, _ => rfl
  | [], _ :: _, [], _, h => by simp [Op.bytesLess] at h
  | x :: a, [], _, h, _ => by simp [Op.bytesLess] at h
  | x :: a, y :: b, [], _, h => by simp [Op.bytesLess] at h
  | x :: a, y :: b, z :: d, h1, h2 => by
    simp only [Op.bytesLess, Bool.or_eq_true, Bool.and_eq_true, decide_eq_true_eq, beq_iff_eq] at h1 h2 ⊢
    rcases h1 with h1 | ⟨rfl, h1⟩
    · rcases h2 with h2 | ⟨rfl, h2⟩
      · exact .inl (Nat.lt_trans h1 h2)
      · exact .inl h1
    · rcases h2 with h2 | ⟨rfl, h2⟩
      · exact .inl h2
      · exact .inr ⟨rfl, less_trans a b d h1 h2⟩
  | [], [], _, h, _ => by simp [Op.bytesLess] at h
theorem less_tri : ∀ a b : List UInt8, a ≠ b → Op.bytesLess a b = false → Op.bytesLess b a = true
  | [], [], h, _ => absurd rfl h
  | [], _ :: _, _, h => by simp [Op.bytesLess] at h
  | _ :: _, [], _, _ => rfl
  | x :: a, y :: b, hn, h => by
    simp only [Op.bytesLess, Bool.or_eq_false_iff, Bool.and_eq_false_iff, decide_eq_false_iff_not, beq_eq_false_iff_ne, Bool.or_eq_true, Bool.and_eq_true, decide_eq_true_eq, beq_iff_eq] at h ⊢
    by_cases hxy : x = y
    · subst hxy
      refine .inr ⟨rfl, less_tri a b (fun hab => hn (by rw [hab])) ?_⟩
      rcases h.2 with h2 | h2
      · exact absurd rfl h2
      · exact h2
    · refine .inl ?_
      have h1 := h.1
      have : x.toNat ≠ y.toNat := fun he => hxy (UInt8.toNat_inj.1 he)
      have h1' : ¬ x.toNat < y.toNat := h1
      show y.toNat < x.toNat
      omega
theorem less_asym (a b : List UInt8) (h : Op.bytesLess a b = true) : Op.bytesLess b a = false := by
  cases hb : Op.bytesLess b a with
  | false => rfl
  | true => have := less_trans a b a h hb; rw [less_irr] at this; cases this
theorem ba_ext {a b : ByteArray} (h : a.toList = b.toList) : a = b := by
  apply ByteArray.ext
  rw [Go.ByteArray.toList_eq, Go.ByteArray.toList_eq] at h
  exact Array.toList_inj.1 h
theorem txC_lt {a b : ByteArray} : txC a b < 0 ↔ Op.bytesLess a.toList b.toList = true := by
  unfold txC
  split
  · rename_i h; simp [h]
  · rename_i h; split <;> simp_all
theorem txC_gt {a b : ByteArray} : 0 < txC a b ↔ Op.bytesLess b.toList a.toList = true := by
  constructor
  · intro h
    unfold txC at h
    split at h
    · simp at h
    · split at h
      · simp at h
      · rename_i h1 h2
        exact less_tri _ _ (fun he => h2 (ba_ext he)) (by simpa using h1)
  · intro h
    have h1 := less_asym _ _ h
    have h2 : a ≠ b := by rintro rfl; rw [less_irr] at h; cases h
    unfold txC
    rw [h1, if_neg (by decide), if_neg h2]; decide
theorem isTx : IsCmp txC := ⟨fun _ _ => txC_zero, fun a b => by rw [txC_lt, txC_gt], fun a b d h1 h2 => by rw [txC_lt] at *; exact less_trans _ _ _ h1 h2⟩
theorem isI : IsCmp cmpI := ⟨fun _ _ => cmpI_zero, fun a b => by unfold cmpI; split <;> split <;> (try split) <;> omega, fun a b d h1 h2 => by
  have e1 : a < b := by
    unfold cmpI at h1; split at h1
    · assumption
    · split at h1 <;> omega
  have e2 : b < d := by
    unfold cmpI at h2; split at h2
    · assumption
    · split at h2 <;> omega
  unfold cmpI; rw [if_pos (by omega)]; decide⟩
/-- One first, then the other. -/
def lexC {α β : Type} (c : α → α → Int) (d : β → β → Int) (x y : α × β) : Int := if c x.1 y.1 = 0 then d x.2 y.2 else c x.1 y.1
theorem IsCmp.lex {α β : Type} {c : α → α → Int} {d : β → β → Int} (hc : IsCmp c) (hd : IsCmp d) : IsCmp (lexC c d) := by
  refine ⟨fun ⟨a, b⟩ ⟨a', b'⟩ => ?_, fun ⟨a, b⟩ ⟨a', b'⟩ => ?_, fun ⟨a, b⟩ ⟨a', b'⟩ ⟨a'', b''⟩ h1 h2 => ?_⟩
  · simp only [lexC, Prod.mk.injEq]
    split
    · rename_i h; rw [hd.zero]; simp [(hc.zero _ _).1 h]
    · rename_i h
      constructor
      · intro h2; exact absurd h2 h
      · intro h2; exact absurd ((hc.zero _ _).2 h2.1) h
  · simp only [lexC]
    by_cases h : a = a'
    · subst h
      rw [if_pos ((hc.zero a a).2 rfl), if_pos ((hc.zero a a).2 rfl)]; exact hd.anti _ _
    · rw [if_neg (fun h2 => h ((hc.zero _ _).1 h2)), if_neg (fun h2 => h ((hc.zero _ _).1 h2).symm)]; exact hc.anti _ _
  · simp only [lexC] at h1 h2 ⊢
    by_cases h : a = a'
    · subst h
      rw [if_pos ((hc.zero a a).2 rfl)] at h1
      split at h2
      · rename_i h3; rw [if_pos h3]; exact hd.trans _ _ _ h1 h2
      · rename_i h3; rw [if_neg h3]; exact h2
    · rw [if_neg (fun h2 => h ((hc.zero _ _).1 h2))] at h1
      by_cases h' : a' = a''
      · subst h'
        rw [if_neg (by omega)]; exact h1
      · rw [if_neg (fun h2 => h' ((hc.zero _ _).1 h2))] at h2
        have := hc.trans _ _ _ h1 h2
        rw [if_neg (by omega)]; exact this
theorem IsCmp.map {α β : Type} {c : α → α → Int} (hc : IsCmp c) (f : β → α) (hf : ∀ x y, f x = f y → x = y) : IsCmp (fun x y => c (f x) (f y)) :=
  ⟨fun a b => (hc.zero _ _).trans ⟨hf a b, fun h => by rw [h]⟩, fun a b => hc.anti _ _, fun a b d => hc.trans _ _ _⟩
def boC (a b : Bool) : Int := if a = b then 0 else if a then -1 else 1
theorem isBo : IsCmp boC := ⟨by decide, by decide, by decide⟩
theorem cst_lex (a b : Cst) : cstC a b = lexC boC (lexC cmpI txC) (a.num, a.n, a.s) (b.num, b.n, b.s) := by
  simp only [cstC, lexC, boC]
  by_cases h : a.num = b.num
  · rw [if_pos h, if_pos h, if_pos rfl]
  · rw [if_neg h, if_neg h]
    cases a.num <;> simp
theorem isCst : IsCmp cstC := by
  have := (isBo.lex (isI.lex isTx)).map (fun c : Cst => (c.num, c.n, c.s)) (by rintro ⟨a, b, c⟩ ⟨a', b', c'⟩ h; simpa using h)
  have e : cstC = fun x y => lexC boC (lexC cmpI txC) (x.num, x.n, x.s) (y.num, y.n, y.s) := by funext a b; exact cst_lex a b
  rw [e]; exact this
theorem isArg : IsCmp argC := by
  refine ⟨fun _ _ => argC_zero, fun a => ?_, fun a => ?_⟩
  · induction a with
    | nil => intro b; cases b <;> simp [argC]
    | cons x a ih =>
      intro b
      cases b with
      | nil => simp [argC]
      | cons y b =>
        simp only [argC]
        by_cases h : x = y
        · subst h; rw [if_pos (cstC_zero.2 rfl), if_pos (cstC_zero.2 rfl)]; exact ih b
        · rw [if_neg (fun h2 => h (cstC_zero.1 h2)), if_neg (fun h2 => h (cstC_zero.1 h2).symm)]; exact isCst.anti _ _
  · induction a with
    | nil =>
      intro b d h1 h2
      cases b with
      | nil => simp [argC] at h1
      | cons y b => cases d with
        | nil => simp [argC] at h2
        | cons z d => simp [argC]
    | cons x a ih =>
      intro b d h1 h2
      cases b with
      | nil => simp [argC] at h1
      | cons y b => cases d with
        | nil => simp [argC] at h2
        | cons z d =>
          simp only [argC] at h1 h2 ⊢
          by_cases h : x = y
          · subst h
            rw [if_pos (cstC_zero.2 rfl)] at h1
            split at h2
            · rename_i h3; rw [if_pos h3]; exact ih b d h1 h2
            · rename_i h3; rw [if_neg h3]; exact h2
          · rw [if_neg (fun h2 => h (cstC_zero.1 h2))] at h1
            by_cases h' : y = z
            · subst h'
              rw [if_neg (by omega)]; exact h1
            · rw [if_neg (fun h2 => h' (cstC_zero.1 h2))] at h2
              have := isCst.trans _ _ _ h1 h2
              rw [if_neg (by omega)]; exact this
theorem ord_lex (f g : Fct) : ordC f g = lexC txC (lexC txC (lexC txC argC)) (f.a, f.b, f.p, f.l) (g.a, g.b, g.p, g.l) := by
  simp only [ordC, lexC]
  by_cases h1 : f.a = g.a
  · rw [if_pos h1, if_pos (txC_zero.2 h1)]
    by_cases h2 : f.b = g.b
    · rw [if_pos h2, if_pos (txC_zero.2 h2)]
      by_cases h3 : f.p = g.p
      · rw [if_pos h3, if_pos (txC_zero.2 h3)]
      · rw [if_neg h3, if_neg (fun h => h3 (txC_zero.1 h))]
    · rw [if_neg h2, if_neg (fun h => h2 (txC_zero.1 h))]
  · rw [if_neg h1, if_neg (fun h => h1 (txC_zero.1 h))]
theorem isOrd : IsCmp ordC := by
  have := (isTx.lex (isTx.lex (isTx.lex isArg))).map (fun f : Fct => (f.a, f.b, f.p, f.l)) (by rintro ⟨a, b, c, d⟩ ⟨a', b', c', d'⟩ h; simpa using h)
  have e : ordC = fun x y => lexC txC (lexC txC (lexC txC argC)) (x.a, x.b, x.p, x.l) (y.a, y.b, y.p, y.l) := by funext a b; exact ord_lex a b
  rw [e]; exact this
end Go.Proofs.Ythdjblfiiogmgaa

set_option linter.unusedVariables false
set_option linter.unusedSimpArgs false
set_option maxRecDepth 100000
namespace Go.Proofs.Ythdjblfiiogmgaa
open Go Go.ChangeShapes Go.WideShapes
/-! A trail, with no program in sight: its entries, and their numbers by their facts. -/
structure Ntr where
  f : Fct
  why : Int
  rule : Int
  body : List Fct
  tg : List UInt8
deriving DecidableEq
def entE (x : Ntr) : List D := fctE x.f ++ ([.c (.int .i64 x.why), .c (.int .i64 x.rule), .sl 4 x.body.length (flatE fctE x.body)] ++ bD x.tg)
def zE : Ntr := ⟨zF0, 0, 0, [], List.replicate 32 0⟩
where
  zF0 : Fct := ⟨⟨#[]⟩, ⟨#[]⟩, ⟨#[]⟩, []⟩
def fa (L : List Ntr) (k : Nat) : Fct := (L.getD k zE).f
def ltF (L : List Ntr) (f : Fct) (k : Nat) : Bool := decide (ordC (fa L k) f < 0)
def posT (L : List Ntr) (O : List Nat) (f : Fct) : Nat := (O.takeWhile (ltF L f)).length
def hasT (L : List Ntr) (f : Fct) : Bool := L.any fun x => decide (x.f = f)
structure TInv (L : List Ntr) (O : List Nat) : Prop where
  len : O.length = L.length
  lt : ∀ k ∈ O, k < L.length
  all : ∀ k, k < L.length → k ∈ O
  srt : O.Pairwise fun a b => ordC (fa L a) (fa L b) < 0
theorem TInv.nil : TInv [] [] := ⟨rfl, by simp, by simp, .nil⟩
theorem posT_le (L : List Ntr) (O : List Nat) (f : Fct) : posT L O f ≤ O.length := by
  unfold posT
  have := congrArg List.length (List.takeWhile_append_dropWhile (p := ltF L f) (l := O))
  rw [List.length_append] at this; omega
theorem posT_lt (L : List Ntr) (O : List Nat) (f : Fct) (k : Nat) (h : k < O.length) (hk : k < posT L O f) : ordC (fa L O[k]) f < 0 := by
  have h1 := List.takeWhile_append_dropWhile (p := ltF L f) (l := O)
  have h2 : O[k] = (O.takeWhile (ltF L f))[k]'hk := by
    have : O[k]? = (O.takeWhile (ltF L f))[k]? := by
      conv => lhs; rw [← h1]
      rw [List.getElem?_append_left hk]
    rw [List.getElem?_eq_getElem h, List.getElem?_eq_getElem hk] at this
    exact Option.some.inj this
  have h3 : ∀ (l : List Nat), ∀ y ∈ l.takeWhile (ltF L f), ltF L f y = true := by
    intro l
    induction l with
    | nil => simp
    | cons a l ih =>
      intro y hy
      rw [List.takeWhile_cons] at hy
      split at hy
      · rcases List.mem_cons.1 hy with rfl | hy
        · assumption
        · exact ih y hy
      · simp at hy
  have := h3 O _ (h2 ▸ List.getElem_mem hk)
  simpa [ltF] using this
theorem posT_at (L : List Ntr) (O : List Nat) (f : Fct) (h : posT L O f < O.length) : 0 ≤ ordC (fa L (O[posT L O f])) f := by
  have key : ∀ (l : List Nat) (h : (l.takeWhile (ltF L f)).length < l.length), ltF L f (l[(l.takeWhile (ltF L f)).length]) = false := by
    intro l
    induction l with
    | nil => intro h; simp at h
    | cons a l ih =>
      intro h
      cases ha : ltF L f a with
      | true =>
        have e : (a :: l).takeWhile (ltF L f) = a :: l.takeWhile (ltF L f) := by rw [List.takeWhile_cons, ha]; rfl
        simp only [e, List.length_cons, List.getElem_cons_succ]
        exact ih (by rw [e] at h; simpa using h)
      | false =>
        have e : (a :: l).takeWhile (ltF L f) = [] := by rw [List.takeWhile_cons, ha]; rfl
        simp only [e, List.length_nil, List.getElem_cons_zero]
        exact ha
  have := key O h
  simp only [ltF, decide_eq_false_iff_not] at this
  exact Int.not_lt.1 this
theorem TInv.ge {L : List Ntr} {O : List Nat} (hI : TInv L O) (f : Fct) (k : Nat) (h : k < O.length) (hk : posT L O f ≤ k) : 0 ≤ ordC (fa L O[k]) f := by
  have h0 := posT_at L O f (by omega)
  rcases Nat.lt_or_eq_of_le hk with hlt | heq
  · have hp := List.pairwise_iff_getElem.1 hI.srt (posT L O f) k (by omega) h hlt
    rcases Int.lt_or_le (ordC (fa L O[k]) f) 0 with hn | hn
    · have := isOrd.trans _ _ _ hp hn
      omega
    · exact hn
  · subst heq; exact h0
theorem fa_get {L : List Ntr} {k : Nat} (h : k < L.length) : fa L k = L[k].f := by
  rw [fa, List.getD_eq_getElem?_getD, List.getElem?_eq_getElem h]; rfl
theorem hasT_iff {L : List Ntr} {f : Fct} : hasT L f = true ↔ ∃ k, ∃ h : k < L.length, L[k].f = f := by
  simp only [hasT, List.any_eq_true, decide_eq_true_eq]
  constructor
  · rintro ⟨x, hx, h⟩
    obtain ⟨k, hk, rfl⟩ := List.mem_iff_getElem.1 hx
    exact ⟨k, hk, h⟩
  · rintro ⟨k, hk, h⟩
    exact ⟨_, List.getElem_mem hk, h⟩
theorem TInv.found {L : List Ntr} {O : List Nat} (hI : TInv L O) (f : Fct) : hasT L f = decide (∃ h : posT L O f < O.length, ordC (fa L (O[posT L O f])) f = 0) := by
  rw [Bool.eq_iff_iff, decide_eq_true_eq, hasT_iff]
  constructor
  · rintro ⟨k, hk, hf⟩
    obtain ⟨i, hi, hik⟩ := List.mem_iff_getElem.1 (hI.all k hk)
    have h0 : ordC (fa L O[i]) f = 0 := by rw [hik, fa_get hk]; exact (isOrd.zero _ _).2 hf
    rcases Nat.lt_trichotomy i (posT L O f) with h | h | h
    · have := posT_lt L O f i hi h; omega
    · subst h; exact ⟨hi, h0⟩
    · have hp : posT L O f < O.length := by omega
      have h1 := List.pairwise_iff_getElem.1 hI.srt (posT L O f) i hp hi h
      have h2 : fa L O[i] = f := (isOrd.zero _ _).1 h0
      rw [h2] at h1
      have := posT_at L O f hp
      omega
  · rintro ⟨h, h0⟩
    have hk := hI.lt _ (List.getElem_mem h)
    exact ⟨_, hk, by rw [← fa_get hk]; exact (isOrd.zero _ _).1 h0⟩
/-- The number of a fact's entry. -/
def plc : List Ntr → Fct → Int
  | [], _ => -1
  | x :: l, f => if x.f = f then 0 else if plc l f < 0 then -1 else plc l f + 1
theorem plc_none {L : List Ntr} {f : Fct} (h : hasT L f = false) : plc L f = -1 := by
  induction L with
  | nil => rfl
  | cons x l ih =>
    simp only [hasT, List.any_cons, Bool.or_eq_false_iff, decide_eq_false_iff_not] at h
    rw [plc, if_neg h.1, ih h.2]; rfl
theorem plc_at {L : List Ntr} {f : Fct} {k : Nat} (h : k < L.length) (hf : L[k].f = f) (hu : ∀ i (hi : i < L.length), L[i].f = f → i = k) : plc L f = k := by
  induction L generalizing k with
  | nil => simp at h
  | cons x l ih =>
    cases k with
    | zero => simp at hf; rw [plc, if_pos hf]; rfl
    | succ k =>
      have h0 : ¬ x.f = f := fun hx => by have := hu 0 (by simp) (by simpa using hx); omega
      have := ih (k := k) (by simpa using h) (by simpa using hf) (fun i hi h1 => by have := hu (i + 1) (by simpa using hi) (by simpa using h1); omega)
      rw [plc, if_neg h0, this, if_neg (by omega)]; rfl
theorem TInv.uniq {L : List Ntr} {O : List Nat} (hI : TInv L O) {i j : Nat} (hi : i < L.length) (hj : j < L.length) (h : L[i].f = L[j].f) : i = j := by
  obtain ⟨a, ha, hai⟩ := List.mem_iff_getElem.1 (hI.all i hi)
  obtain ⟨b, hb, hbj⟩ := List.mem_iff_getElem.1 (hI.all j hj)
  have hz : ordC (fa L i) (fa L j) = 0 := by rw [fa_get hi, fa_get hj, h]; exact (isOrd.zero _ _).2 rfl
  have hz2 : ordC (fa L j) (fa L i) = 0 := by rw [fa_get hi, fa_get hj, h]; exact (isOrd.zero _ _).2 rfl
  rcases Nat.lt_trichotomy a b with hab | hab | hab
  · have := List.pairwise_iff_getElem.1 hI.srt a b ha hb hab
    rw [hai, hbj] at this; omega
  · subst hab; rw [← hai, ← hbj]
  · have := List.pairwise_iff_getElem.1 hI.srt b a hb ha hab
    rw [hai, hbj] at this; omega
theorem TInv.place {L : List Ntr} {O : List Nat} (hI : TInv L O) {f : Fct} (h : hasT L f = true) : ∃ hp : posT L O f < O.length, plc L f = (O[posT L O f] : Nat) ∧ ∃ hk : O[posT L O f] < L.length, L[O[posT L O f]].f = f := by
  rw [hI.found f, decide_eq_true_eq] at h
  obtain ⟨hp, h0⟩ := h
  have hk := hI.lt _ (List.getElem_mem hp)
  have hf : L[O[posT L O f]].f = f := by rw [← fa_get hk]; exact (isOrd.zero _ _).1 h0
  exact ⟨hp, plc_at hk hf (fun i hi h1 => hI.uniq hi hk (h1.trans hf.symm)), hk, hf⟩
theorem fa_app {L : List Ntr} {x : Ntr} {k : Nat} (h : k < L.length) : fa (L ++ [x]) k = fa L k := by
  rw [fa, fa, List.getD_eq_getElem?_getD, List.getD_eq_getElem?_getD, List.getElem?_append_left h]
theorem fa_last {L : List Ntr} {x : Ntr} : fa (L ++ [x]) L.length = x.f := by
  rw [fa, List.getD_eq_getElem?_getD, List.getElem?_append_right (Nat.le_refl _), Nat.sub_self]; rfl
def insT (L : List Ntr) (O : List Nat) (f : Fct) : List Nat := O.take (posT L O f) ++ [L.length] ++ O.drop (posT L O f)
theorem TInv.enter {L : List Ntr} {O : List Nat} (hI : TInv L O) {x : Ntr} (h : hasT L x.f = false) : TInv (L ++ [x]) (insT L O x.f) := by
  have hmem : ∀ k, k ∈ insT L O x.f ↔ k = L.length ∨ k ∈ O := by
    intro k
    have : O = O.take (posT L O x.f) ++ O.drop (posT L O x.f) := (List.take_append_drop _ _).symm
    constructor
    · intro hk
      simp only [insT, List.mem_append, List.mem_singleton] at hk
      rcases hk with (hk | hk) | hk
      · exact .inr (List.mem_of_mem_take hk)
      · exact .inl hk
      · exact .inr (List.mem_of_mem_drop hk)
    · intro hk
      simp only [insT, List.mem_append, List.mem_singleton]
      rcases hk with hk | hk
      · exact .inl (.inr hk)
      · rw [this, List.mem_append] at hk
        rcases hk with hk | hk
        · exact .inl (.inl hk)
        · exact .inr hk
  have hno : ∀ k ∈ O, ordC (fa L k) x.f ≠ 0 := fun k hk h0 => by
    have hl := hI.lt k hk
    have : hasT L x.f = true := hasT_iff.2 ⟨k, hl, by rw [← fa_get hl]; exact (isOrd.zero _ _).1 h0⟩
    rw [h] at this; cases this
  refine ⟨?_, ?_, ?_, ?_⟩
  · simp only [insT, List.length_append, List.length_take, List.length_drop, List.length_singleton, ← hI.len]
    have := posT_le L O x.f
    omega
  · intro k hk
    rw [List.length_append, List.length_singleton]
    rcases (hmem k).1 hk with rfl | hk
    · omega
    · have := hI.lt k hk; omega
  · intro k hk
    rw [List.length_append, List.length_singleton] at hk
    rw [hmem]
    by_cases hkl : k < L.length
    · exact .inr (hI.all k hkl)
    · exact .inl (by omega)
  · have htd := List.take_append_drop (posT L O x.f) O
    have hs := hI.srt
    rw [← htd, List.pairwise_append] at hs
    obtain ⟨s1, s2, s3⟩ := hs
    have hT : ∀ k ∈ O.take (posT L O x.f), k ∈ O ∧ ordC (fa L k) x.f < 0 := fun k hk => by
      obtain ⟨i, hi, rfl⟩ := List.mem_iff_getElem.1 hk
      have hi' := hi
      rw [List.length_take] at hi'
      refine ⟨List.mem_of_mem_take hk, ?_⟩
      rw [List.getElem_take]
      exact posT_lt L O x.f i (by omega) (by omega)
    have hD : ∀ k ∈ O.drop (posT L O x.f), k ∈ O ∧ ordC x.f (fa L k) < 0 := fun k hk => by
      obtain ⟨i, hi, rfl⟩ := List.mem_iff_getElem.1 hk
      have hi' := hi
      rw [List.length_drop] at hi'
      refine ⟨List.mem_of_mem_drop hk, ?_⟩
      rw [List.getElem_drop]
      have h1 := hI.ge x.f (posT L O x.f + i) (by omega) (by omega)
      have h2 := hno (O[posT L O x.f + i]'(by omega)) (List.getElem_mem _)
      exact (isOrd.anti _ _).2 (by omega)
    have cv : ∀ {a b}, a ∈ O → b ∈ O → ordC (fa L a) (fa L b) < 0 → ordC (fa (L ++ [x]) a) (fa (L ++ [x]) b) < 0 := fun ha hb h => by
      rw [fa_app (hI.lt _ ha), fa_app (hI.lt _ hb)]; exact h
    rw [insT, List.append_assoc, List.pairwise_append]
    refine ⟨s1.imp_of_mem fun ha hb h => cv (hT _ ha).1 (hT _ hb).1 h, ?_, ?_⟩
    · rw [List.singleton_append, List.pairwise_cons]
      refine ⟨fun k hk => ?_, s2.imp_of_mem fun ha hb h => cv (hD _ ha).1 (hD _ hb).1 h⟩
      rw [fa_last, fa_app (hI.lt _ (hD _ hk).1)]
      exact (hD _ hk).2
    · intro a ha b hb
      rw [List.singleton_append, List.mem_cons] at hb
      rcases hb with rfl | hb
      · rw [fa_last, fa_app (hI.lt _ (hT _ ha).1)]; exact (hT _ ha).2
      · exact cv (hT _ ha).1 (hD _ hb).1 (s3 a ha b hb)
end Go.Proofs.Ythdjblfiiogmgaa

set_option linter.unusedVariables false
set_option linter.unusedSimpArgs false
set_option maxRecDepth 100000
namespace Go.Proofs.Ythdjblfiiogmgaa
open Go Go.ChangeShapes Go.WideShapes
/-! trail: what finds a fact's place. -/
theorem entE_len {x : Ntr} (h : x.tg.length = 32) : (entE x).length = 39 := by simp [entE, fctE, bD, h]
/-- Entries as a program can hold them. -/
def okE (x : Ntr) : Prop := x.tg.length = 32 ∧ x.f.l.length ≤ 1000000 ∧ (x.body.length ≤ 1000000 ∧ ∀ f ∈ x.body, f.l.length ≤ 1000000)
def okL (L : List Ntr) : Prop := L.length ≤ 1000000 ∧ ∀ x ∈ L, okE x
def flE (L : List Ntr) : List D := flatE entE L
theorem flE_len {L : List Ntr} (h : okL L) : (flE L).length = 39 * L.length := by
  have key : ∀ l : List Ntr, (∀ x ∈ l, okE x) → (flatE entE l).length = 39 * l.length := by
    intro l
    induction l with
    | nil => intro _; rfl
    | cons a l ih =>
      intro h
      rw [flatE_cons, List.length_append, entE_len (h a (by simp)).1, ih (fun x hx => h x (List.mem_cons_of_mem _ hx)), List.length_cons]; omega
  exact key L h.2
theorem flE_drop {L : List Ntr} (h : okL L) (i : Nat) (hi : i < L.length) : (flE L).drop (i * 39) = entE L[i] ++ flE (L.drop (i + 1)) := by
  have key : ∀ (l : List Ntr) (i : Nat) (hi : i < l.length), (∀ x ∈ l, okE x) → (flatE entE l).drop (i * 39) = entE l[i] ++ flatE entE (l.drop (i + 1)) := by
    intro l
    induction l with
    | nil => intro i hi; simp at hi
    | cons a l ih =>
      intro i hi h
      have ha := entE_len (h a (by simp)).1
      cases i with
      | zero => rw [flatE_cons]; simp
      | succ i =>
        rw [flatE_cons, show (i + 1) * 39 = 39 + i * 39 by omega, ← List.drop_drop, ← ha, List.drop_left, ha, ih i (by simpa using hi) (fun x hx => h x (List.mem_cons_of_mem _ hx))]
        simp
  exact key L i hi h.2
def oD (O : List Nat) : List D := O.map fun n : Nat => D.c (.int .i64 (n : Int))
theorem oD_len (O : List Nat) : (oD O).length = O.length := List.length_map ..
theorem oD_get (O : List Nat) (i : Nat) (h : i < O.length) : ((oD O).drop i)[0]? = some (.c (.int .i64 (O[i] : Int))) := by rw [List.getElem?_drop, Nat.add_zero, oD, List.getElem?_map, List.getElem?_eq_getElem h]; rfl
def tpC (L : List Ntr) (O : List Nat) : List AV := [.d (.sl 39 L.length (flE L)), .d (.sl 1 O.length (oD O)), .d (.c (.bool true))]
/-- A trail's row. -/
def tr (L : List Ntr) (O : List Nat) : Rs := [some (.obj (tpC L O))]
theorem tr_hand (L : List Ntr) (O : List Nat) (rc : Rs) (i : Nat) (hi : rc[i]? = some (some (.obj (tpC L O)))) : HandOK (nm [i] rc.length) rc (tr L O) [i] := by
  refine ⟨fun y h => ?_, trivial⟩
  injection h with h; subst h
  rw [hi]; rfl
theorem tr_wf (L : List Ntr) (O : List Nat) : wfRs (tr L O).length (tr L O) = true := rfl
/-- .. behind the closure's cell. -/
def tb (L : List Ntr) (O : List Nat) : Rs := [some (.obj [.ptr 1 0]), some (.obj (tpC L O))]
theorem tb_hand (L : List Ntr) (O : List Nat) (rc : Rs) (i j : Nat) (hi : rc[i]? = some (some (.obj [.ptr j 0]))) (hj : rc[j]? = some (some (.obj (tpC L O)))) : HandOK (nm [i, j] rc.length) rc (tb L O) [i, j] := by
  refine ⟨fun y h => ?_, fun y h => ?_, trivial⟩
  · injection h with h; subst h
    rw [hi]; rfl
  · injection h with h; subst h
    rw [hj]; rfl
theorem tb_wf (L : List Ntr) (O : List Nat) : wfRs (tb L O).length (tb L O) = true := rfl
set_option maxHeartbeats 400000 in
theorem find1_ac (L : List Ntr) (O : List Nat) (hL : okL L) (k : Nat) (hk : k < L.length) (f : Fct) (hf : f.l.length ≤ 140737488352000) :
    AC Try.prog noG 89 [.d (.c (.int .i64 k)), .d (.agg (fctE f)), .ptr 0 0] (tb L O) (fun v r' => v = .d (.c (.int .i64 (ordC (fa L k) f))) ∧ r' = tb L O) := by
  refine AC.fit ?_
  refine AC_of_R (N := 16) (res := [.tmp 5]) ty_ok Try.call89 Try.func89 rfl rfl rfl (Nat.le_of_ble_eq_true rfl) ?_
  have hk' : (k : Int) < L.length := by omega
  have hd := flE_drop hL k hk
  have hle := flE_len hL
  have hx := hL.2 L[k] (List.getElem_mem hk)
  have hg := ford_ac (fa L k) f (by rw [fa_get hk]; exact Nat.le_trans hx.2.1 (by decide)) hf
  rw [fa_get hk] at hg ⊢
  obtain ⟨t1, t2, t3, t4, t5, t6⟩ := And.intro hx.1 (And.intro (bD_len L[k].tg) (And.intro hx.2.1 (And.intro trivial (And.intro trivial trivial))))
  generalize L[k] = x at *
  simp only [entE, fctE, List.cons_append, List.nil_append] at hd hg
  refine rn1 (jn @tb.eq_1 (jn @tpC.eq_1 @fctE.eq_1)) ?_
  refine HC_plan [] ty_ok mix (by kernel_rfl) ?_
  refine rn1 (jn @hk' (jn @hd @hle)) ?_
  (repeat (refine And.intro (by omega) ?_))
  refine HO_pureA ty_ok hg ?_
  refine rn0 ?_
  exact fv1 [0,1] [] (jn @tb.eq_1 @tpC.eq_1)
def bisSt (L : List Ntr) (O : List Nat) (f : Fct) (x : Nat × Nat) : List (Nat × AV) := [(0, .d (.sl 1 O.length (oD O))), (2, .fn (.func 89) [] [.ptr 0 0]), (4, .ptr 2 0), (8, .d (.c (.int .i64 O.length))), (9, .d (.c (.int .i64 x.1))), (10, .d (.c (.int .i64 x.2)))]
def bisRe (L : List Ntr) (O : List Nat) (f : Fct) : Rs := [some (.obj [.ptr 1 0]), some (.obj (tpC L O)), some (.obj [.d (.c (.string f.a)), .d (.c (.string f.b)), .d (.c (.string f.p)), .d (.sl 3 f.l.length (flatE cstE f.l))])]
set_option maxHeartbeats 400000 in
theorem bsI_ac (L : List Ntr) (O : List Nat) (hL : okL L) (hI : TInv L O) (f : Fct) (hf : f.l.length ≤ 140737488352000) :
    AC Try.prog noG 88 [.d (.sl 1 O.length (oD O)), .d (.agg (fctE f)), .fn (.func 89) [] [.ptr 0 0]] (tb L O) (fun v r' => v = .tup [.d (.c (.int .i64 (posT L O f))), .d (.c (.bool (hasT L f)))] ∧ r' = tb L O) := by
  refine AC.fit ?_
  refine AC_of_R (N := 49) (res := [.tmp 6, .tmp 7]) ty_ok Try.call88 Try.func88 rfl rfl rfl (Nat.le_of_ble_eq_true rfl) ?_
  have hOl : O.length ≤ 1000000 := by rw [hI.len]; exact hL.1
  have hp := posT_le L O f
  have h1 := posT_lt L O f
  have h2 := hI.ge f
  have hq := hI.found f
  have hlt0 := hI.lt
  generalize posT L O f = p at *
  refine rn1 (jn @tb.eq_1 (jn @tpC.eq_1 @fctE.eq_1)) ?_
  refine HC_loopR (bisSt L O f) (fun _ => bisRe L O f) (fun x => x.1 ≤ p ∧ p ≤ x.2 ∧ x.2 ≤ O.length) (fun x => x.2 - x.1) (0, O.length) [0, 1, 2] [] ⟨by simp, hp, by simp⟩ ?_ ?_
  · exact ft1 (jn @bisSt.eq_1 (jn @bisRe.eq_1 @tpC.eq_1))
  intro ⟨i, j⟩ ⟨hi1, hi2, hi3⟩
  simp only at hi1 hi2 hi3
  refine HC_of_R ty_ok ?_
  by_cases hij : i < j
  · have hij' : (i : Int) < j := by omega
    obtain ⟨h, hh⟩ : ∃ h : Nat, h = (i + j) / 2 := ⟨_, rfl⟩
    have em : ((i : Int) + (j : Int)) / 2 = (h : Int) := by omega
    have hlt : h < O.length := by omega
    have hlt' : (h : Int) < O.length := by omega
    have hd := oD_get O h hlt
    have hg := find1_ac L O hL O[h] (hlt0 _ (List.getElem_mem hlt)) f hf
    have k1 := h1 h hlt
    have k2 := h2 h hlt
    generalize ordC (fa L O[h]) f = c at *
    simp only [fctE, List.cons_append, List.nil_append] at hg
    refine rn1 (jn @bisSt.eq_1 (jn @bisRe.eq_1 (jn @tpC.eq_1 (jn @hij' @em)))) ?_
    refine HC_plan [] ty_ok mix (by kernel_rfl) ?_
    refine rn1 (jn @hlt' @hd) ?_
    (repeat (refine And.intro (by omega) ?_))
    refine HO_callX ty_ok [0, 1] (hg) (tb_hand _ _ _ _ _ rfl rfl) (tb_wf _ _) ?_
    rintro v r' ⟨rfl, rfl⟩ _
    by_cases ho : c < 0
    · have hp2 : ¬ p ≤ h := fun hc => absurd (k2 hc) (by omega)
      refine rn1 (jn @tb.eq_1 (jn @tpC.eq_1 @ho)) ?_
      (repeat (refine And.intro (by omega) ?_))
      refine ⟨(h + 1, j), ⟨by simp only; omega, by simp only; omega, by simp only; omega⟩, by simp only; omega, [0, 1, 2], [], ?_⟩
      exact ft1 (jn @bisSt.eq_1 (jn @bisRe.eq_1 @tpC.eq_1))
    · have hp2 : ¬ h < p := fun hc => ho (k1 hc)
      refine rn1 (jn @tb.eq_1 (jn @tpC.eq_1 @ho)) ?_
      (repeat (refine And.intro (by omega) ?_))
      refine ⟨(i, h), ⟨by simp only; omega, by simp only; omega, by simp only; omega⟩, by simp only; omega, [0, 1, 2], [], ?_⟩
      exact ft1 (jn @bisSt.eq_1 (jn @bisRe.eq_1 @tpC.eq_1))
  · have hij' : ¬ (i : Int) < j := by omega
    have hip : i = p := by omega
    subst hip
    by_cases hlt : i < O.length
    · have hlt' : (i : Int) < O.length := by omega
      have hd := oD_get O i hlt
      have hg := find1_ac L O hL O[i] (hlt0 _ (List.getElem_mem hlt)) f hf
      have hq2 : hasT L f = decide (ordC (fa L O[i]) f = 0) := by
        rw [hq]; congr 1
        exact propext ⟨fun ⟨_, h⟩ => h, fun h => ⟨hlt, h⟩⟩
      rw [hq2]
      clear hq h1 h2 hq2
      generalize ordC (fa L O[i]) f = c at *
      simp only [fctE, List.cons_append, List.nil_append] at hg
      refine rn1 (jn @bisSt.eq_1 (jn @bisRe.eq_1 (jn @tpC.eq_1 @hij'))) ?_
      refine HC_plan [] ty_ok mix (by kernel_rfl) ?_
      refine rn1 (jn @hlt' @hd) ?_
      (repeat (refine And.intro (by omega) ?_))
      refine HO_callX ty_ok [0, 1] (hg) (tb_hand _ _ _ _ _ rfl rfl) (tb_wf _ _) ?_
      rintro v r' ⟨rfl, rfl⟩ _
      refine rn1 (jn @tb.eq_1 @tpC.eq_1) ?_
      exact fv1 [0,1] [] (jn @tb.eq_1 @tpC.eq_1)
    · have hlt' : ¬ (i : Int) < O.length := by omega
      have hq2 : hasT L f = false := by
        rw [hq, decide_eq_false_iff_not]
        exact fun ⟨h, _⟩ => hlt h
      rw [hq2]
      refine rn1 (jn @bisSt.eq_1 (jn @bisRe.eq_1 (jn @tpC.eq_1 @hij'))) ?_
      refine HC_plan [] ty_ok mix (by kernel_rfl) ?_
      refine rn1 @hlt' ?_
      exact fv1 [0,1] [] (jn @tb.eq_1 @tpC.eq_1)
set_option maxHeartbeats 400000 in
theorem tfind_ac (L : List Ntr) (O : List Nat) (hL : okL L) (hI : TInv L O) (f : Fct) (hf : f.l.length ≤ 140737488352000) :
    AC Try.prog noG 68 [.ptr 0 0, .d (.agg (fctE f))] (tr L O) (fun v r' => v = .tup [.d (.c (.int .i64 (posT L O f))), .d (.c (.bool (hasT L f)))] ∧ r' = tr L O) := by
  refine AC.fit ?_
  refine AC_of_R (N := 15) (res := [.tmp 4, .tmp 5]) ty_ok Try.call68 Try.func68 rfl rfl rfl (Nat.le_of_ble_eq_true rfl) ?_
  have hg := bsI_ac L O hL hI f hf
  simp only [fctE, List.cons_append, List.nil_append] at hg
  refine rn1 (jn @tr.eq_1 (jn @tpC.eq_1 @fctE.eq_1)) ?_
  refine HC_plan [] ty_ok mix (by kernel_rfl) ?_
  refine rn0 ?_
  refine HO_callX ty_ok [1, 0] hg (tb_hand _ _ _ _ _ rfl rfl) (tb_wf _ _) ?_
  rintro v r' ⟨rfl, rfl⟩ _
  refine rn1 (jn @tb.eq_1 @tpC.eq_1) ?_
  exact fv1 [0] [] (jn @tr.eq_1 @tpC.eq_1)
end Go.Proofs.Ythdjblfiiogmgaa

set_option linter.unusedVariables false
set_option linter.unusedSimpArgs false
set_option maxRecDepth 100000
namespace Go.Proofs.Ythdjblfiiogmgaa
open Go Go.ChangeShapes Go.WideShapes
section
variable {P : Program} {ti : Ti} {G : GR} {N : Nat} {K : KD}
def fzRes (i : Nat) (ds : List D) : Option Res → Option Res
  | some (.obj l) => some (.obj (l.map (fzA i ds)))
  | x => x
def fzR (i : Nat) (ds : List D) (r : Rs) : Rs := (r.set i none).map (fzRes i ds)
theorem fzRes_tok {i : Nat} {ds : List D} {x : Option Res} {k : Nat} (h : fzRes i ds x = some (.tok k)) : x = some (.tok k) := by
  cases x with
  | none => cases h
  | some y => cases y <;> simp_all [fzRes]
theorem fzRes_map {i : Nat} {ds : List D} {x : Option Res} {k : MX} (h : fzRes i ds x = some (.mpx k)) : x = some (.mpx k) := by
  cases x with
  | none => cases h
  | some y => cases y <;> simp_all [fzRes]
theorem fzRes_obj {i : Nat} {ds : List D} {x : Option Res} {l : List AV} (h : fzRes i ds x = some (.obj l)) : ∃ m, x = some (.obj m) ∧ l = m.map (fzA i ds) := by
  cases x with
  | none => cases h
  | some y => cases y <;> simp_all [fzRes]
theorem fzRes_some {i : Nat} {ds : List D} {x : Option Res} {y : Res} (h : fzRes i ds x = some y) : ∃ z, x = some z := by
  cases x with
  | none => cases h
  | some z => exact ⟨z, rfl⟩
theorem fzR_get {i : Nat} {ds : List D} {r : Rs} {j : Nat} {y : Option Res} (h : (fzR i ds r)[j]? = some y) : ∃ x, (r.set i none)[j]? = some x ∧ fzRes i ds x = y := by
  simp only [fzR, List.getElem?_map, Option.map_eq_some_iff] at h
  exact h
/-- .. and what stands in the call's other rows and structs tells it, too. -/
theorem HC_layR (i : Nat) {c : Code} {b : Nat → AV} {sl : List (Nat × AV)} {r : Rs} {l : List AV} {ds : List D} (ho : objOf r i = some l) (hl : allD l = some ds) (h : HC P ti G N c K ⟨b, fzL i ds sl, fzR i ds r⟩) : HC P ti G N c K ⟨b, sl, r⟩ := by
  intro E0 r0 w0 E a w hR hS
  obtain ⟨bb, T', hb, hlen, hrm, hgood, hst⟩ := lay_row hR.good ho hl
  have h12 : Step ⟨T', E.bl⟩ (r.set i none) w ⟨T', E.bl⟩ (fzR i ds r) w := by
    refine ⟨rfl, rfl, rfl, Nat.le_refl _, fun _ _ _ => ⟨rfl, rfl⟩, fun q ⟨j, x, hj, hbj⟩ => ?_, Lasts.refl _ _, ShapeLasts.refl _, ⟨by simp [fzR], fun j k _ hj => ?_, fun j k _ hj => ?_, fun j k _ hj => ?_⟩⟩
    · obtain ⟨x', hj, he⟩ := fzR_get hj
      obtain ⟨z, rfl⟩ := fzRes_some he
      exact .inl ⟨j, z, hj, hbj⟩
    · obtain ⟨x', hj, he⟩ := fzR_get hj
      rw [fzRes_tok he] at hj
      exact ⟨k, hj, Nat.le_refl _, fun _ => rfl⟩
    · obtain ⟨x', hj2, he⟩ := fzR_get hj
      obtain ⟨m, rfl, rfl⟩ := fzRes_obj he
      exact ⟨m, hj2, by simp, rfl⟩
    · obtain ⟨x', hj, he⟩ := fzR_get hj
      rw [fzRes_map he] at hj
      exact ⟨k, hj, rfl⟩
  have hfz : ∀ (l1 : List AV) (vs : List Value), RAL E r w l1 vs → RAL ⟨T', E.bl⟩ (fzR i ds r) w (l1.map (fzA i ds)) vs := by
    intro l1
    induction l1 with
    | nil => intro vs hv; simpa [RAL] using hv
    | cons x l1 ih =>
      intro vs hv
      simp only [RAL, List.map_cons] at hv ⊢
      obtain ⟨v, rest, h1, h2, h3⟩ := hv
      exact ⟨v, rest, h1, (fz_sound hR.good ho hb hlen hrm hst h2).step h12, ih rest h3⟩
  refine h E0 r0 w0 ⟨T', E.bl⟩ a w ⟨hR.size, fun k => ?_, ?_, hR.defers.step (hst.trans h12)⟩ ((hS.trans hst).trans h12)
  rotate_left
  ·   refine ⟨fun j k q hj hq => ?_, fun j k hj => ?_, fun j k hj => ?_, fun j k x y q hj hk hbj hbk => ?_, hgood.fresh, hgood.glob⟩
      · obtain ⟨x', hj, he⟩ := fzR_get hj
        rw [fzRes_tok he] at hj
        exact hgood.tok j k q hj hq
      · obtain ⟨x', hj2, he⟩ := fzR_get hj
        obtain ⟨m, rfl, rfl⟩ := fzRes_obj he
        obtain ⟨q, hq, h1, vs, e, h2, h3, h4⟩ := hgood.obj j m hj2
        obtain ⟨q', hq', _, vs', e', h2', h3', _⟩ := hR.good.obj j m (getElem?_setnone hj2).2
        have hq' : E.bl j = some q' := hq'
        have hqq : q' = q := by
          have hq : E.bl j = some q := hq
          rw [hq] at hq'; injection hq' with hq'; exact hq'.symm
        subst hqq
        rw [h2] at h2'
        injection h2' with h2'
        injection h2' with h5 _
        subst h5
        exact ⟨q', hq, h1, vs, e, h2, hfz m _ h3', h4⟩
      · obtain ⟨x', hj, he⟩ := fzR_get hj
        rw [fzRes_map he] at hj
        exact hgood.map j k hj
      · obtain ⟨x', hj, he⟩ := fzR_get hj
        obtain ⟨y', hk, he2⟩ := fzR_get hk
        obtain ⟨z, rfl⟩ := fzRes_some he
        obtain ⟨z2, rfl⟩ := fzRes_some he2
        exact hgood.one j k z z2 q hj hk hbj hbk
  have hk := hR.slot k
  show RA _ (fzR i ds r) w (lk (fzL i ds sl) b k) _
  change RA E r w (lk sl b k) _ at hk
  rcases lk_fz (i := i) (ds := ds) (b := b) (l := sl) (k := k) with ⟨v, h1, h2⟩ | ⟨h1, h2⟩
  · rw [h2]; rw [h1] at hk; exact (fz_sound hR.good ho hb hlen hrm hst hk).step h12
  · rw [h2]; rw [h1] at hk; exact (hk.step hst).step h12
end
section
variable {P : Program} {ti : Ti} {G : GR} {N : Nat} {ops : Array Oper} {M : KM} {σ : St}
end
end Go.Proofs.Ythdjblfiiogmgaa

set_option linter.unusedVariables false
set_option linter.unusedSimpArgs false
set_option maxRecDepth 100000
namespace Go.Proofs.Ythdjblfiiogmgaa
open Go Go.ChangeShapes Go.WideShapes
/-! A digest's 32 cells, as they lie in an object of one's own. -/
def tA (l : List UInt8) : List AV := (bD l).map .d
theorem tA_len (l : List UInt8) : (tA l).length = l.length := by simp [tA, bD]
theorem tA_wf (n : Nat) (l : List UInt8) : wfL n (tA l) = true := wfL_map_d n _
theorem tA_allD (l : List UInt8) : allD (tA l) = some (bD l) := allD_map _
theorem tg32 (d : List UInt8) (h : d.length = 32) : d.length = 32 ∧ (bD d).length = 32 ∧ (bD d).take 32 = bD d ∧ (tA d).length = 32 ∧ (tA d).take 32 = tA d ∧ (bD d).map AV.d = tA d := by
  have hb : (tA d).length = 32 := by rw [tA_len, h]
  have hd : (bD d).length = 32 := by rw [bD_length, h]
  exact ⟨h, hd, List.take_of_length_le (by omega), hb, List.take_of_length_le (by omega), rfl⟩
end Go.Proofs.Ythdjblfiiogmgaa
