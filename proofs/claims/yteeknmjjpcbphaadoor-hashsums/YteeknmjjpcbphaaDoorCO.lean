/- The frame of these proofs, part O: code over what stands in the slots: straight runs, tests, blocks, loops. -/
import Derived.Test.YteeknmjjpcbphaaDoorCN
set_option linter.unusedVariables false
set_option linter.unusedSimpArgs false
namespace Go.Proofs.YteeknmjjpcbphaaDoor
open Go

/-! ### Any operation that is no call -/
def evA (ti : Ti) (ρ : Operand → AV) (r : Rs) (op : Op) : Option (AV × Rs) :=
  match op with
  | .box e x => evR ti ρ r (.box e x)
  | .alloc e => evR ti ρ r (.alloc e)
  | .store t a x => evR ti ρ r (.store t a x)
  | .buildSlice t n p => evR ti ρ r (.buildSlice t n p)
  | .makeSlice t l c => evR ti ρ r (.makeSlice t l c)
  | .convert s d x => match evConv ti s d (ρ x) with
    | some v => some (v, r)
    | none => evR ti ρ r (.convert s d x)
  | .call c => match c.callee with
    | .builtin .append => evR ti ρ r (.call c)
    | _ => (evCall ti ρ r c).map fun v => (v, r)
  | op => (evP ti ρ r op).map fun v => (v, r)
theorem evA_sound {P : Program} {ti : Ti} (hti : TiOK P ti) {G : Nat → List D} {E : Env} {r : Rs} {w : World} (hG : Good G E r w) {ρ : Operand → AV} {α : Operand → Value} (hev : ∀ x, RA E r w (ρ x) (α x))
    {o : Oper} {v : AV} {r' : Rs} (e : evA ti ρ r o.op = some (v, r')) : Res2 P G E r w (execOp α o) v r' := by
  have pure : ∀ op, o.op = op → (evP ti ρ r op).map (fun v => (v, r)) = some (v, r') → Res2 P G E r w (execOp α o) v r' := by
    intro op ho h
    simp only [Option.map_eq_some_iff, Prod.mk.injEq] at h
    obtain ⟨u, hu, rfl, rfl⟩ := h
    obtain ⟨z, h1, h2⟩ := evP_sound (P := P) hti hG hev (o := o) (by rw [ho]; exact hu)
    exact ⟨z, w, E, .inl h1, h2, hG, Step.refl _ _ _⟩
  cases ho : o.op <;> rw [ho] at e <;> unfold evA at e
  case box => exact evR_sound hti hG hev (by rw [ho]; exact e)
  case alloc => exact evR_sound hti hG hev (by rw [ho]; exact e)
  case store => exact evR_sound hti hG hev (by rw [ho]; exact e)
  case buildSlice => exact evR_sound hti hG hev (by rw [ho]; exact e)
  case makeSlice => exact evR_sound hti hG hev (by rw [ho]; exact e)
  case convert s d x =>
    simp only at e
    split at e
    · rename_i u hu
      simp only [Option.some.injEq, Prod.mk.injEq] at e
      exact pure _ ho (by simp only [evP, hu, Option.map_some, e.1, e.2])
    · exact evR_sound hti hG hev (by rw [ho]; exact e)
  case call c =>
    simp only at e
    split at e
    · exact evR_sound hti hG hev (by rw [ho]; exact e)
    · exact pure _ ho (by simpa only [evP] using e)
  all_goals exact pure _ ho e

/-- 'k' of what an option holds. -/
def bindP {α : Type} : Option α → (α → Prop) → Prop
  | some a, k => k a
  | none, _ => False
theorem bindP_some {α : Type} (a : α) (k : α → Prop) : bindP (some a) k = k a := rfl
theorem bindP_none {α : Type} (k : α → Prop) : bindP none k = False := rfl
theorem bindP_chk {α : Type} (c : Prop) [Decidable c] (x : Option α) (k : α → Prop) : bindP (chk c x) k = (c ∧ bindP x k) := by
  unfold chk
  split
  · simp [*]
  · simp [*, bindP]
theorem bindP_congr {α : Type} {x y : Option α} {k : α → Prop} (h : x = y) : bindP x k = bindP y k := by rw [h]
theorem map_chk {α β : Type} (c : Prop) [Decidable c] (x : Option α) (f : α → β) : (chk c x).map f = chk c (x.map f) := by
  unfold chk; split <;> rfl
theorem bind_chk {α β : Type} (c : Prop) [Decidable c] (x : Option α) (f : α → Option β) : (chk c x).bind f = chk c (x.bind f) := by
  unfold chk; split <;> rfl
theorem bindP_elim {α : Type} {x : Option α} {k : α → Prop} (h : bindP x k) : ∃ a, x = some a ∧ k a := by
  cases x with
  | none => exact h.elim
  | some a => exact ⟨a, rfl, h⟩

/-! ### The judgement -/
abbrev Kt := Exit → St → Prop
def lift (G : Nat → List D) (N : Nat) (E0 : Env) (r0 : Rs) (w0 : World) (K : Kt) : Exit → Act → World → Prop := fun e a w => ∃ σ E, K e σ ∧ Rel G N E σ a w ∧ Step E0 r0 w0 E σ.r w

section
variable (P : Program) (ti : Ti) (G : Nat → List D) (N : Nat)
def Holds (c : Code) (K : Kt) (σ : St) : Prop := ∀ E0 r0 w0 E a w, Rel G N E σ a w → Step E0 r0 w0 E σ.r w → c.wp P (lift G N E0 r0 w0 K) a w
def HL (ops : Array Oper) (l : List Oper) (K : Kt) (σ : St) : Prop := ∀ E0 r0 w0 E a w, Rel G N E σ a w → Step E0 r0 w0 E σ.r w → wpList P ops (lift G N E0 r0 w0 K) l a w
/-- Is an operation wanted? -/
def gd (ops : Array Oper) (σ : St) (o : Oper) : Option Bool :=
  match o.guard with
  | none => some true
  | some (j, want) => match (ops[j]?).bind (·.dst) with
    | some d => match σ.get d with
      | .d (.c (.bool b)) => some (b == want)
      | .tup _ => some false
      | _ => none
    | none => none
def dstOK (o : Oper) : Bool := match o.dst with
  | some d => decide (d < N)
  | none => true
end
section
variable {P : Program} {ti : Ti} {G : Nat → List D} {N : Nat}

theorem gd_sound {E : Env} {σ : St} {a : Act} {w : World} (h : Rel G N E σ a w) {ops : Array Oper} {o : Oper} {t : Bool} (e : gd ops σ o = some t) : Region.wanted o (yielded ops a.tmps) = t := by
  unfold gd at e
  unfold Region.wanted
  split at e
  · rename_i hg; injection e with e; subst e; simp [hg]
  · rename_i j want hg
    split at e
    · rename_i d hd
      split at e
      · rename_i b hb
        injection e with e
        have hs := h.slot d
        rw [hb] at hs
        simp only [RA, RD] at hs
        have hy : yielded ops a.tmps j = some b := by
          unfold yielded
          rw [hd]
          have hx : a.tmps[d]? = some (.bool b) := by
            have := hs.1
            rw [Array.getD_eq_getD_getElem?] at this
            cases hq : a.tmps[d]? with
            | none => rw [hq] at this; simp [undef] at this
            | some v => rw [hq] at this; simp at this; rw [this]
          simp only [Option.bind_some, hx]
        simp only [hg, hy]
        rw [← e]
        cases b <;> cases want <;> rfl
      · rename_i vs hb
        injection e with e
        have hs := h.slot d
        rw [hb] at hs
        simp only [RA] at hs
        obtain ⟨us, hs, _⟩ := hs
        have hy : yielded ops a.tmps j = none := by
          unfold yielded
          rw [hd]
          simp only [Option.bind_some]
          cases hq : a.tmps[d]? with
          | none => rfl
          | some v =>
            rw [Array.getD_eq_getD_getElem?, hq] at hs
            simp at hs; rw [hs]
        simp only [hg, hy]
        rw [← e]
        rfl
      · cases e
    · cases e
theorem Rel.putO {E E' : Env} {σ : St} {a : Act} {w w' : World} {r' : Rs} (h : Rel G N E σ a w) (hs : Step E σ.r w E' r' w') (hg : Good G E' r' w') {o : Oper} (hd : dstOK N o = true) {v : AV} {x : Value} (hv : RA E' r' w' v x) :
    Rel G N E' { σ.putO o.dst v with r := r' } (a.put o.dst x) w' := by
  cases hdst : o.dst with
  | none =>
    have : ({ σ.putO none v with r := r' } : St) = { σ with r := r' } := rfl
    rw [this]
    exact h.move hs hg
  | some d =>
    have hlt : d < N := by simpa [dstOK, hdst] using hd
    exact h.put hs hg hlt hv
theorem wpList_mono' {ops : Array Oper} {Q Q' : Exit → Act → World → Prop} (hq : ∀ e a w, Q e a w → Q' e a w) : ∀ (l : List Oper) (a : Act) (w : World), wpList P ops Q l a w → wpList P ops Q' l a w
  | [], a, w, h => hq _ _ _ h
  | o :: rest, a, w, h => by
    unfold wpList at h ⊢
    by_cases hw : Region.wanted o (yielded ops a.tmps) = true
    · rw [if_pos hw] at h ⊢
      have hlo : LetsOut Q → LetsOut Q' := fun ⟨a, w, h⟩ => ⟨a, w, hq _ _ _ h⟩
      rcases h with h | h
      · left
        unfold Oper.wp at h ⊢
        generalize (execOp a.eval o).run P w = res at h ⊢
        cases res with
        | ok n w' =>
          cases n <;> simp only [Oper.upon] at h ⊢ <;> first
            | exact wpList_mono' hq rest _ _ h
            | exact Calls.mono h (fun e w'' he => by cases e <;> first | exact wpList_mono' hq rest _ _ he | exact hq _ _ _ he | exact hlo he)
            | exact Rows.mono h (fun _ _ he => wpList_mono' hq rest _ _ he)
        | halt x w' => cases x <;> simp only [Oper.upon] at h ⊢ <;> first | exact h | exact hq _ _ _ h
      · right
        exact ⟨h.1, hlo h.2⟩
    · rw [if_neg hw] at h ⊢
      exact wpList_mono' hq rest _ _ h
theorem HL_nil {ops : Array Oper} {K : Kt} {σ : St} (h : K .normal σ) : HL P G N ops [] K σ := fun E0 r0 w0 E a w hR hS => ⟨σ, E, h, hR, hS⟩
theorem HL_op (hti : TiOK P ti) {ops : Array Oper} {o : Oper} {rest : List Oper} {K : Kt} {σ : St} {v : AV} {r' : Rs} (hd : dstOK N o = true) (hg : gd ops σ o = some true) (e : evA ti (σ.ev G) σ.r o.op = some (v, r'))
    (h : HL P G N ops rest K { σ.putO o.dst v with r := r' }) : HL P G N ops (o :: rest) K σ := by
  intro E0 r0 w0 E a w hR hS
  unfold wpList
  rw [if_pos (gd_sound hR hg)]
  obtain ⟨x, w', E', hrun, hra, hgood, hst⟩ := evA_sound (P := P) hti hR.good (fun y => ev_sound hR y) e
  have hrel := hR.putO hst hgood hd hra
  have fin := h E0 r0 w0 E' (a.put o.dst x) w' hrel (hS.trans hst)
  left
  unfold Oper.wp
  rcases hrun with hrun | ⟨hrun, rfl⟩
  · rw [hrun, Oper.upon_value]; exact fin
  · rw [hrun, Oper.upon_skip]; exact fin
/-- What a slot holds behind an operation that was not wanted. -/
abbrev undA : AV := .tup []
theorem HL_skip {ops : Array Oper} {o : Oper} {rest : List Oper} {K : Kt} {σ : St} (hd : dstOK N o = true) (hg : gd ops σ o = some false) (h : HL P G N ops rest K (σ.putO o.dst undA)) : HL P G N ops (o :: rest) K σ := by
  intro E0 r0 w0 E a w hR hS
  unfold wpList
  rw [if_neg (by rw [gd_sound hR hg]; simp)]
  have hrel := hR.putO (r' := σ.r) (Step.refl _ _ _) hR.good hd (v := undA) (x := undef) (by simp [RA, RAL, undef])
  have he : ({ σ.putO o.dst undA with r := σ.r } : St) = σ.putO o.dst undA := by cases o.dst <;> rfl
  rw [he] at hrel
  have hr : (σ.putO o.dst undA).r = σ.r := by cases o.dst <;> rfl
  exact h E0 r0 w0 E _ w hrel (by rw [hr]; exact hS)

def St.putR (σ : St) (d : Option Tmp) (v : AV) (r' : Rs) : St := ⟨σ.b, match d with | some i => (i, v) :: σ.l | none => σ.l, r'⟩
theorem putR_eq (σ : St) (d : Option Tmp) (v : AV) (r' : Rs) : ({ σ.putO d v with r := r' } : St) = σ.putR d v r' := by cases d <;> rfl
theorem putO_eq (σ : St) (d : Option Tmp) (v : AV) : σ.putO d v = σ.putR d v σ.r := by cases d <;> rfl
/-! ### A straight run -/
/-- Calls stop the run: they want a contract. -/
def stops : Op → Bool
  | .call c => match c.callee with
    | .builtin .len => false
    | .builtin .min => false
    | .builtin .max => false
    | .builtin .append => false
    | _ => true
  | .mapUpdate _ _ _ _ => true
  | .lookup _ _ _ _ => true
  | .makeMap _ _ => true
  | _ => false
def evk (ti : Ti) (G : Nat → List D) (ops : Array Oper) : List Oper → St → (List Oper → St → Prop) → Prop
  | [], σ, k => k [] σ
  | o :: rest, σ, k => bindP (gd ops σ o) fun t =>
      (t = true → if stops o.op = true then k (o :: rest) σ else bindP (evA ti (σ.ev G) σ.r o.op) fun q => evk ti G ops rest (σ.putR o.dst q.1 q.2) k) ∧
      (t = false → evk ti G ops rest (σ.putR o.dst undA σ.r) k)
theorem evk_sound (hti : TiOK P ti) {ops : Array Oper} {K : Kt} : ∀ (l : List Oper) (σ : St), l.all (dstOK N) = true → evk ti G ops l σ (fun rest σ' => HL P G N ops rest K σ') → HL P G N ops l K σ
  | [], σ, _, h => h
  | o :: rest, σ, hd, h => by
    simp only [List.all_cons, Bool.and_eq_true] at hd
    unfold evk at h
    obtain ⟨t, ht, h1, h2⟩ := bindP_elim h
    cases t with
    | true =>
      have h1 := h1 rfl
      split at h1
      · exact h1
      · obtain ⟨⟨v, r'⟩, hq, h3⟩ := bindP_elim h1
        exact HL_op hti hd.1 ht hq (by rw [putR_eq]; exact evk_sound hti rest _ hd.2 h3)
    | false => exact HL_skip hd.1 ht (by rw [putO_eq]; exact evk_sound hti rest _ hd.2 (h2 rfl))

/-! ### Code -/
def seqK (k : St → Prop) (K : Kt) : Kt
  | .normal, σ => k σ
  | e, σ => K e σ
def blockK (id : Nat) (K : Kt) : Kt
  | .exit i, σ => if i = id then K .normal σ else K (.exit i) σ
  | e, σ => K e σ
theorem Holds_seq {x y : Code} {K : Kt} {σ : St} (h : Holds P G N x (seqK (fun σ' => Holds P G N y K σ') K) σ) : Holds P G N (.seq x y) K σ := by
  intro E0 r0 w0 E a w hR hS
  refine wp_seq (wp_mono (h E0 r0 w0 E a w hR hS) fun e a' w' hq => ?_)
  obtain ⟨σ', E', hk, hR', hS'⟩ := hq
  cases e with
  | normal => exact hk E0 r0 w0 E' a' w' hR' hS'
  | _ => exact ⟨σ', E', hk, hR', hS'⟩
theorem Holds_block {id : Nat} {c : Code} {K : Kt} {σ : St} (h : Holds P G N c (blockK id K) σ) : Holds P G N (.block id c) K σ := by
  intro E0 r0 w0 E a w hR hS
  refine wp_block (wp_mono (h E0 r0 w0 E a w hR hS) fun e a' w' hq => ?_)
  obtain ⟨σ', E', hk, hR', hS'⟩ := hq
  cases e with
  | exit i =>
    simp only [blockK] at hk
    simp only [Exit.inBlock]
    split
    · rename_i hi; rw [if_pos hi] at hk; exact ⟨σ', E', hk, hR', hS'⟩
    · rename_i hi; rw [if_neg hi] at hk; exact ⟨σ', E', hk, hR', hS'⟩
  | _ => exact ⟨σ', E', hk, hR', hS'⟩
theorem Holds_mono {c : Code} {K K' : Kt} {σ : St} (hk : ∀ e σ', K e σ' → K' e σ') (h : Holds P G N c K σ) : Holds P G N c K' σ := by
  intro E0 r0 w0 E a w hR hS
  refine wp_mono (h E0 r0 w0 E a w hR hS) fun e a' w' hq => ?_
  obtain ⟨σ', E', h1, h2⟩ := hq
  exact ⟨σ', E', hk _ _ h1, h2⟩
theorem Holds_region {id : Nat} {ops : Array Oper} {K : Kt} {σ : St} (h : HL P G N ops ops.toList K σ) : Holds P G N (.region id ops false) K σ :=
  fun E0 r0 w0 E a w hR hS => wp_region_list (h E0 r0 w0 E a w hR hS)
theorem Holds_cond {c : Operand} {x y : Code} {K : Kt} {σ : St} {t : Bool} (hc : σ.ev G c = .d (.c (.bool t))) (h1 : t = true → Holds P G N x K σ) (h2 : t = false → Holds P G N y K σ) : Holds P G N (.cond c x y) K σ := by
  intro E0 r0 w0 E a w hR hS
  have hev := ev_sound hR c
  rw [hc] at hev
  simp only [RA, RD] at hev
  cases t with
  | true => exact wp_cond_true hev.1 (h1 rfl E0 r0 w0 E a w hR hS)
  | false => exact wp_cond_false hev.1 (h2 rfl E0 r0 w0 E a w hR hS)
def boolOfA : AV → Option Bool
  | .d (.c (.bool t)) => some t
  | _ => none
theorem boolOfA_some {a : AV} {t : Bool} (h : boolOfA a = some t) : a = .d (.c (.bool t)) := by
  unfold boolOfA at h
  split at h
  · injection h with h; subst h; rfl
  · cases h
variable (P G N) in
def endK (ops : Array Oper) (K : Kt) : List Oper → St → Prop
  | [], σ' => K .normal σ'
  | o :: rest, σ' => HL P G N ops (o :: rest) K σ'
variable (P ti G N) in
/-- A run through code, up to calls, loops and what draws its order. -/
def run : Code → Kt → St → Prop
  | .skip, K, σ => K .normal σ
  | .region id ops draw, K, σ => match draw with
    | true => Holds P G N (.region id ops true) K σ
    | false => ops.toList.all (dstOK N) = true ∧ evk ti G ops ops.toList σ (endK P G N ops K)
  | .seq x y, K, σ => run x (seqK (fun σ' => run y K σ') K) σ
  | .cond c x y, K, σ => bindP (boolOfA (σ.ev G c)) fun t => (t = true → run x K σ) ∧ (t = false → run y K σ)
  | .block id c, K, σ => run c (blockK id K) σ
  | .exit id, K, σ => K (.exit id) σ
  | .ret, K, σ => K .ret σ
  | c, K, σ => Holds P G N c K σ
theorem HL_mono {ops : Array Oper} {l : List Oper} {K K' : Kt} {σ : St} (hk : ∀ e σ', K e σ' → K' e σ') (h : HL P G N ops l K σ) : HL P G N ops l K' σ := by
  intro E0 r0 w0 E a w hR hS
  refine wpList_mono' (fun e a' w' hq => ?_) l a w (h E0 r0 w0 E a w hR hS)
  obtain ⟨σ', E', h1, h2⟩ := hq
  exact ⟨σ', E', hk _ _ h1, h2⟩
theorem evk_mono {ops : Array Oper} : ∀ (l : List Oper) (σ : St) (k k' : List Oper → St → Prop), (∀ rest σ', k rest σ' → k' rest σ') → evk ti G ops l σ k → evk ti G ops l σ k'
  | [], σ, k, k', hk, h => hk _ _ h
  | o :: rest, σ, k, k', hk, h => by
    unfold evk at h ⊢
    obtain ⟨t, ht, h1, h2⟩ := bindP_elim h
    rw [ht]
    refine ⟨fun e => ?_, fun e => evk_mono rest _ k k' hk (h2 e)⟩
    have h1 := h1 e
    by_cases hs : stops o.op = true
    · rw [if_pos hs] at h1 ⊢
      exact hk _ _ h1
    · rw [if_neg hs] at h1 ⊢
      obtain ⟨q, hq, h3⟩ := bindP_elim h1
      rw [hq]
      exact evk_mono rest _ k k' hk h3
theorem run_mono : ∀ (c : Code) {K K' : Kt} {σ : St}, (∀ e σ', K e σ' → K' e σ') → run P ti G N c K σ → run P ti G N c K' σ
  | .skip, K, K', σ, hk, h => hk _ _ h
  | .region id ops draw, K, K', σ, hk, h => by
    unfold run at h ⊢
    cases draw with
    | true => exact Holds_mono hk h
    | false =>
      refine ⟨h.1, evk_mono _ _ _ _ (fun rest σ' hr => ?_) h.2⟩
      cases rest with
      | nil => exact hk _ _ hr
      | cons o rest => exact HL_mono hk hr
  | .seq x y, K, K', σ, hk, h => by
    have h : run P ti G N x (seqK (fun σ' => run P ti G N y K σ') K) σ := h
    show run P ti G N x (seqK (fun σ' => run P ti G N y K' σ') K') σ
    exact run_mono x (fun e σ' hq => by
      cases e <;> first | exact run_mono y hk hq | exact hk _ _ hq) h
  | .cond c x y, K, K', σ, hk, h => by
    unfold run at h ⊢
    obtain ⟨t, ht, h1, h2⟩ := bindP_elim h
    rw [ht]
    exact ⟨fun e => run_mono x hk (h1 e), fun e => run_mono y hk (h2 e)⟩
  | .block id c, K, K', σ, hk, h => by
    have h : run P ti G N c (blockK id K) σ := h
    show run P ti G N c (blockK id K') σ
    refine run_mono c (fun e σ' hq => ?_) h
    cases e with
    | exit i =>
      simp only [blockK] at hq ⊢
      split
      · rename_i hi; rw [if_pos hi] at hq; exact hk _ _ hq
      · rename_i hi; rw [if_neg hi] at hq; exact hk _ _ hq
    | _ => exact hk _ _ hq
  | .exit id, K, K', σ, hk, h => hk _ _ h
  | .ret, K, K', σ, hk, h => hk _ _ h
  | .loop c, K, K', σ, hk, h => Holds_mono hk h
  | .rangeFunc a b c d, K, K', σ, hk, h => Holds_mono hk h
  | .scope c, K, K', σ, hk, h => Holds_mono hk h
  | .label l, K, K', σ, hk, h => Holds_mono hk h
  | .goto l, K, K', σ, hk, h => Holds_mono hk h
  | .refuse why, K, K', σ, hk, h => Holds_mono hk h
theorem run_sound (hti : TiOK P ti) : ∀ (c : Code) (K : Kt) (σ : St), run P ti G N c K σ → Holds P G N c K σ
  | .skip, K, σ, h => fun E0 r0 w0 E a w hR hS => wp_skip ⟨σ, E, h, hR, hS⟩
  | .region id ops draw, K, σ, h => by
    unfold run at h
    cases draw with
    | true => exact h
    | false =>
      obtain ⟨hd, h⟩ := h
      refine Holds_region (evk_sound hti ops.toList σ hd (evk_mono _ _ _ _ (fun rest σ' hk => ?_) h))
      cases rest with
      | nil => exact HL_nil hk
      | cons o rest => exact hk
  | .seq x y, K, σ, h => by
    refine Holds_seq (run_sound hti x _ σ ?_)
    have h : run P ti G N x (seqK (fun σ' => run P ti G N y K σ') K) σ := h
    exact run_mono x (fun e σ' hk => by
      cases e <;> first | exact run_sound hti y K σ' hk | exact hk) h
  | .cond c x y, K, σ, h => by
    unfold run at h
    obtain ⟨t, ht, h1, h2⟩ := bindP_elim h
    exact Holds_cond (boolOfA_some ht) (fun e => run_sound hti x K σ (h1 e)) (fun e => run_sound hti y K σ (h2 e))
  | .block id c, K, σ, h => Holds_block (run_sound hti c _ σ h)
  | .exit id, K, σ, h => fun E0 r0 w0 E a w hR hS => wp_exit ⟨σ, E, h, hR, hS⟩
  | .ret, K, σ, h => fun E0 r0 w0 E a w hR hS => wp_ret ⟨σ, E, h, hR, hS⟩
  | .loop c, K, σ, h => h
  | .rangeFunc a b c d, K, σ, h => h
  | .scope c, K, σ, h => h
  | .label l, K, σ, h => h
  | .goto l, K, σ, h => h
  | .refuse why, K, σ, h => h
end
end Go.Proofs.YteeknmjjpcbphaaDoor
