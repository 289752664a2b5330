/- The frame of these proofs, part D: what an operation that only computes comes to, by sight of the slots. -/
import Derived.Test.YteeknmjjpcbphaaDoorCC
set_option linter.unusedVariables false
set_option linter.unusedSimpArgs false
namespace Go.Proofs.YteeknmjjpcbphaaDoor
open Go

/-! ### Types -/
structure TI where
  u : TypeDesc
  size : Nat
  bytes : Nat
  zero : Value
/-- The types; 'lit': a slice that is made of parts is the call's own (it may be marked as a text's bytes, or written). -/
structure Ti where
  f : TypeId → Option TI
  lit : Bool
instance : CoeFun Ti (fun _ => TypeId → Option TI) := ⟨Ti.f⟩
def TiOK (P : Program) (ti : Ti) : Prop := ∀ t i, ti t = some i → P.underlying t = some i.u ∧ ∃ f, P.info? t = some f ∧ f.size = i.size ∧ f.bytes = i.bytes ∧ f.zero = some i.zero ∧ i.zero.cells.size = i.size ∧ P.stoodInHeld t = false
def isAggD : TypeDesc → Bool
  | .struct _ => true
  | .array _ _ => true
  | _ => false

/-- 'x', where 'c' holds; else nothing is said. -/
def chk {α : Type} (c : Prop) [Decidable c] (x : Option α) : Option α := if c then x else none
theorem chk_pos {α : Type} {c : Prop} [Decidable c] {x : Option α} (h : c) : chk c x = x := if_pos h
theorem chk_some {α : Type} {c : Prop} [Decidable c] {x : Option α} {v : α} (h : chk c x = some v) : c ∧ x = some v := by
  unfold chk at h
  split at h
  · exact ⟨‹_›, h⟩
  · cases h

/-! ### Numbers, texts, truth values -/
def vAr (f : Int → Int → Int) : Value → Value → Option Value
  | .int k a, .int k' b => if k = k' then some (.int k (k.wrap (f a b))) else none
  | _, _ => none
def vAdd : Value → Value → Option Value
  | .int k a, .int k' b => if k = k' then some (.int k (k.wrap (a + b))) else none
  | .string a, .string b => chk (a.size + b.size ≤ 9223372036854775807) (some (.string (a ++ b)))
  | _, _ => none
def vDiv (f : Int → Int → Int) (wr : Bool) : Value → Value → Option Value
  | .int k a, .int k' b => if k = k' then chk (b ≠ 0) (some (.int k (if wr then k.wrap (f a b) else f a b))) else none
  | _, _ => none
def ibits (op : BinOp) (k : IntKind) (x y : Int) : Int :=
  match op with
  | .and => k.wrap ((BitVec.ofInt k.bits x &&& BitVec.ofInt k.bits y).toNat : Int)
  | .or => k.wrap ((BitVec.ofInt k.bits x ||| BitVec.ofInt k.bits y).toNat : Int)
  | .xor => k.wrap ((BitVec.ofInt k.bits x ^^^ BitVec.ofInt k.bits y).toNat : Int)
  | _ => k.wrap ((BitVec.ofInt k.bits x &&& ~~~(BitVec.ofInt k.bits y)).toNat : Int)
def vBits (op : BinOp) : Value → Value → Option Value
  | .int k a, .int k' b => if k = k' then some (.int k (ibits op k a b)) else none
  | _, _ => none
def ishl (k : IntKind) (x y : Int) : Int := k.wrap (x * 2 ^ (min y.toNat k.bits))
def ishr (k : IntKind) (x y : Int) : Int := x.fdiv (2 ^ (min y.toNat k.bits))
def vSh (f : IntKind → Int → Int → Int) : Value → Value → Option Value
  | .int k a, .int _ b => chk (0 ≤ b) (some (.int k (f k a b)))
  | _, _ => none
def vCmp (f : Int → Int → Bool) (g : List UInt8 → List UInt8 → Bool) : Value → Value → Option Value
  | .int k a, .int k' b => if k = k' then some (.bool (f a b)) else none
  | .string a, .string b => some (.bool (g a.toList b.toList))
  | _, _ => none
def vEq (isB neg : Bool) : Value → Value → Option Value
  | .int k a, .int k' b => if k = k' then some (.bool (if neg then a != b else a == b)) else none
  | .string a, .string b => some (.bool (if neg then !(a.toList == b.toList) else a.toList == b.toList))
  | .bool a, .bool b => if isB = true then some (.bool (if neg then !(a == b) else a == b)) else none
  | _, _ => none
def vBin (isB : Bool) (op : BinOp) (a b : Value) : Option Value :=
  match op with
  | .add => vAdd a b
  | .sub => vAr (fun x y => x - y) a b
  | .mul => vAr (fun x y => x * y) a b
  | .quo => vDiv (fun x y => x.tdiv y) true a b
  | .rem => vDiv (fun x y => x.tmod y) false a b
  | .and => vBits .and a b
  | .or => vBits .or a b
  | .xor => vBits .xor a b
  | .andNot => vBits .andNot a b
  | .shl => vSh ishl a b
  | .shr => vSh ishr a b
  | .eql => vEq isB false a b
  | .neq => vEq isB true a b
  | .lss => vCmp (fun x y => decide (x < y)) (fun x y => Op.bytesLess x y) a b
  | .leq => vCmp (fun x y => decide (x ≤ y)) (fun x y => Op.bytesLess x y || x == y) a b
  | .gtr => vCmp (fun x y => decide (x > y)) (fun x y => !(Op.bytesLess x y || x == y)) a b
  | .geq => vCmp (fun x y => decide (x ≥ y)) (fun x y => !(Op.bytesLess x y)) a b

theorem vEq_run {P : Program} {t : TypeId} {isB : Bool} (hB : isB = true → P.underlying t = some .bool) {a b v : Value} (w : World) : ∀ {neg : Bool}, vEq isB neg a b = some v → (binOp (if neg then .neq else .eql) t a b).run P w = .ok v w := by
  intro neg h
  unfold vEq at h
  split at h
  · split at h
    · rename_i hk; subst hk
      injection h with h; subst h
      cases neg <;> simp [binOp, Op.intCmp]
    · cases h
  · injection h with h; subst h
    cases neg <;> simp [binOp, Op.stringOp]
  · split at h
    · rename_i a b hu
      injection h with h; subst h
      have key : ∀ d : Nat, (Op.equalIn (d + 1) t (.bool a) (.bool b)).run P w = .ok (a == b) w := fun d => by simp [Op.equalIn, run_underlying (hB hu)]
      have k2 : (Op.equal t (.bool a) (.bool b)).run P w = .ok (a == b) w := key 9999
      cases neg <;> simp only [binOp, Sem.run_bind, k2, Result.andThen_ok, Sem.run_pure, if_true, if_false, Bool.false_eq_true]
    · cases h
  · cases h
theorem vBin_run {P : Program} {op : BinOp} {t : TypeId} {isB : Bool} (hB : isB = true → P.underlying t = some .bool) {a b v : Value} (h : vBin isB op a b = some v) (w : World) : (binOp op t a b).run P w = .ok v w := by
  cases op
  case eql => exact vEq_run hB (neg := false) w h
  case neq => exact vEq_run hB (neg := true) w h
  case add =>
    simp only [vBin] at h
    unfold vAdd at h
    split at h
    · split at h
      · rename_i hk; subst hk; injection h with h; subst h; simp [binOp, Op.intArith]
      · cases h
    · obtain ⟨hc, h⟩ := chk_some h
      injection h with h; subst h
      simp only [binOp, Op.stringOp]
      rw [if_neg (by simp [IntKind.max, IntKind.bits]; omega)]
      rfl
    · cases h
  case sub | mul =>
    simp only [vBin] at h
    unfold vAr at h
    split at h
    · split at h
      · rename_i hk; subst hk; injection h with h; subst h; simp [binOp, Op.intArith]
      · cases h
    · cases h
  case quo | rem =>
    simp only [vBin] at h
    unfold vDiv at h
    split at h
    · split at h
      · rename_i hk; subst hk
        obtain ⟨hc, h⟩ := chk_some h
        injection h with h; subst h; simp [binOp, Op.intDiv, hc]
      · cases h
    · cases h
  case and | or | xor | andNot =>
    simp only [vBin] at h
    unfold vBits at h
    split at h
    · split at h
      · rename_i hk; subst hk; injection h with h; subst h; simp [binOp, Op.intBits, ibits]
      · cases h
    · cases h
  case shl | shr =>
    simp only [vBin] at h
    unfold vSh at h
    split at h
    · obtain ⟨hc, h⟩ := chk_some h
      injection h with h; subst h; simp [binOp, Op.shift, ishl, ishr, Int.not_lt.2 hc]
    · cases h
  case lss | leq | gtr | geq =>
    simp only [vBin] at h
    unfold vCmp at h
    split at h
    · split at h
      · rename_i hk; subst hk; injection h with h; subst h; simp [binOp, Op.intCmp]
      · cases h
    · injection h with h; subst h; simp [binOp, Op.stringOp]
    · cases h
theorem vEq_guard {P : Program} {t : TypeId} {isB : Bool} {a b v : Value} {neg : Bool} (h : vEq isB neg a b = some v) (op : BinOp) (x y : Operand) (w : World) : (eqGuard op t x y a b).run P w = .ok () w := by
  unfold vEq at h
  split at h
  all_goals first
    | (cases h; done)
    | (unfold eqGuard; split <;> simp)
theorem vBin_guard {P : Program} {op : BinOp} {t : TypeId} {isB : Bool} {a b v : Value} (h : vBin isB op a b = some v) (x y : Operand) (w : World) : (eqGuard op t x y a b).run P w = .ok () w := by
  cases op
  case eql => exact vEq_guard (neg := false) h _ x y w
  case neq => exact vEq_guard (neg := true) h _ x y w
  all_goals simp [eqGuard]
def vUn : UnOp → Value → Option Value
  | .neg, .int k n => some (.int k (k.wrap (0 - n)))
  | .xor, .int k n => some (.int k (ibits .xor k (if k.signed then -1 else k.max) n))
  | .not, .bool b => some (.bool !b)
  | _, _ => none
theorem vUn_run {P : Program} {op : UnOp} {a v : Value} (h : vUn op a = some v) (w : World) : (Op.unary op a).run P w = .ok v w := by
  unfold vUn at h
  split at h
  · injection h with h; subst h; simp [Op.unary, Op.intArith]
  · injection h with h; subst h; simp [Op.unary, Op.intBits, ibits]
  · injection h with h; subst h; simp [Op.unary]
  · cases h
end Go.Proofs.YteeknmjjpcbphaaDoor
