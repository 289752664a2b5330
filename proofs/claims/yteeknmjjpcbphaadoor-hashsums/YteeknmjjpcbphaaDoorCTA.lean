/- The frame of these proofs, part TA: what is asked of a type; regions that draw their order: which of them come to the same in whatever order. -/
import Derived.Test.YteeknmjjpcbphaaDoorCS
import Derived.Orders
set_option linter.unusedVariables false
set_option linter.unusedSimpArgs false
namespace Go.Proofs.YteeknmjjpcbphaaDoor
open Go

/-! ### What is asked of a type -/
inductive TK where
  | int (k : IntKind)
  | bool
  | str
  | sl (e : TypeId)
  | arr (n : Nat) (e : TypeId)
  | st
  | ptr
  | map
  | fn
  | no
def tkOf : TypeDesc → TK
  | .int k => .int k
  | .bool => .bool
  | .string => .str
  | .slice e => .sl e
  | .array n e => .arr n e
  | .struct _ => .st
  | .pointer _ => .ptr
  | .map _ _ => .map
  | .func _ _ _ => .fn
  | _ => .no
def tK (ti : Ti) (t : TypeId) : TK := match ti t with
  | some i => tkOf i.u
  | none => .no
def tS (ti : Ti) (t : TypeId) : Nat := match ti t with
  | some i => i.size
  | none => 0
def tB (ti : Ti) (t : TypeId) : Nat := match ti t with
  | some i => i.bytes
  | none => 0
def tG (ti : Ti) (t : TypeId) : Bool := match ti t with
  | some i => isAggD i.u
  | none => false
def tI (ti : Ti) (t : TypeId) : Bool := (ti t).isSome
def tZ (ti : Ti) (t : TypeId) : Option (List AV) := match ti t with
  | some i => zeroA i.zero
  | none => none
def tP (ti : Ti) (t : TypeId) : Option (List (Nat × Nat)) := match ti t with
  | some ⟨.struct fs, _, _, _⟩ => placesA ti fs.toList
  | _ => none

/-! ### Orders -/
/-- What an operation tells hangs on the values it is given, and on no memory. -/
def pureOp (ti : Ti) : Op → Bool
  | .move _ => true
  | .assign _ => true
  | .pick _ _ _ => true
  | .extract _ _ => true
  | .unOp _ _ _ => true
  | .binOp _ t _ _ _ => match tK ti t with | .int _ => true | .bool => true | .str => true | .arr _ _ => true | .st => true | _ => false
  | .convert _ d _ => match tK ti d with | .int _ => true | _ => false
  | .index t _ _ => match tK ti t with | .str => true | _ => false
  | .slice _ _ _ _ _ => true
  | .indexAddr _ _ _ => true
  | .fieldAddr _ _ _ => true
  | .field _ _ _ => true
  | .nilCheck _ => true
  | .makeFunc _ _ _ => true
  | .call c => match c.callee, c.argTypes.toList with
    | .builtin .len, [t] => match tK ti t with | .str => true | .sl _ => true | _ => false
    | _, _ => false
  | _ => false
/-- Only reads. -/
def roOp (ti : Ti) : Op → Bool
  | .box _ _ => false
  | .alloc _ => false
  | .store _ _ _ => false
  | .buildSlice _ _ _ => false
  | .makeSlice _ _ _ => false
  | .convert _ d _ => match tK ti d with | .sl _ => false | _ => true
  | .call c => match c.callee with
    | .builtin .len => true
    | .builtin .min => true
    | .builtin .max => true
    | _ => false
  | op => !stops op
def noPanic (Q : Exit → Act → World → Prop) : Exit → Act → World → Prop
  | .panic _, _, _ => False
  | e, a, w => Q e a w
/-- The kernel reckons the number first. -/
def force {α : Type} (n : Nat) (f : Nat → α) : α := match n with
  | 0 => f 0
  | m + 1 => f (m + 1)
theorem force_eq {α : Type} (n : Nat) (f : Nat → α) : force n f = f n := by cases n <;> rfl
/-- What an operation waits for, of those from 'k' on: a bit for each ('L': of those ahead of it). -/
def wmask (ops : Array Oper) (k : Nat) (L : Nat → Nat) (i : Nat) : Nat :=
  match ops[i]? with
  | some o => o.after.toList.foldl (fun acc x => if (Region.binds .any x && decide (k ≤ x.on) && decide (x.on < i)) = true then acc ||| (1 <<< (x.on - k) ||| L (x.on - k)) else acc) 0
  | none => 0
def rowOf (W S i : Nat) : Nat := (S >>> (i * W)) % 2 ^ W
def calcS (ops : Array Oper) (k W : Nat) : Nat → Nat → Nat → Nat
  | 0, _, S => S
  | n + 1, i, S => force (S ||| wmask ops k (rowOf W S) (k + i) <<< (i * W)) fun S' => force (i + 1) fun i' => calcS ops k W n i' S'

abbrev Ent := Nat × Oper × Value
def puts : List Ent → Act → Act
  | [], a => a
  | e :: l, a => puts l (a.put e.2.1.dst e.2.2)
/-- The operation comes to 'x', and leaves the world as it is. -/
def yat (P : Program) (ops : Array Oper) (w : World) (o : Oper) (x : Value) (a : Act) : Prop :=
  (Region.wanted o (yielded ops a.tmps) = true ∧ (execOp a.eval o).run P w = .ok (.value x) w) ∨ (Region.wanted o (yielded ops a.tmps) = false ∧ x = undef)
/-- What it tells stays so while memory only grows. -/
def stOp (ti : Ti) : Op → Bool
  | .load _ _ => true
  | .convert _ _ _ => true
  | .binOp _ _ _ _ _ => true
  | .call c => match c.callee with
    | .builtin .len => true
    | _ => false
  | op => pureOp ti op
/-- .. in whatever world, if it reads no memory; else while memory only grows. -/
def yatS (P : Program) (ti : Ti) (ops : Array Oper) (w : World) (o : Oper) (x : Value) (a : Act) : Prop := ∀ w', (pureOp ti o.op = true ∨ (stOp ti o.op = true ∧ Keeps w w') ∨ w' = w) → yat P ops w' o x a
def chainS (P : Program) (ti : Ti) (ops : Array Oper) (w : World) : List Ent → Act → Prop
  | [], _ => True
  | e :: l, a => yatS P ti ops w e.2.1 e.2.2 a ∧ chainS P ti ops w l (a.put e.2.1.dst e.2.2)
def lstU (ops : Array Oper) (U : List Nat) : Array Bool := Array.ofFn (n := ops.size) fun i => !U.contains i.val
def isEff (ti : Ti) (o : Oper) : Bool := !roOp ti o.op || stops o.op
/-- It leaves all memory that was there as it was: a new struct or row; a call that is handed nothing to write ('kp': those calls). -/
def keepOp : Op → Bool
  | .box _ _ => true
  | .alloc _ => true
  | .buildSlice _ _ _ => true
  | _ => false
def isKeep (kp : List Nat) (i : Nat) (o : Oper) : Bool := keepOp o.op || (stops o.op && kp.contains i)
structure PendOK (P : Program) (ti : Ti) (ops : Array Oper) (π : List Nat) (k : Nat) (rem : List Ent) (a : Act) (w : World) : Prop where
  op : ∀ e ∈ rem, ops[e.1]? = some e.2.1
  sub : (rem.map (·.1)).Sublist (π.take k)
  closed : ∀ i ∈ π.take k, i ∉ rem.map (·.1) → ∀ o, ops[i]? = some o → ∀ x ∈ o.after, Region.binds .any x = true → x.on ∉ rem.map (·.1)
  eff : ∀ e ∈ rem, isEff ti e.2.1 = false
  chain : chainS P ti ops w rem a
/-- The order 'π' speaks for every other one. -/
def scanP (ti : Ti) (ops : Array Oper) (kp : List Nat) (L : Nat → Nat) : List Nat → List Nat → Nat → Nat → Nat → Nat → Bool
  | [], _, _, _, _, _ => true
  | i :: rest, bef, seen, eff, np, ns => match ops[i]? with
    | some o => !seen.testBit i && o.after.toList.all (fun x => !Region.binds .any x || seen.testBit x.on) && (eff &&& L i) == eff && (!isEff ti o || (if isKeep kp i o = true then (ns &&& L i) == ns else (np &&& L i) == np)) &&
        bef.all (fun f => (L i).testBit f || match ops[f]? with
          | some of => of.apart ops o
          | none => false) &&
        force (seen ||| 1 <<< i) fun seen' => force (if isEff ti o = true then eff ||| 1 <<< i else eff) fun eff' => force (if pureOp ti o.op = true then np else np ||| 1 <<< i) fun np' => force (if stOp ti o.op = true then ns else ns ||| 1 <<< i) fun ns' => scanP ti ops kp L rest (i :: bef) seen' eff' np' ns'
    | none => false
def planOK (ti : Ti) (N : Nat) (ops : Array Oper) (π kp : List Nat) : Bool :=
  Region.noSelect ops && ops.toList.all (dstOK N) && (List.range ops.size).all (fun i => π.contains i) && force (calcS ops 0 ops.size ops.size 0 0) fun S =>
    (List.range ops.size).all (fun i => force (rowOf ops.size S i) fun r => force (wmask ops 0 (rowOf ops.size S) i) fun m => (r ||| m) == m) && scanP ti ops kp (rowOf ops.size S) π [] 0 0 0 0
def opl (ops : Array Oper) (π : List Nat) : List Oper := π.filterMap fun i => ops[i]?
end Go.Proofs.YteeknmjjpcbphaaDoor
