/- The frame of these proofs, part U: the rules by which a run is reckoned: one small equation for each operation and each form of its operands. -/
import Derived.Test.YteeknmjjpcbphaaDoorCT
set_option linter.unusedVariables false
set_option linter.unusedSimpArgs false
namespace Go.Proofs.YteeknmjjpcbphaaDoor
open Go

section
variable {P : Program} {ti : Ti} {G : Nat → List D} {N : Nat} {K : KM} {σ : St} {r : Rs}
theorem bindP_map {α β : Type} (x : Option α) (f : α → β) (k : β → Prop) : bindP (x.map f) k = bindP x fun a => k (f a) := by cases x <;> rfl

/-! ### One operation -/
variable {ops : Array Oper} {rest : List Oper} {d : Option Tmp} {ty : TypeId} {ps : String} {af : Array Edge}
theorem EV_go {o : Oper} (hg : o.guard = none) (hs : stops o.op = false) : EV P ti G N ops (o :: rest) K σ = bindP (evA ti (σ.ev G) σ.r o.op) fun q => EV P ti G N ops rest K (σ.putR o.dst q.1 q.2) := by
  rw [EV_cons]
  unfold gd
  rw [hg]
  simp [bindP, hs]
theorem EV_pure {o : Oper} {x : Option AV} (hg : o.guard = none) (hs : stops o.op = false) (he : evA ti (σ.ev G) σ.r o.op = x.map fun v => (v, σ.r)) : EV P ti G N ops (o :: rest) K σ = bindP x fun v => EV P ti G N ops rest K (σ.putR o.dst v σ.r) := by
  rw [EV_go hg hs, he, bindP_map]
theorem EV0_move {x : Operand} : EV P ti G N ops (⟨d, .move x, ty, ps, af, none⟩ :: rest) K σ = EV P ti G N ops rest K (σ.putR d (σ.ev G x) σ.r) := EV_pure (x := some (σ.ev G x)) rfl rfl rfl
theorem EV0_assign {x : Operand} : EV P ti G N ops (⟨d, .assign x, ty, ps, af, none⟩ :: rest) K σ = EV P ti G N ops rest K (σ.putR d (σ.ev G x) σ.r) := EV_pure (x := some (σ.ev G x)) rfl rfl rfl
theorem EV0_pick {c a b : Operand} : EV P ti G N ops (⟨d, .pick c a b, ty, ps, af, none⟩ :: rest) K σ = bindP (evPick (σ.ev G c) (σ.ev G a) (σ.ev G b)) fun v => EV P ti G N ops rest K (σ.putR d v σ.r) := EV_pure rfl rfl rfl
theorem EV0_bin {op : BinOp} {t u : TypeId} {x y : Operand} : EV P ti G N ops (⟨d, .binOp op t x y u, ty, ps, af, none⟩ :: rest) K σ = bindP (evBin ti σ.r op t (σ.ev G x) (σ.ev G y)) fun v => EV P ti G N ops rest K (σ.putR d v σ.r) := EV_pure rfl rfl rfl
theorem EV0_un {op : UnOp} {t : TypeId} {x : Operand} : EV P ti G N ops (⟨d, .unOp op t x, ty, ps, af, none⟩ :: rest) K σ = bindP (evUn op (σ.ev G x)) fun v => EV P ti G N ops rest K (σ.putR d v σ.r) := EV_pure rfl rfl rfl
theorem EV0_nc {x : Operand} : EV P ti G N ops (⟨d, .nilCheck x, ty, ps, af, none⟩ :: rest) K σ = bindP (evNC σ.r (σ.ev G x)) fun v => EV P ti G N ops rest K (σ.putR d v σ.r) := EV_pure rfl rfl rfl
theorem EV0_ext {t : Operand} {i : Nat} : EV P ti G N ops (⟨d, .extract t i, ty, ps, af, none⟩ :: rest) K σ = bindP (evExt i (σ.ev G t)) fun v => EV P ti G N ops rest K (σ.putR d v σ.r) := EV_pure rfl rfl rfl
def sl3 (ti : Ti) (r : Rs) (t : TypeId) (x : AV) (lo hi mx : Option (Option Int)) : Option AV := match lo, hi, mx with
  | some l, some h, some m => evSlice ti r t x l h m
  | _, _, _ => none
theorem EV0_slice {t : TypeId} {x : Operand} {lo hi mx : Option Operand} : EV P ti G N ops (⟨d, .slice t x lo hi mx, ty, ps, af, none⟩ :: rest) K σ = bindP (sl3 ti σ.r t (σ.ev G x) (optI (lo.map (σ.ev G))) (optI (hi.map (σ.ev G))) (optI (mx.map (σ.ev G)))) fun v => EV P ti G N ops rest K (σ.putR d v σ.r) := EV_pure rfl rfl rfl
def ix2 (f : Int → Option AV) : AV → Option AV
  | .d (.c (.int _ n)) => f n
  | _ => none
theorem ix2_int (f : Int → Option AV) (k : IntKind) (n : Int) : ix2 f (.d (.c (.int k n))) = f n := rfl
theorem ix2_eq (f : Int → Option AV) (a : AV) : (match intOfA a with | some n => f n | none => none) = ix2 f a := by
  unfold intOfA ix2
  split
  · rename_i h; split at h
    · injection h with h; subst h; rfl
    · cases h
  · rename_i h; split at h
    · cases h
    · rename_i h1
      split
      · exact absurd rfl (h1 _ _)
      · rfl
theorem EV0_index {t : TypeId} {x i : Operand} : EV P ti G N ops (⟨d, .index t x i, ty, ps, af, none⟩ :: rest) K σ = bindP (ix2 (evIndex ti t (σ.ev G x)) (σ.ev G i)) fun v => EV P ti G N ops rest K (σ.putR d v σ.r) := EV_pure rfl rfl (by rw [← ix2_eq]; rfl)
theorem EV0_indexAddr {t : TypeId} {x i : Operand} : EV P ti G N ops (⟨d, .indexAddr t x i, ty, ps, af, none⟩ :: rest) K σ = bindP (ix2 (evIndexAddr ti σ.r t (σ.ev G x)) (σ.ev G i)) fun v => EV P ti G N ops rest K (σ.putR d v σ.r) := EV_pure rfl rfl (by rw [← ix2_eq]; rfl)
theorem EV0_fieldAddr {t : TypeId} {x : Operand} {f : Nat} : EV P ti G N ops (⟨d, .fieldAddr t x f, ty, ps, af, none⟩ :: rest) K σ = bindP (evFieldAddr ti σ.r t (σ.ev G x) f) fun v => EV P ti G N ops rest K (σ.putR d v σ.r) := EV_pure rfl rfl rfl
theorem EV0_field {t : TypeId} {x : Operand} {f : Nat} : EV P ti G N ops (⟨d, .field t x f, ty, ps, af, none⟩ :: rest) K σ = bindP (evField ti t (σ.ev G x) f) fun v => EV P ti G N ops rest K (σ.putR d v σ.r) := EV_pure rfl rfl rfl
theorem EV0_load {t : TypeId} {x : Operand} : EV P ti G N ops (⟨d, .load t x, ty, ps, af, none⟩ :: rest) K σ = bindP (evLoad ti σ.r t (σ.ev G x)) fun v => EV P ti G N ops rest K (σ.putR d v σ.r) := EV_pure rfl rfl rfl
theorem EV0_makeFunc {f : Fn} {a b : List Operand} : EV P ti G N ops (⟨d, .makeFunc f a.toArray b.toArray, ty, ps, af, none⟩ :: rest) K σ = EV P ti G N ops rest K (σ.putR d (.fn f (a.map (σ.ev G)) (b.map (σ.ev G))) σ.r) := EV_pure (x := some _) rfl rfl rfl
theorem EV0_build {t : TypeId} {parts : List (Nat × Operand)} : EV P ti G N ops (⟨d, .build t parts.toArray, ty, ps, af, none⟩ :: rest) K σ = bindP (evBuild ti σ.r t (parts.map fun p => (p.1, σ.ev G p.2))) fun v => EV P ti G N ops rest K (σ.putR d v σ.r) := EV_pure rfl rfl rfl
def lenV (o : Option Int) : Option AV := o.map fun n => .d (.c (.int .i64 n))
theorem EV0_len {x : Operand} {t : TypeId} : EV P ti G N ops (⟨d, .call ⟨.builtin .len, [x].toArray, [t].toArray⟩, ty, ps, af, none⟩ :: rest) K σ = bindP (lenV (lenAV ti σ.r t (σ.ev G x))) fun v => EV P ti G N ops rest K (σ.putR d v σ.r) := EV_pure rfl rfl rfl
theorem EV0_min {x y : Operand} {ts : Array TypeId} : EV P ti G N ops (⟨d, .call ⟨.builtin .min, [x, y].toArray, ts⟩, ty, ps, af, none⟩ :: rest) K σ = bindP (minAV false (σ.ev G x) (σ.ev G y)) fun v => EV P ti G N ops rest K (σ.putR d v σ.r) := EV_pure rfl rfl rfl
theorem EV0_max {x y : Operand} {ts : Array TypeId} : EV P ti G N ops (⟨d, .call ⟨.builtin .max, [x, y].toArray, ts⟩, ty, ps, af, none⟩ :: rest) K σ = bindP (minAV true (σ.ev G x) (σ.ev G y)) fun v => EV P ti G N ops rest K (σ.putR d v σ.r) := EV_pure rfl rfl rfl
theorem EV0_append {x y : Operand} {t u : TypeId} : EV P ti G N ops (⟨d, .call ⟨.builtin .append, [x, y].toArray, [t, u].toArray⟩, ty, ps, af, none⟩ :: rest) K σ = bindP (evApp ti σ.r t u (σ.ev G x) (σ.ev G y)) fun q => EV P ti G N ops rest K (σ.putR d q.1 q.2) := EV_go rfl rfl
def evCvt (ti : Ti) (r : Rs) (s d : TypeId) (x : AV) : Option (AV × Rs) := match evConv ti s d x with
  | some v => some (v, r)
  | none => evCB ti r s d x
theorem EV0_conv {s t : TypeId} {x : Operand} : EV P ti G N ops (⟨d, .convert s t x, ty, ps, af, none⟩ :: rest) K σ = bindP (evCvt ti σ.r s t (σ.ev G x)) fun q => EV P ti G N ops rest K (σ.putR d q.1 q.2) := EV_go rfl rfl
def evBox (r : Rs) (a : AV) : Option (AV × Rs) := match cellsAV a with
  | some cs => if liveAV r a = true then some (.ptr r.length 0, r ++ [some (.obj cs)]) else none
  | none => none
theorem EV0_box {t : TypeId} {x : Operand} : EV P ti G N ops (⟨d, .box t x, ty, ps, af, none⟩ :: rest) K σ = bindP (evBox σ.r (σ.ev G x)) fun q => EV P ti G N ops rest K (σ.putR d q.1 q.2) := EV_go rfl rfl
def evAlc (r : Rs) : Option (List AV) → Option (AV × Rs)
  | some cs => some (.ptr r.length 0, r ++ [some (.obj cs)])
  | none => none
theorem EV0_alloc {t : TypeId} : EV P ti G N ops (⟨d, .alloc t, ty, ps, af, none⟩ :: rest) K σ = bindP (evAlc σ.r (tZ ti t)) fun q => EV P ti G N ops rest K (σ.putR d q.1 q.2) := by
  rw [EV_go rfl rfl]
  have : evA ti (σ.ev G) σ.r (.alloc t) = evAlc σ.r (tZ ti t) := by
    have h : evA ti (σ.ev G) σ.r (.alloc t) = (match ti t with
      | some i => (zeroA i.zero).map fun cs => (AV.ptr σ.r.length 0, σ.r ++ [some (.obj cs)])
      | none => none) := rfl
    rw [h]
    unfold evAlc tZ
    cases ti t with
    | none => rfl
    | some i => simp only; cases zeroA i.zero <;> rfl
  rw [this]
theorem EV0_store {t : TypeId} {a x : Operand} : EV P ti G N ops (⟨d, .store t a x, ty, ps, af, none⟩ :: rest) K σ = bindP (evStore ti σ.r t (σ.ev G a) (σ.ev G x)) fun q => EV P ti G N ops rest K (σ.putR d q.1 q.2) := EV_go rfl rfl
theorem EV0_buildSlice {t : TypeId} {n : Nat} {parts : List (Nat × Operand)} : EV P ti G N ops (⟨d, .buildSlice t n parts.toArray, ty, ps, af, none⟩ :: rest) K σ = bindP (evBS ti σ.r t n (parts.map fun p => (p.1, σ.ev G p.2))) fun q => EV P ti G N ops rest K (σ.putR d q.1 q.2) := EV_go rfl rfl
theorem EV0_makeSlice {t : TypeId} {l c : Operand} : EV P ti G N ops (⟨d, .makeSlice t l c, ty, ps, af, none⟩ :: rest) K σ = bindP (evMk ti σ.r t (σ.ev G l) (σ.ev G c)) fun q => EV P ti G N ops rest K (σ.putR d q.1 q.2) := EV_go rfl rfl
theorem EV_call {x : Operand} {as : Array Operand} {ts : Array TypeId} : EV P ti G N ops (⟨d, .call ⟨.value x, as, ts⟩, ty, ps, af, none⟩ :: rest) K σ = HO P ti G N ops (⟨d, .call ⟨.value x, as, ts⟩, ty, ps, af, none⟩ :: rest) K σ := by
  rw [EV_cons]
  show bindP (some true) _ = _
  rw [bindP_some]
  simp [stops]
/-- A guarded operation. -/
def wantA (want : Bool) : AV → Option Bool
  | .d (.c (.bool b)) => some b
  | .tup _ => some (!want)
  | _ => none
def gdB (ops : Array Oper) (σ : St) (j : Nat) (want : Bool) : Option Bool := match (ops[j]?).bind (·.dst) with
  | some d => wantA want (σ.get d)
  | none => none
theorem gd_eq {op : Op} {j : Nat} {want : Bool} : gd ops σ ⟨d, op, ty, ps, af, some (j, want)⟩ = (gdB ops σ j want).map (· == want) := by
  unfold gd gdB
  simp only
  cases (ops[j]?).bind (·.dst) with
  | none => rfl
  | some x =>
    simp only
    unfold wantA
    generalize σ.get x = a
    cases a with
    | d y => cases y with
      | c v => cases v <;> rfl
      | _ => rfl
    | tup l => cases want <;> rfl
    | _ => rfl
theorem EV_guard {op : Op} {j : Nat} {want : Bool} (hs : stops op = false) : EV P ti G N ops (⟨d, op, ty, ps, af, some (j, want)⟩ :: rest) K σ = bindP (gdB ops σ j want) fun b =>
    (b = want → EV P ti G N ops (⟨d, op, ty, ps, af, none⟩ :: rest) K σ) ∧ (b = (!want) → EV P ti G N ops rest K (σ.putR d undA σ.r)) := by
  rw [EV_cons, gd_eq, bindP_map]
  congr 1
  funext b
  rw [EV_go (o := ⟨d, op, ty, ps, af, none⟩) rfl hs]
  simp only [hs, Bool.false_eq_true, if_false]
  cases b <;> cases want <;> simp
theorem EV_guard_call {x : Operand} {as : Array Operand} {ts : Array TypeId} {j : Nat} {want : Bool} : EV P ti G N ops (⟨d, .call ⟨.value x, as, ts⟩, ty, ps, af, some (j, want)⟩ :: rest) K σ = bindP (gdB ops σ j want) fun b =>
    (b = want → HO P ti G N ops (⟨d, .call ⟨.value x, as, ts⟩, ty, ps, af, some (j, want)⟩ :: rest) K σ) ∧ (b = (!want) → EV P ti G N ops rest K (σ.putR d undA σ.r)) := by
  rw [EV_cons, gd_eq, bindP_map]
  congr 1
  funext b
  simp only [stops, if_true]
  cases b <;> cases want <;> simp
end

/-! ### The same, for simp: what is bound is reckoned first, and nothing of what comes behind is looked at till then -/
abbrev Ph {α : Type} (k : α → Prop) : Type := (fun _ => Option α) k
def bindQ {α : Type} (k : α → Prop) (x : Ph k) : Prop := bindP (show Option α from x) k
theorem bindQ_some {α : Type} (k : α → Prop) (a : α) : bindQ k (some a) = k a := rfl
theorem bindQ_none {α : Type} (k : α → Prop) : bindQ k none = False := rfl
theorem bindQ_chk {α : Type} (k : α → Prop) (c : Prop) [Decidable c] (x : Option α) : bindQ k (chk c x) = (c ∧ bindQ k x) := bindP_chk c x k
abbrev Ph2 (k : AV → Rs → Prop) : Type := (fun _ => Option (AV × Rs)) k
def bindQ2 (k : AV → Rs → Prop) (x : Ph2 k) : Prop := bindP (show Option (AV × Rs) from x) fun q => k q.1 q.2
theorem bindQ2_some (k : AV → Rs → Prop) (v : AV) (r : Rs) : bindQ2 k (some (v, r)) = k v r := rfl
theorem bindQ2_none (k : AV → Rs → Prop) : bindQ2 k none = False := rfl
theorem bindQ2_chk (k : AV → Rs → Prop) (c : Prop) [Decidable c] (x : Option (AV × Rs)) : bindQ2 k (chk c x) = (c ∧ bindQ2 k x) := bindP_chk c x _
section
variable {P : Program} {ti : Ti} {G : Nat → List D} {N : Nat} {K : KM} {b : Nat → AV} {sl : List (Nat × AV)} {r : Rs} {ops : Array Oper} {rest : List Oper} {d : Tmp} {ty : TypeId} {ps : String} {af : Array Edge}
theorem EV_move {x : Operand} : EV P ti G N ops (⟨some d, .move x, ty, ps, af, none⟩ :: rest) K ⟨b, sl, r⟩ = bindQ (fun v => EV P ti G N ops rest K ⟨b, (d, v) :: sl, r⟩) (some ((St.mk b sl r).ev G x)) := EV0_move
theorem EVn_move {x : Operand} : EV P ti G N ops (⟨none, .move x, ty, ps, af, none⟩ :: rest) K ⟨b, sl, r⟩ = bindQ (fun v => EV P ti G N ops rest K ⟨b, sl, r⟩) (some ((St.mk b sl r).ev G x)) := EV0_move
theorem EV_assign {x : Operand} : EV P ti G N ops (⟨some d, .assign x, ty, ps, af, none⟩ :: rest) K ⟨b, sl, r⟩ = bindQ (fun v => EV P ti G N ops rest K ⟨b, (d, v) :: sl, r⟩) (some ((St.mk b sl r).ev G x)) := EV0_assign
theorem EVn_assign {x : Operand} : EV P ti G N ops (⟨none, .assign x, ty, ps, af, none⟩ :: rest) K ⟨b, sl, r⟩ = bindQ (fun v => EV P ti G N ops rest K ⟨b, sl, r⟩) (some ((St.mk b sl r).ev G x)) := EV0_assign
theorem EV_pick {x y z : Operand} : EV P ti G N ops (⟨some d, .pick x y z, ty, ps, af, none⟩ :: rest) K ⟨b, sl, r⟩ = bindQ (fun v => EV P ti G N ops rest K ⟨b, (d, v) :: sl, r⟩) (evPick ((St.mk b sl r).ev G x) ((St.mk b sl r).ev G y) ((St.mk b sl r).ev G z)) := EV0_pick
theorem EVn_pick {x y z : Operand} : EV P ti G N ops (⟨none, .pick x y z, ty, ps, af, none⟩ :: rest) K ⟨b, sl, r⟩ = bindQ (fun v => EV P ti G N ops rest K ⟨b, sl, r⟩) (evPick ((St.mk b sl r).ev G x) ((St.mk b sl r).ev G y) ((St.mk b sl r).ev G z)) := EV0_pick
theorem EV_bin {op : BinOp} {t u : TypeId} {x y : Operand} : EV P ti G N ops (⟨some d, .binOp op t x y u, ty, ps, af, none⟩ :: rest) K ⟨b, sl, r⟩ = bindQ (fun v => EV P ti G N ops rest K ⟨b, (d, v) :: sl, r⟩) (evBin ti r op t ((St.mk b sl r).ev G x) ((St.mk b sl r).ev G y)) := EV0_bin
theorem EVn_bin {op : BinOp} {t u : TypeId} {x y : Operand} : EV P ti G N ops (⟨none, .binOp op t x y u, ty, ps, af, none⟩ :: rest) K ⟨b, sl, r⟩ = bindQ (fun v => EV P ti G N ops rest K ⟨b, sl, r⟩) (evBin ti r op t ((St.mk b sl r).ev G x) ((St.mk b sl r).ev G y)) := EV0_bin
theorem EV_un {op : UnOp} {t : TypeId} {x : Operand} : EV P ti G N ops (⟨some d, .unOp op t x, ty, ps, af, none⟩ :: rest) K ⟨b, sl, r⟩ = bindQ (fun v => EV P ti G N ops rest K ⟨b, (d, v) :: sl, r⟩) (evUn op ((St.mk b sl r).ev G x)) := EV0_un
theorem EVn_un {op : UnOp} {t : TypeId} {x : Operand} : EV P ti G N ops (⟨none, .unOp op t x, ty, ps, af, none⟩ :: rest) K ⟨b, sl, r⟩ = bindQ (fun v => EV P ti G N ops rest K ⟨b, sl, r⟩) (evUn op ((St.mk b sl r).ev G x)) := EV0_un
theorem EV_nc {x : Operand} : EV P ti G N ops (⟨some d, .nilCheck x, ty, ps, af, none⟩ :: rest) K ⟨b, sl, r⟩ = bindQ (fun v => EV P ti G N ops rest K ⟨b, (d, v) :: sl, r⟩) (evNC r ((St.mk b sl r).ev G x)) := EV0_nc
theorem EVn_nc {x : Operand} : EV P ti G N ops (⟨none, .nilCheck x, ty, ps, af, none⟩ :: rest) K ⟨b, sl, r⟩ = bindQ (fun v => EV P ti G N ops rest K ⟨b, sl, r⟩) (evNC r ((St.mk b sl r).ev G x)) := EV0_nc
theorem EV_ext {t : Operand} {i : Nat} : EV P ti G N ops (⟨some d, .extract t i, ty, ps, af, none⟩ :: rest) K ⟨b, sl, r⟩ = bindQ (fun v => EV P ti G N ops rest K ⟨b, (d, v) :: sl, r⟩) (evExt i ((St.mk b sl r).ev G t)) := EV0_ext
theorem EVn_ext {t : Operand} {i : Nat} : EV P ti G N ops (⟨none, .extract t i, ty, ps, af, none⟩ :: rest) K ⟨b, sl, r⟩ = bindQ (fun v => EV P ti G N ops rest K ⟨b, sl, r⟩) (evExt i ((St.mk b sl r).ev G t)) := EV0_ext
theorem EV_slice {t : TypeId} {x : Operand} {lo hi mx : Option Operand} : EV P ti G N ops (⟨some d, .slice t x lo hi mx, ty, ps, af, none⟩ :: rest) K ⟨b, sl, r⟩ = bindQ (fun v => EV P ti G N ops rest K ⟨b, (d, v) :: sl, r⟩) (sl3 ti r t ((St.mk b sl r).ev G x) (optI (lo.map ((St.mk b sl r).ev G))) (optI (hi.map ((St.mk b sl r).ev G))) (optI (mx.map ((St.mk b sl r).ev G)))) := EV0_slice
theorem EVn_slice {t : TypeId} {x : Operand} {lo hi mx : Option Operand} : EV P ti G N ops (⟨none, .slice t x lo hi mx, ty, ps, af, none⟩ :: rest) K ⟨b, sl, r⟩ = bindQ (fun v => EV P ti G N ops rest K ⟨b, sl, r⟩) (sl3 ti r t ((St.mk b sl r).ev G x) (optI (lo.map ((St.mk b sl r).ev G))) (optI (hi.map ((St.mk b sl r).ev G))) (optI (mx.map ((St.mk b sl r).ev G)))) := EV0_slice
theorem EV_index {t : TypeId} {x i : Operand} : EV P ti G N ops (⟨some d, .index t x i, ty, ps, af, none⟩ :: rest) K ⟨b, sl, r⟩ = bindQ (fun v => EV P ti G N ops rest K ⟨b, (d, v) :: sl, r⟩) (ix2 (evIndex ti t ((St.mk b sl r).ev G x)) ((St.mk b sl r).ev G i)) := EV0_index
theorem EVn_index {t : TypeId} {x i : Operand} : EV P ti G N ops (⟨none, .index t x i, ty, ps, af, none⟩ :: rest) K ⟨b, sl, r⟩ = bindQ (fun v => EV P ti G N ops rest K ⟨b, sl, r⟩) (ix2 (evIndex ti t ((St.mk b sl r).ev G x)) ((St.mk b sl r).ev G i)) := EV0_index
theorem EV_indexAddr {t : TypeId} {x i : Operand} : EV P ti G N ops (⟨some d, .indexAddr t x i, ty, ps, af, none⟩ :: rest) K ⟨b, sl, r⟩ = bindQ (fun v => EV P ti G N ops rest K ⟨b, (d, v) :: sl, r⟩) (ix2 (evIndexAddr ti r t ((St.mk b sl r).ev G x)) ((St.mk b sl r).ev G i)) := EV0_indexAddr
theorem EVn_indexAddr {t : TypeId} {x i : Operand} : EV P ti G N ops (⟨none, .indexAddr t x i, ty, ps, af, none⟩ :: rest) K ⟨b, sl, r⟩ = bindQ (fun v => EV P ti G N ops rest K ⟨b, sl, r⟩) (ix2 (evIndexAddr ti r t ((St.mk b sl r).ev G x)) ((St.mk b sl r).ev G i)) := EV0_indexAddr
theorem EV_fieldAddr {t : TypeId} {x : Operand} {f : Nat} : EV P ti G N ops (⟨some d, .fieldAddr t x f, ty, ps, af, none⟩ :: rest) K ⟨b, sl, r⟩ = bindQ (fun v => EV P ti G N ops rest K ⟨b, (d, v) :: sl, r⟩) (evFieldAddr ti r t ((St.mk b sl r).ev G x) f) := EV0_fieldAddr
theorem EVn_fieldAddr {t : TypeId} {x : Operand} {f : Nat} : EV P ti G N ops (⟨none, .fieldAddr t x f, ty, ps, af, none⟩ :: rest) K ⟨b, sl, r⟩ = bindQ (fun v => EV P ti G N ops rest K ⟨b, sl, r⟩) (evFieldAddr ti r t ((St.mk b sl r).ev G x) f) := EV0_fieldAddr
theorem EV_field {t : TypeId} {x : Operand} {f : Nat} : EV P ti G N ops (⟨some d, .field t x f, ty, ps, af, none⟩ :: rest) K ⟨b, sl, r⟩ = bindQ (fun v => EV P ti G N ops rest K ⟨b, (d, v) :: sl, r⟩) (evField ti t ((St.mk b sl r).ev G x) f) := EV0_field
theorem EVn_field {t : TypeId} {x : Operand} {f : Nat} : EV P ti G N ops (⟨none, .field t x f, ty, ps, af, none⟩ :: rest) K ⟨b, sl, r⟩ = bindQ (fun v => EV P ti G N ops rest K ⟨b, sl, r⟩) (evField ti t ((St.mk b sl r).ev G x) f) := EV0_field
theorem EV_load {t : TypeId} {x : Operand} : EV P ti G N ops (⟨some d, .load t x, ty, ps, af, none⟩ :: rest) K ⟨b, sl, r⟩ = bindQ (fun v => EV P ti G N ops rest K ⟨b, (d, v) :: sl, r⟩) (evLoad ti r t ((St.mk b sl r).ev G x)) := EV0_load
theorem EVn_load {t : TypeId} {x : Operand} : EV P ti G N ops (⟨none, .load t x, ty, ps, af, none⟩ :: rest) K ⟨b, sl, r⟩ = bindQ (fun v => EV P ti G N ops rest K ⟨b, sl, r⟩) (evLoad ti r t ((St.mk b sl r).ev G x)) := EV0_load
theorem EV_makeFunc {f : Fn} {x y : List Operand} : EV P ti G N ops (⟨some d, .makeFunc f x.toArray y.toArray, ty, ps, af, none⟩ :: rest) K ⟨b, sl, r⟩ = bindQ (fun v => EV P ti G N ops rest K ⟨b, (d, v) :: sl, r⟩) (some (AV.fn f (x.map ((St.mk b sl r).ev G)) (y.map ((St.mk b sl r).ev G)))) := EV0_makeFunc
theorem EVn_makeFunc {f : Fn} {x y : List Operand} : EV P ti G N ops (⟨none, .makeFunc f x.toArray y.toArray, ty, ps, af, none⟩ :: rest) K ⟨b, sl, r⟩ = bindQ (fun v => EV P ti G N ops rest K ⟨b, sl, r⟩) (some (AV.fn f (x.map ((St.mk b sl r).ev G)) (y.map ((St.mk b sl r).ev G)))) := EV0_makeFunc
theorem EV_build {t : TypeId} {parts : List (Nat × Operand)} : EV P ti G N ops (⟨some d, .build t parts.toArray, ty, ps, af, none⟩ :: rest) K ⟨b, sl, r⟩ = bindQ (fun v => EV P ti G N ops rest K ⟨b, (d, v) :: sl, r⟩) (evBuild ti r t (parts.map fun p => (p.1, (St.mk b sl r).ev G p.2))) := EV0_build
theorem EVn_build {t : TypeId} {parts : List (Nat × Operand)} : EV P ti G N ops (⟨none, .build t parts.toArray, ty, ps, af, none⟩ :: rest) K ⟨b, sl, r⟩ = bindQ (fun v => EV P ti G N ops rest K ⟨b, sl, r⟩) (evBuild ti r t (parts.map fun p => (p.1, (St.mk b sl r).ev G p.2))) := EV0_build
theorem EV_len {x : Operand} {t : TypeId} : EV P ti G N ops (⟨some d, .call ⟨.builtin .len, [x].toArray, [t].toArray⟩, ty, ps, af, none⟩ :: rest) K ⟨b, sl, r⟩ = bindQ (fun v => EV P ti G N ops rest K ⟨b, (d, v) :: sl, r⟩) (lenV (lenAV ti r t ((St.mk b sl r).ev G x))) := EV0_len
theorem EVn_len {x : Operand} {t : TypeId} : EV P ti G N ops (⟨none, .call ⟨.builtin .len, [x].toArray, [t].toArray⟩, ty, ps, af, none⟩ :: rest) K ⟨b, sl, r⟩ = bindQ (fun v => EV P ti G N ops rest K ⟨b, sl, r⟩) (lenV (lenAV ti r t ((St.mk b sl r).ev G x))) := EV0_len
theorem EV_min {x y : Operand} {ts : Array TypeId} : EV P ti G N ops (⟨some d, .call ⟨.builtin .min, [x, y].toArray, ts⟩, ty, ps, af, none⟩ :: rest) K ⟨b, sl, r⟩ = bindQ (fun v => EV P ti G N ops rest K ⟨b, (d, v) :: sl, r⟩) (minAV false ((St.mk b sl r).ev G x) ((St.mk b sl r).ev G y)) := EV0_min
theorem EVn_min {x y : Operand} {ts : Array TypeId} : EV P ti G N ops (⟨none, .call ⟨.builtin .min, [x, y].toArray, ts⟩, ty, ps, af, none⟩ :: rest) K ⟨b, sl, r⟩ = bindQ (fun v => EV P ti G N ops rest K ⟨b, sl, r⟩) (minAV false ((St.mk b sl r).ev G x) ((St.mk b sl r).ev G y)) := EV0_min
theorem EV_max {x y : Operand} {ts : Array TypeId} : EV P ti G N ops (⟨some d, .call ⟨.builtin .max, [x, y].toArray, ts⟩, ty, ps, af, none⟩ :: rest) K ⟨b, sl, r⟩ = bindQ (fun v => EV P ti G N ops rest K ⟨b, (d, v) :: sl, r⟩) (minAV true ((St.mk b sl r).ev G x) ((St.mk b sl r).ev G y)) := EV0_max
theorem EVn_max {x y : Operand} {ts : Array TypeId} : EV P ti G N ops (⟨none, .call ⟨.builtin .max, [x, y].toArray, ts⟩, ty, ps, af, none⟩ :: rest) K ⟨b, sl, r⟩ = bindQ (fun v => EV P ti G N ops rest K ⟨b, sl, r⟩) (minAV true ((St.mk b sl r).ev G x) ((St.mk b sl r).ev G y)) := EV0_max
theorem EV_append {x y : Operand} {t u : TypeId} : EV P ti G N ops (⟨some d, .call ⟨.builtin .append, [x, y].toArray, [t, u].toArray⟩, ty, ps, af, none⟩ :: rest) K ⟨b, sl, r⟩ = bindQ2 (fun v r' => EV P ti G N ops rest K ⟨b, (d, v) :: sl, r'⟩) (evApp ti r t u ((St.mk b sl r).ev G x) ((St.mk b sl r).ev G y)) := EV0_append
theorem EVn_append {x y : Operand} {t u : TypeId} : EV P ti G N ops (⟨none, .call ⟨.builtin .append, [x, y].toArray, [t, u].toArray⟩, ty, ps, af, none⟩ :: rest) K ⟨b, sl, r⟩ = bindQ2 (fun v r' => EV P ti G N ops rest K ⟨b, sl, r'⟩) (evApp ti r t u ((St.mk b sl r).ev G x) ((St.mk b sl r).ev G y)) := EV0_append
theorem EV_conv {s t : TypeId} {x : Operand} : EV P ti G N ops (⟨some d, .convert s t x, ty, ps, af, none⟩ :: rest) K ⟨b, sl, r⟩ = bindQ2 (fun v r' => EV P ti G N ops rest K ⟨b, (d, v) :: sl, r'⟩) (evCvt ti r s t ((St.mk b sl r).ev G x)) := EV0_conv
theorem EVn_conv {s t : TypeId} {x : Operand} : EV P ti G N ops (⟨none, .convert s t x, ty, ps, af, none⟩ :: rest) K ⟨b, sl, r⟩ = bindQ2 (fun v r' => EV P ti G N ops rest K ⟨b, sl, r'⟩) (evCvt ti r s t ((St.mk b sl r).ev G x)) := EV0_conv
theorem EV_box {t : TypeId} {x : Operand} : EV P ti G N ops (⟨some d, .box t x, ty, ps, af, none⟩ :: rest) K ⟨b, sl, r⟩ = bindQ2 (fun v r' => EV P ti G N ops rest K ⟨b, (d, v) :: sl, r'⟩) (evBox r ((St.mk b sl r).ev G x)) := EV0_box
theorem EVn_box {t : TypeId} {x : Operand} : EV P ti G N ops (⟨none, .box t x, ty, ps, af, none⟩ :: rest) K ⟨b, sl, r⟩ = bindQ2 (fun v r' => EV P ti G N ops rest K ⟨b, sl, r'⟩) (evBox r ((St.mk b sl r).ev G x)) := EV0_box
theorem EV_alloc {t : TypeId} : EV P ti G N ops (⟨some d, .alloc t, ty, ps, af, none⟩ :: rest) K ⟨b, sl, r⟩ = bindQ2 (fun v r' => EV P ti G N ops rest K ⟨b, (d, v) :: sl, r'⟩) (evAlc r (tZ ti t)) := EV0_alloc
theorem EVn_alloc {t : TypeId} : EV P ti G N ops (⟨none, .alloc t, ty, ps, af, none⟩ :: rest) K ⟨b, sl, r⟩ = bindQ2 (fun v r' => EV P ti G N ops rest K ⟨b, sl, r'⟩) (evAlc r (tZ ti t)) := EV0_alloc
theorem EV_store {t : TypeId} {a x : Operand} : EV P ti G N ops (⟨some d, .store t a x, ty, ps, af, none⟩ :: rest) K ⟨b, sl, r⟩ = bindQ2 (fun v r' => EV P ti G N ops rest K ⟨b, (d, v) :: sl, r'⟩) (evStore ti r t ((St.mk b sl r).ev G a) ((St.mk b sl r).ev G x)) := EV0_store
theorem EVn_store {t : TypeId} {a x : Operand} : EV P ti G N ops (⟨none, .store t a x, ty, ps, af, none⟩ :: rest) K ⟨b, sl, r⟩ = bindQ2 (fun v r' => EV P ti G N ops rest K ⟨b, sl, r'⟩) (evStore ti r t ((St.mk b sl r).ev G a) ((St.mk b sl r).ev G x)) := EV0_store
theorem EV_buildSlice {t : TypeId} {n : Nat} {parts : List (Nat × Operand)} : EV P ti G N ops (⟨some d, .buildSlice t n parts.toArray, ty, ps, af, none⟩ :: rest) K ⟨b, sl, r⟩ = bindQ2 (fun v r' => EV P ti G N ops rest K ⟨b, (d, v) :: sl, r'⟩) (evBS ti r t n (parts.map fun p => (p.1, (St.mk b sl r).ev G p.2))) := EV0_buildSlice
theorem EVn_buildSlice {t : TypeId} {n : Nat} {parts : List (Nat × Operand)} : EV P ti G N ops (⟨none, .buildSlice t n parts.toArray, ty, ps, af, none⟩ :: rest) K ⟨b, sl, r⟩ = bindQ2 (fun v r' => EV P ti G N ops rest K ⟨b, sl, r'⟩) (evBS ti r t n (parts.map fun p => (p.1, (St.mk b sl r).ev G p.2))) := EV0_buildSlice
theorem EV_makeSlice {t : TypeId} {l c : Operand} : EV P ti G N ops (⟨some d, .makeSlice t l c, ty, ps, af, none⟩ :: rest) K ⟨b, sl, r⟩ = bindQ2 (fun v r' => EV P ti G N ops rest K ⟨b, (d, v) :: sl, r'⟩) (evMk ti r t ((St.mk b sl r).ev G l) ((St.mk b sl r).ev G c)) := EV0_makeSlice
theorem EVn_makeSlice {t : TypeId} {l c : Operand} : EV P ti G N ops (⟨none, .makeSlice t l c, ty, ps, af, none⟩ :: rest) K ⟨b, sl, r⟩ = bindQ2 (fun v r' => EV P ti G N ops rest K ⟨b, sl, r'⟩) (evMk ti r t ((St.mk b sl r).ev G l) ((St.mk b sl r).ev G c)) := EV0_makeSlice
theorem EV_g_move {x : Operand} {j : Nat} {want : Bool} : EV P ti G N ops (⟨some d, .move x, ty, ps, af, some (j, want)⟩ :: rest) K ⟨b, sl, r⟩ = bindQ (fun q0 => (q0 = want → EV P ti G N ops (⟨some d, .move x, ty, ps, af, none⟩ :: rest) K ⟨b, sl, r⟩) ∧ (q0 = (!want) → EV P ti G N ops rest K ⟨b, (d, undA) :: sl, r⟩)) (gdB ops ⟨b, sl, r⟩ j want) := EV_guard rfl
theorem EVn_g_move {x : Operand} {j : Nat} {want : Bool} : EV P ti G N ops (⟨none, .move x, ty, ps, af, some (j, want)⟩ :: rest) K ⟨b, sl, r⟩ = bindQ (fun q0 => (q0 = want → EV P ti G N ops (⟨none, .move x, ty, ps, af, none⟩ :: rest) K ⟨b, sl, r⟩) ∧ (q0 = (!want) → EV P ti G N ops rest K ⟨b, sl, r⟩)) (gdB ops ⟨b, sl, r⟩ j want) := EV_guard rfl
theorem EV_g_assign {x : Operand} {j : Nat} {want : Bool} : EV P ti G N ops (⟨some d, .assign x, ty, ps, af, some (j, want)⟩ :: rest) K ⟨b, sl, r⟩ = bindQ (fun q0 => (q0 = want → EV P ti G N ops (⟨some d, .assign x, ty, ps, af, none⟩ :: rest) K ⟨b, sl, r⟩) ∧ (q0 = (!want) → EV P ti G N ops rest K ⟨b, (d, undA) :: sl, r⟩)) (gdB ops ⟨b, sl, r⟩ j want) := EV_guard rfl
theorem EVn_g_assign {x : Operand} {j : Nat} {want : Bool} : EV P ti G N ops (⟨none, .assign x, ty, ps, af, some (j, want)⟩ :: rest) K ⟨b, sl, r⟩ = bindQ (fun q0 => (q0 = want → EV P ti G N ops (⟨none, .assign x, ty, ps, af, none⟩ :: rest) K ⟨b, sl, r⟩) ∧ (q0 = (!want) → EV P ti G N ops rest K ⟨b, sl, r⟩)) (gdB ops ⟨b, sl, r⟩ j want) := EV_guard rfl
theorem EV_g_pick {x y z : Operand} {j : Nat} {want : Bool} : EV P ti G N ops (⟨some d, .pick x y z, ty, ps, af, some (j, want)⟩ :: rest) K ⟨b, sl, r⟩ = bindQ (fun q0 => (q0 = want → EV P ti G N ops (⟨some d, .pick x y z, ty, ps, af, none⟩ :: rest) K ⟨b, sl, r⟩) ∧ (q0 = (!want) → EV P ti G N ops rest K ⟨b, (d, undA) :: sl, r⟩)) (gdB ops ⟨b, sl, r⟩ j want) := EV_guard rfl
theorem EVn_g_pick {x y z : Operand} {j : Nat} {want : Bool} : EV P ti G N ops (⟨none, .pick x y z, ty, ps, af, some (j, want)⟩ :: rest) K ⟨b, sl, r⟩ = bindQ (fun q0 => (q0 = want → EV P ti G N ops (⟨none, .pick x y z, ty, ps, af, none⟩ :: rest) K ⟨b, sl, r⟩) ∧ (q0 = (!want) → EV P ti G N ops rest K ⟨b, sl, r⟩)) (gdB ops ⟨b, sl, r⟩ j want) := EV_guard rfl
theorem EV_g_bin {op : BinOp} {t u : TypeId} {x y : Operand} {j : Nat} {want : Bool} : EV P ti G N ops (⟨some d, .binOp op t x y u, ty, ps, af, some (j, want)⟩ :: rest) K ⟨b, sl, r⟩ = bindQ (fun q0 => (q0 = want → EV P ti G N ops (⟨some d, .binOp op t x y u, ty, ps, af, none⟩ :: rest) K ⟨b, sl, r⟩) ∧ (q0 = (!want) → EV P ti G N ops rest K ⟨b, (d, undA) :: sl, r⟩)) (gdB ops ⟨b, sl, r⟩ j want) := EV_guard rfl
theorem EVn_g_bin {op : BinOp} {t u : TypeId} {x y : Operand} {j : Nat} {want : Bool} : EV P ti G N ops (⟨none, .binOp op t x y u, ty, ps, af, some (j, want)⟩ :: rest) K ⟨b, sl, r⟩ = bindQ (fun q0 => (q0 = want → EV P ti G N ops (⟨none, .binOp op t x y u, ty, ps, af, none⟩ :: rest) K ⟨b, sl, r⟩) ∧ (q0 = (!want) → EV P ti G N ops rest K ⟨b, sl, r⟩)) (gdB ops ⟨b, sl, r⟩ j want) := EV_guard rfl
theorem EV_g_un {op : UnOp} {t : TypeId} {x : Operand} {j : Nat} {want : Bool} : EV P ti G N ops (⟨some d, .unOp op t x, ty, ps, af, some (j, want)⟩ :: rest) K ⟨b, sl, r⟩ = bindQ (fun q0 => (q0 = want → EV P ti G N ops (⟨some d, .unOp op t x, ty, ps, af, none⟩ :: rest) K ⟨b, sl, r⟩) ∧ (q0 = (!want) → EV P ti G N ops rest K ⟨b, (d, undA) :: sl, r⟩)) (gdB ops ⟨b, sl, r⟩ j want) := EV_guard rfl
theorem EVn_g_un {op : UnOp} {t : TypeId} {x : Operand} {j : Nat} {want : Bool} : EV P ti G N ops (⟨none, .unOp op t x, ty, ps, af, some (j, want)⟩ :: rest) K ⟨b, sl, r⟩ = bindQ (fun q0 => (q0 = want → EV P ti G N ops (⟨none, .unOp op t x, ty, ps, af, none⟩ :: rest) K ⟨b, sl, r⟩) ∧ (q0 = (!want) → EV P ti G N ops rest K ⟨b, sl, r⟩)) (gdB ops ⟨b, sl, r⟩ j want) := EV_guard rfl
theorem EV_g_nc {x : Operand} {j : Nat} {want : Bool} : EV P ti G N ops (⟨some d, .nilCheck x, ty, ps, af, some (j, want)⟩ :: rest) K ⟨b, sl, r⟩ = bindQ (fun q0 => (q0 = want → EV P ti G N ops (⟨some d, .nilCheck x, ty, ps, af, none⟩ :: rest) K ⟨b, sl, r⟩) ∧ (q0 = (!want) → EV P ti G N ops rest K ⟨b, (d, undA) :: sl, r⟩)) (gdB ops ⟨b, sl, r⟩ j want) := EV_guard rfl
theorem EVn_g_nc {x : Operand} {j : Nat} {want : Bool} : EV P ti G N ops (⟨none, .nilCheck x, ty, ps, af, some (j, want)⟩ :: rest) K ⟨b, sl, r⟩ = bindQ (fun q0 => (q0 = want → EV P ti G N ops (⟨none, .nilCheck x, ty, ps, af, none⟩ :: rest) K ⟨b, sl, r⟩) ∧ (q0 = (!want) → EV P ti G N ops rest K ⟨b, sl, r⟩)) (gdB ops ⟨b, sl, r⟩ j want) := EV_guard rfl
theorem EV_g_ext {t : Operand} {i : Nat} {j : Nat} {want : Bool} : EV P ti G N ops (⟨some d, .extract t i, ty, ps, af, some (j, want)⟩ :: rest) K ⟨b, sl, r⟩ = bindQ (fun q0 => (q0 = want → EV P ti G N ops (⟨some d, .extract t i, ty, ps, af, none⟩ :: rest) K ⟨b, sl, r⟩) ∧ (q0 = (!want) → EV P ti G N ops rest K ⟨b, (d, undA) :: sl, r⟩)) (gdB ops ⟨b, sl, r⟩ j want) := EV_guard rfl
theorem EVn_g_ext {t : Operand} {i : Nat} {j : Nat} {want : Bool} : EV P ti G N ops (⟨none, .extract t i, ty, ps, af, some (j, want)⟩ :: rest) K ⟨b, sl, r⟩ = bindQ (fun q0 => (q0 = want → EV P ti G N ops (⟨none, .extract t i, ty, ps, af, none⟩ :: rest) K ⟨b, sl, r⟩) ∧ (q0 = (!want) → EV P ti G N ops rest K ⟨b, sl, r⟩)) (gdB ops ⟨b, sl, r⟩ j want) := EV_guard rfl
theorem EV_g_slice {t : TypeId} {x : Operand} {lo hi mx : Option Operand} {j : Nat} {want : Bool} : EV P ti G N ops (⟨some d, .slice t x lo hi mx, ty, ps, af, some (j, want)⟩ :: rest) K ⟨b, sl, r⟩ = bindQ (fun q0 => (q0 = want → EV P ti G N ops (⟨some d, .slice t x lo hi mx, ty, ps, af, none⟩ :: rest) K ⟨b, sl, r⟩) ∧ (q0 = (!want) → EV P ti G N ops rest K ⟨b, (d, undA) :: sl, r⟩)) (gdB ops ⟨b, sl, r⟩ j want) := EV_guard rfl
theorem EVn_g_slice {t : TypeId} {x : Operand} {lo hi mx : Option Operand} {j : Nat} {want : Bool} : EV P ti G N ops (⟨none, .slice t x lo hi mx, ty, ps, af, some (j, want)⟩ :: rest) K ⟨b, sl, r⟩ = bindQ (fun q0 => (q0 = want → EV P ti G N ops (⟨none, .slice t x lo hi mx, ty, ps, af, none⟩ :: rest) K ⟨b, sl, r⟩) ∧ (q0 = (!want) → EV P ti G N ops rest K ⟨b, sl, r⟩)) (gdB ops ⟨b, sl, r⟩ j want) := EV_guard rfl
theorem EV_g_index {t : TypeId} {x i : Operand} {j : Nat} {want : Bool} : EV P ti G N ops (⟨some d, .index t x i, ty, ps, af, some (j, want)⟩ :: rest) K ⟨b, sl, r⟩ = bindQ (fun q0 => (q0 = want → EV P ti G N ops (⟨some d, .index t x i, ty, ps, af, none⟩ :: rest) K ⟨b, sl, r⟩) ∧ (q0 = (!want) → EV P ti G N ops rest K ⟨b, (d, undA) :: sl, r⟩)) (gdB ops ⟨b, sl, r⟩ j want) := EV_guard rfl
theorem EVn_g_index {t : TypeId} {x i : Operand} {j : Nat} {want : Bool} : EV P ti G N ops (⟨none, .index t x i, ty, ps, af, some (j, want)⟩ :: rest) K ⟨b, sl, r⟩ = bindQ (fun q0 => (q0 = want → EV P ti G N ops (⟨none, .index t x i, ty, ps, af, none⟩ :: rest) K ⟨b, sl, r⟩) ∧ (q0 = (!want) → EV P ti G N ops rest K ⟨b, sl, r⟩)) (gdB ops ⟨b, sl, r⟩ j want) := EV_guard rfl
theorem EV_g_indexAddr {t : TypeId} {x i : Operand} {j : Nat} {want : Bool} : EV P ti G N ops (⟨some d, .indexAddr t x i, ty, ps, af, some (j, want)⟩ :: rest) K ⟨b, sl, r⟩ = bindQ (fun q0 => (q0 = want → EV P ti G N ops (⟨some d, .indexAddr t x i, ty, ps, af, none⟩ :: rest) K ⟨b, sl, r⟩) ∧ (q0 = (!want) → EV P ti G N ops rest K ⟨b, (d, undA) :: sl, r⟩)) (gdB ops ⟨b, sl, r⟩ j want) := EV_guard rfl
theorem EVn_g_indexAddr {t : TypeId} {x i : Operand} {j : Nat} {want : Bool} : EV P ti G N ops (⟨none, .indexAddr t x i, ty, ps, af, some (j, want)⟩ :: rest) K ⟨b, sl, r⟩ = bindQ (fun q0 => (q0 = want → EV P ti G N ops (⟨none, .indexAddr t x i, ty, ps, af, none⟩ :: rest) K ⟨b, sl, r⟩) ∧ (q0 = (!want) → EV P ti G N ops rest K ⟨b, sl, r⟩)) (gdB ops ⟨b, sl, r⟩ j want) := EV_guard rfl
theorem EV_g_fieldAddr {t : TypeId} {x : Operand} {f : Nat} {j : Nat} {want : Bool} : EV P ti G N ops (⟨some d, .fieldAddr t x f, ty, ps, af, some (j, want)⟩ :: rest) K ⟨b, sl, r⟩ = bindQ (fun q0 => (q0 = want → EV P ti G N ops (⟨some d, .fieldAddr t x f, ty, ps, af, none⟩ :: rest) K ⟨b, sl, r⟩) ∧ (q0 = (!want) → EV P ti G N ops rest K ⟨b, (d, undA) :: sl, r⟩)) (gdB ops ⟨b, sl, r⟩ j want) := EV_guard rfl
theorem EVn_g_fieldAddr {t : TypeId} {x : Operand} {f : Nat} {j : Nat} {want : Bool} : EV P ti G N ops (⟨none, .fieldAddr t x f, ty, ps, af, some (j, want)⟩ :: rest) K ⟨b, sl, r⟩ = bindQ (fun q0 => (q0 = want → EV P ti G N ops (⟨none, .fieldAddr t x f, ty, ps, af, none⟩ :: rest) K ⟨b, sl, r⟩) ∧ (q0 = (!want) → EV P ti G N ops rest K ⟨b, sl, r⟩)) (gdB ops ⟨b, sl, r⟩ j want) := EV_guard rfl
theorem EV_g_field {t : TypeId} {x : Operand} {f : Nat} {j : Nat} {want : Bool} : EV P ti G N ops (⟨some d, .field t x f, ty, ps, af, some (j, want)⟩ :: rest) K ⟨b, sl, r⟩ = bindQ (fun q0 => (q0 = want → EV P ti G N ops (⟨some d, .field t x f, ty, ps, af, none⟩ :: rest) K ⟨b, sl, r⟩) ∧ (q0 = (!want) → EV P ti G N ops rest K ⟨b, (d, undA) :: sl, r⟩)) (gdB ops ⟨b, sl, r⟩ j want) := EV_guard rfl
theorem EVn_g_field {t : TypeId} {x : Operand} {f : Nat} {j : Nat} {want : Bool} : EV P ti G N ops (⟨none, .field t x f, ty, ps, af, some (j, want)⟩ :: rest) K ⟨b, sl, r⟩ = bindQ (fun q0 => (q0 = want → EV P ti G N ops (⟨none, .field t x f, ty, ps, af, none⟩ :: rest) K ⟨b, sl, r⟩) ∧ (q0 = (!want) → EV P ti G N ops rest K ⟨b, sl, r⟩)) (gdB ops ⟨b, sl, r⟩ j want) := EV_guard rfl
theorem EV_g_load {t : TypeId} {x : Operand} {j : Nat} {want : Bool} : EV P ti G N ops (⟨some d, .load t x, ty, ps, af, some (j, want)⟩ :: rest) K ⟨b, sl, r⟩ = bindQ (fun q0 => (q0 = want → EV P ti G N ops (⟨some d, .load t x, ty, ps, af, none⟩ :: rest) K ⟨b, sl, r⟩) ∧ (q0 = (!want) → EV P ti G N ops rest K ⟨b, (d, undA) :: sl, r⟩)) (gdB ops ⟨b, sl, r⟩ j want) := EV_guard rfl
theorem EVn_g_load {t : TypeId} {x : Operand} {j : Nat} {want : Bool} : EV P ti G N ops (⟨none, .load t x, ty, ps, af, some (j, want)⟩ :: rest) K ⟨b, sl, r⟩ = bindQ (fun q0 => (q0 = want → EV P ti G N ops (⟨none, .load t x, ty, ps, af, none⟩ :: rest) K ⟨b, sl, r⟩) ∧ (q0 = (!want) → EV P ti G N ops rest K ⟨b, sl, r⟩)) (gdB ops ⟨b, sl, r⟩ j want) := EV_guard rfl
theorem EV_g_build {t : TypeId} {parts : Array (Nat × Operand)} {j : Nat} {want : Bool} : EV P ti G N ops (⟨some d, .build t parts, ty, ps, af, some (j, want)⟩ :: rest) K ⟨b, sl, r⟩ = bindQ (fun q0 => (q0 = want → EV P ti G N ops (⟨some d, .build t parts, ty, ps, af, none⟩ :: rest) K ⟨b, sl, r⟩) ∧ (q0 = (!want) → EV P ti G N ops rest K ⟨b, (d, undA) :: sl, r⟩)) (gdB ops ⟨b, sl, r⟩ j want) := EV_guard rfl
theorem EVn_g_build {t : TypeId} {parts : Array (Nat × Operand)} {j : Nat} {want : Bool} : EV P ti G N ops (⟨none, .build t parts, ty, ps, af, some (j, want)⟩ :: rest) K ⟨b, sl, r⟩ = bindQ (fun q0 => (q0 = want → EV P ti G N ops (⟨none, .build t parts, ty, ps, af, none⟩ :: rest) K ⟨b, sl, r⟩) ∧ (q0 = (!want) → EV P ti G N ops rest K ⟨b, sl, r⟩)) (gdB ops ⟨b, sl, r⟩ j want) := EV_guard rfl
theorem EV_g_len {as : Array Operand} {ts : Array TypeId} {j : Nat} {want : Bool} : EV P ti G N ops (⟨some d, .call ⟨.builtin .len, as, ts⟩, ty, ps, af, some (j, want)⟩ :: rest) K ⟨b, sl, r⟩ = bindQ (fun q0 => (q0 = want → EV P ti G N ops (⟨some d, .call ⟨.builtin .len, as, ts⟩, ty, ps, af, none⟩ :: rest) K ⟨b, sl, r⟩) ∧ (q0 = (!want) → EV P ti G N ops rest K ⟨b, (d, undA) :: sl, r⟩)) (gdB ops ⟨b, sl, r⟩ j want) := EV_guard rfl
theorem EVn_g_len {as : Array Operand} {ts : Array TypeId} {j : Nat} {want : Bool} : EV P ti G N ops (⟨none, .call ⟨.builtin .len, as, ts⟩, ty, ps, af, some (j, want)⟩ :: rest) K ⟨b, sl, r⟩ = bindQ (fun q0 => (q0 = want → EV P ti G N ops (⟨none, .call ⟨.builtin .len, as, ts⟩, ty, ps, af, none⟩ :: rest) K ⟨b, sl, r⟩) ∧ (q0 = (!want) → EV P ti G N ops rest K ⟨b, sl, r⟩)) (gdB ops ⟨b, sl, r⟩ j want) := EV_guard rfl
theorem EV_g_min {as : Array Operand} {ts : Array TypeId} {j : Nat} {want : Bool} : EV P ti G N ops (⟨some d, .call ⟨.builtin .min, as, ts⟩, ty, ps, af, some (j, want)⟩ :: rest) K ⟨b, sl, r⟩ = bindQ (fun q0 => (q0 = want → EV P ti G N ops (⟨some d, .call ⟨.builtin .min, as, ts⟩, ty, ps, af, none⟩ :: rest) K ⟨b, sl, r⟩) ∧ (q0 = (!want) → EV P ti G N ops rest K ⟨b, (d, undA) :: sl, r⟩)) (gdB ops ⟨b, sl, r⟩ j want) := EV_guard rfl
theorem EVn_g_min {as : Array Operand} {ts : Array TypeId} {j : Nat} {want : Bool} : EV P ti G N ops (⟨none, .call ⟨.builtin .min, as, ts⟩, ty, ps, af, some (j, want)⟩ :: rest) K ⟨b, sl, r⟩ = bindQ (fun q0 => (q0 = want → EV P ti G N ops (⟨none, .call ⟨.builtin .min, as, ts⟩, ty, ps, af, none⟩ :: rest) K ⟨b, sl, r⟩) ∧ (q0 = (!want) → EV P ti G N ops rest K ⟨b, sl, r⟩)) (gdB ops ⟨b, sl, r⟩ j want) := EV_guard rfl
theorem EV_g_max {as : Array Operand} {ts : Array TypeId} {j : Nat} {want : Bool} : EV P ti G N ops (⟨some d, .call ⟨.builtin .max, as, ts⟩, ty, ps, af, some (j, want)⟩ :: rest) K ⟨b, sl, r⟩ = bindQ (fun q0 => (q0 = want → EV P ti G N ops (⟨some d, .call ⟨.builtin .max, as, ts⟩, ty, ps, af, none⟩ :: rest) K ⟨b, sl, r⟩) ∧ (q0 = (!want) → EV P ti G N ops rest K ⟨b, (d, undA) :: sl, r⟩)) (gdB ops ⟨b, sl, r⟩ j want) := EV_guard rfl
theorem EVn_g_max {as : Array Operand} {ts : Array TypeId} {j : Nat} {want : Bool} : EV P ti G N ops (⟨none, .call ⟨.builtin .max, as, ts⟩, ty, ps, af, some (j, want)⟩ :: rest) K ⟨b, sl, r⟩ = bindQ (fun q0 => (q0 = want → EV P ti G N ops (⟨none, .call ⟨.builtin .max, as, ts⟩, ty, ps, af, none⟩ :: rest) K ⟨b, sl, r⟩) ∧ (q0 = (!want) → EV P ti G N ops rest K ⟨b, sl, r⟩)) (gdB ops ⟨b, sl, r⟩ j want) := EV_guard rfl
theorem EV_g_append {as : Array Operand} {ts : Array TypeId} {j : Nat} {want : Bool} : EV P ti G N ops (⟨some d, .call ⟨.builtin .append, as, ts⟩, ty, ps, af, some (j, want)⟩ :: rest) K ⟨b, sl, r⟩ = bindQ (fun q0 => (q0 = want → EV P ti G N ops (⟨some d, .call ⟨.builtin .append, as, ts⟩, ty, ps, af, none⟩ :: rest) K ⟨b, sl, r⟩) ∧ (q0 = (!want) → EV P ti G N ops rest K ⟨b, (d, undA) :: sl, r⟩)) (gdB ops ⟨b, sl, r⟩ j want) := EV_guard rfl
theorem EVn_g_append {as : Array Operand} {ts : Array TypeId} {j : Nat} {want : Bool} : EV P ti G N ops (⟨none, .call ⟨.builtin .append, as, ts⟩, ty, ps, af, some (j, want)⟩ :: rest) K ⟨b, sl, r⟩ = bindQ (fun q0 => (q0 = want → EV P ti G N ops (⟨none, .call ⟨.builtin .append, as, ts⟩, ty, ps, af, none⟩ :: rest) K ⟨b, sl, r⟩) ∧ (q0 = (!want) → EV P ti G N ops rest K ⟨b, sl, r⟩)) (gdB ops ⟨b, sl, r⟩ j want) := EV_guard rfl
theorem EV_g_conv {s t : TypeId} {x : Operand} {j : Nat} {want : Bool} : EV P ti G N ops (⟨some d, .convert s t x, ty, ps, af, some (j, want)⟩ :: rest) K ⟨b, sl, r⟩ = bindQ (fun q0 => (q0 = want → EV P ti G N ops (⟨some d, .convert s t x, ty, ps, af, none⟩ :: rest) K ⟨b, sl, r⟩) ∧ (q0 = (!want) → EV P ti G N ops rest K ⟨b, (d, undA) :: sl, r⟩)) (gdB ops ⟨b, sl, r⟩ j want) := EV_guard rfl
theorem EVn_g_conv {s t : TypeId} {x : Operand} {j : Nat} {want : Bool} : EV P ti G N ops (⟨none, .convert s t x, ty, ps, af, some (j, want)⟩ :: rest) K ⟨b, sl, r⟩ = bindQ (fun q0 => (q0 = want → EV P ti G N ops (⟨none, .convert s t x, ty, ps, af, none⟩ :: rest) K ⟨b, sl, r⟩) ∧ (q0 = (!want) → EV P ti G N ops rest K ⟨b, sl, r⟩)) (gdB ops ⟨b, sl, r⟩ j want) := EV_guard rfl
theorem EV_g_box {t : TypeId} {x : Operand} {j : Nat} {want : Bool} : EV P ti G N ops (⟨some d, .box t x, ty, ps, af, some (j, want)⟩ :: rest) K ⟨b, sl, r⟩ = bindQ (fun q0 => (q0 = want → EV P ti G N ops (⟨some d, .box t x, ty, ps, af, none⟩ :: rest) K ⟨b, sl, r⟩) ∧ (q0 = (!want) → EV P ti G N ops rest K ⟨b, (d, undA) :: sl, r⟩)) (gdB ops ⟨b, sl, r⟩ j want) := EV_guard rfl
theorem EVn_g_box {t : TypeId} {x : Operand} {j : Nat} {want : Bool} : EV P ti G N ops (⟨none, .box t x, ty, ps, af, some (j, want)⟩ :: rest) K ⟨b, sl, r⟩ = bindQ (fun q0 => (q0 = want → EV P ti G N ops (⟨none, .box t x, ty, ps, af, none⟩ :: rest) K ⟨b, sl, r⟩) ∧ (q0 = (!want) → EV P ti G N ops rest K ⟨b, sl, r⟩)) (gdB ops ⟨b, sl, r⟩ j want) := EV_guard rfl
theorem EV_g_alloc {t : TypeId} {j : Nat} {want : Bool} : EV P ti G N ops (⟨some d, .alloc t, ty, ps, af, some (j, want)⟩ :: rest) K ⟨b, sl, r⟩ = bindQ (fun q0 => (q0 = want → EV P ti G N ops (⟨some d, .alloc t, ty, ps, af, none⟩ :: rest) K ⟨b, sl, r⟩) ∧ (q0 = (!want) → EV P ti G N ops rest K ⟨b, (d, undA) :: sl, r⟩)) (gdB ops ⟨b, sl, r⟩ j want) := EV_guard rfl
theorem EVn_g_alloc {t : TypeId} {j : Nat} {want : Bool} : EV P ti G N ops (⟨none, .alloc t, ty, ps, af, some (j, want)⟩ :: rest) K ⟨b, sl, r⟩ = bindQ (fun q0 => (q0 = want → EV P ti G N ops (⟨none, .alloc t, ty, ps, af, none⟩ :: rest) K ⟨b, sl, r⟩) ∧ (q0 = (!want) → EV P ti G N ops rest K ⟨b, sl, r⟩)) (gdB ops ⟨b, sl, r⟩ j want) := EV_guard rfl
theorem EV_g_store {t : TypeId} {a x : Operand} {j : Nat} {want : Bool} : EV P ti G N ops (⟨some d, .store t a x, ty, ps, af, some (j, want)⟩ :: rest) K ⟨b, sl, r⟩ = bindQ (fun q0 => (q0 = want → EV P ti G N ops (⟨some d, .store t a x, ty, ps, af, none⟩ :: rest) K ⟨b, sl, r⟩) ∧ (q0 = (!want) → EV P ti G N ops rest K ⟨b, (d, undA) :: sl, r⟩)) (gdB ops ⟨b, sl, r⟩ j want) := EV_guard rfl
theorem EVn_g_store {t : TypeId} {a x : Operand} {j : Nat} {want : Bool} : EV P ti G N ops (⟨none, .store t a x, ty, ps, af, some (j, want)⟩ :: rest) K ⟨b, sl, r⟩ = bindQ (fun q0 => (q0 = want → EV P ti G N ops (⟨none, .store t a x, ty, ps, af, none⟩ :: rest) K ⟨b, sl, r⟩) ∧ (q0 = (!want) → EV P ti G N ops rest K ⟨b, sl, r⟩)) (gdB ops ⟨b, sl, r⟩ j want) := EV_guard rfl
theorem EV_g_buildSlice {t : TypeId} {n : Nat} {parts : Array (Nat × Operand)} {j : Nat} {want : Bool} : EV P ti G N ops (⟨some d, .buildSlice t n parts, ty, ps, af, some (j, want)⟩ :: rest) K ⟨b, sl, r⟩ = bindQ (fun q0 => (q0 = want → EV P ti G N ops (⟨some d, .buildSlice t n parts, ty, ps, af, none⟩ :: rest) K ⟨b, sl, r⟩) ∧ (q0 = (!want) → EV P ti G N ops rest K ⟨b, (d, undA) :: sl, r⟩)) (gdB ops ⟨b, sl, r⟩ j want) := EV_guard rfl
theorem EVn_g_buildSlice {t : TypeId} {n : Nat} {parts : Array (Nat × Operand)} {j : Nat} {want : Bool} : EV P ti G N ops (⟨none, .buildSlice t n parts, ty, ps, af, some (j, want)⟩ :: rest) K ⟨b, sl, r⟩ = bindQ (fun q0 => (q0 = want → EV P ti G N ops (⟨none, .buildSlice t n parts, ty, ps, af, none⟩ :: rest) K ⟨b, sl, r⟩) ∧ (q0 = (!want) → EV P ti G N ops rest K ⟨b, sl, r⟩)) (gdB ops ⟨b, sl, r⟩ j want) := EV_guard rfl
theorem EV_g_makeSlice {t : TypeId} {l c : Operand} {j : Nat} {want : Bool} : EV P ti G N ops (⟨some d, .makeSlice t l c, ty, ps, af, some (j, want)⟩ :: rest) K ⟨b, sl, r⟩ = bindQ (fun q0 => (q0 = want → EV P ti G N ops (⟨some d, .makeSlice t l c, ty, ps, af, none⟩ :: rest) K ⟨b, sl, r⟩) ∧ (q0 = (!want) → EV P ti G N ops rest K ⟨b, (d, undA) :: sl, r⟩)) (gdB ops ⟨b, sl, r⟩ j want) := EV_guard rfl
theorem EVn_g_makeSlice {t : TypeId} {l c : Operand} {j : Nat} {want : Bool} : EV P ti G N ops (⟨none, .makeSlice t l c, ty, ps, af, some (j, want)⟩ :: rest) K ⟨b, sl, r⟩ = bindQ (fun q0 => (q0 = want → EV P ti G N ops (⟨none, .makeSlice t l c, ty, ps, af, none⟩ :: rest) K ⟨b, sl, r⟩) ∧ (q0 = (!want) → EV P ti G N ops rest K ⟨b, sl, r⟩)) (gdB ops ⟨b, sl, r⟩ j want) := EV_guard rfl
theorem EV_gcall {x : Operand} {as : Array Operand} {ts : Array TypeId} {d : Option Tmp} {j : Nat} {want : Bool} : EV P ti G N ops (⟨d, .call ⟨.value x, as, ts⟩, ty, ps, af, some (j, want)⟩ :: rest) K ⟨b, sl, r⟩ = bindQ (fun q0 =>
    (q0 = want → HO P ti G N ops (⟨d, .call ⟨.value x, as, ts⟩, ty, ps, af, some (j, want)⟩ :: rest) K ⟨b, sl, r⟩) ∧ (q0 = (!want) → EV P ti G N ops rest K (St.putR ⟨b, sl, r⟩ d undA r))) (gdB ops ⟨b, sl, r⟩ j want) := EV_guard_call
theorem R_if {K : KD} {c : Operand} {x y : Code} {σ : St} : R P ti G N (.cond c x y) K σ = bindQ (fun t => (t = true → R P ti G N x K σ) ∧ (t = false → R P ti G N y K σ)) (boolOfA (σ.ev G c)) := R_cond
theorem A_rets {res : List ResultVar} {O : AV → Rs → Prop} {σ : St} : A P ti G N (.ret res O) .ret σ = bindQ (fun v => O v σ.r) (resA ti σ res) := A_ret
theorem A_rets_normal {res : List ResultVar} {O : AV → Rs → Prop} {σ : St} : A P ti G N (.ret res O) .normal σ = bindQ (fun v => O v σ.r) (resA ti σ res) := A_ret_normal
end
end Go.Proofs.YteeknmjjpcbphaaDoor
