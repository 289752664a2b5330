/- The frame of these proofs, part K: an operation that only computes. -/
import Derived.Test.YteeknmjjpcbphaaDoorCJ
set_option linter.unusedVariables false
set_option linter.unusedSimpArgs false
namespace Go.Proofs.YteeknmjjpcbphaaDoor
open Go

def evCall (ti : Ti) (ρ : Operand → AV) (r : Rs) (c : Call) : Option AV :=
  match c.callee with
  | .builtin .len => match c.args.toList, c.argTypes.toList with
    | [x], [t] => (lenAV ti r t (ρ x)).map fun n => .d (.c (.int .i64 n))
    | _, _ => none
  | .builtin .min => match c.args.toList with
    | [x, y] => minAV false (ρ x) (ρ y)
    | _ => none
  | .builtin .max => match c.args.toList with
    | [x, y] => minAV true (ρ x) (ρ y)
    | _ => none
  | _ => none
def evNC (r : Rs) : AV → Option AV
  | .ptr i off => (objOf r i).map fun _ => .ptr i off
  | .el xs => some (.el xs)
  | .fn (.func f) a b => some (.fn (.func f) a b)
  | _ => none
def evPick (c a b : AV) : Option AV := match c with
  | .d (.c (.bool t)) => some (if t = true then a else b)
  | _ => none
def evUn (op : UnOp) : AV → Option AV
  | .d (.c v) => (vUn op v).bind oneC
  | _ => none
def evExt (i : Nat) : AV → Option AV
  | .tup l => l[i]?
  | _ => none
def evP (ti : Ti) (ρ : Operand → AV) (r : Rs) : Op → Option AV
  | .move x => some (ρ x)
  | .assign x => some (ρ x)
  | .pick c a b => evPick (ρ c) (ρ a) (ρ b)
  | .binOp op t x y _ => evBin ti r op t (ρ x) (ρ y)
  | .unOp op _ x => evUn op (ρ x)
  | .convert s d x => evConv ti s d (ρ x)
  | .nilCheck x => evNC r (ρ x)
  | .extract t i => evExt i (ρ t)
  | .slice t x lo hi mx => match optI (lo.map ρ), optI (hi.map ρ), optI (mx.map ρ) with
    | some l, some h, some m => evSlice ti r t (ρ x) l h m
    | _, _, _ => none
  | .index t x i => match intOfA (ρ i) with
    | some n => evIndex ti t (ρ x) n
    | none => none
  | .indexAddr t x i => match intOfA (ρ i) with
    | some n => evIndexAddr ti r t (ρ x) n
    | none => none
  | .fieldAddr t x f => evFieldAddr ti r t (ρ x) f
  | .field t x f => evField ti t (ρ x) f
  | .load t x => evLoad ti r t (ρ x)
  | .makeFunc f a b => some (.fn f (a.toList.map ρ) (b.toList.map ρ))
  | .build t parts => evBuild ti r t (parts.toList.map fun p => (p.1, ρ p.2))
  | .call c => evCall ti ρ r c
  | _ => none

theorem optI_sound' {E : Env} {r : Rs} {w : World} {ρ : Operand → AV} {α : Operand → Value} (hev : ∀ x, RA E r w (ρ x) (α x)) {o : Option Operand} {i : Option Int} (e : optI (o.map ρ) = some i) : IsI (o.map α) i := by
  cases o with
  | none => simp only [Option.map_none, optI] at e; injection e with e; subst e; rfl
  | some o =>
    simp only [Option.map_some, optI, Option.map_eq_some_iff] at e
    obtain ⟨n, hn, rfl⟩ := e
    obtain ⟨k, hk⟩ := intOfA_sound (hev o) hn
    exact ⟨k, by simp [hk]⟩
theorem RAL_ev {E : Env} {r : Rs} {w : World} {ρ : Operand → AV} {α : Operand → Value} (hev : ∀ x, RA E r w (ρ x) (α x)) : ∀ l : List Operand, RAL E r w (l.map ρ) (l.map α)
  | [] => by simp [RAL]
  | x :: l => by simp only [List.map_cons, RAL]; exact ⟨_, _, rfl, hev x, RAL_ev hev l⟩
theorem RP_ev {E : Env} {r : Rs} {w : World} {ρ : Operand → AV} {α : Operand → Value} (hev : ∀ x, RA E r w (ρ x) (α x)) : ∀ l : List (Nat × Operand), RP E r w (l.map fun p => (p.1, ρ p.2)) (l.map fun p => (p.1, α p.2))
  | [] => by simp [RP]
  | x :: l => by simp only [List.map_cons, RP]; exact ⟨_, _, rfl, hev x.2, RP_ev hev l⟩
theorem toList_one {α : Type} {a : Array α} {x : α} (h : a.toList = [x]) : a = #[x] := by cases a; simp_all
theorem toList_two {α : Type} {a : Array α} {x y : α} (h : a.toList = [x, y]) : a = #[x, y] := by cases a; simp_all

theorem evP_sound {P : Program} {ti : Ti} (hti : TiOK P ti) {G : Nat → List D} {E : Env} {r : Rs} {w : World} (hG : Good G E r w) {ρ : Operand → AV} {α : Operand → Value} (hev : ∀ x, RA E r w (ρ x) (α x))
    {o : Oper} {v : AV} (e : evP ti ρ r o.op = some v) : ∃ z, (execOp α o).run P w = .ok (.value z) w ∧ RA E r w v z := by
  cases ho : o.op <;> rw [ho] at e <;> simp only [evP, reduceCtorEq] at e
  case move x => injection e with e; subst e; exact ⟨_, by simp [execOp, ho], hev x⟩
  case assign x => injection e with e; subst e; exact ⟨_, by simp [execOp, ho], hev x⟩
  case pick c a b =>
    unfold evPick at e
    split at e
    · rename_i t ht
      injection e with e; subst e
      have hc := hev c
      rw [ht] at hc
      simp only [RA, RD] at hc
      refine ⟨if t = true then α a else α b, by simp [execOp, ho, hc.1, asBool], ?_⟩
      cases t
      · simpa using hev b
      · simpa using hev a
    · cases e
  case binOp op t x y ty =>
    obtain ⟨z, h1, h2, h3⟩ := evBin_sound hti (hev x) (hev y) e x y
    exact ⟨z, by simp [execOp, ho, h1, h2], h3⟩
  case unOp op t x =>
    unfold evUn at e
    split at e
    · rename_i v' hv'
      simp only [Option.bind_eq_some_iff] at e
      obtain ⟨u, hu, e⟩ := e
      obtain ⟨h1, e⟩ := chk_some e
      injection e with e; subst e
      have hx := hev x
      rw [hv'] at hx
      simp only [RA, RD] at hx
      exact ⟨u, by simp [execOp, ho, hx.1, vUn_run hu w], by simp [RA, RD, h1]⟩
    · cases e
  case convert s d x =>
    obtain ⟨z, h1, h2⟩ := evConv_sound hti (hev x) e
    exact ⟨z, by simp [execOp, ho, h1], h2⟩
  case nilCheck x =>
    unfold evNC at e
    have hx := hev x
    split at e
    · rename_i i off hio
      simp only [Option.map_eq_some_iff] at e
      obtain ⟨l, hl, rfl⟩ := e
      rw [hio] at hx
      have hx' := hx
      simp only [RA] at hx'
      obtain ⟨b, hb, hp⟩ := hx'.2 l (objOf_some hl)
      exact ⟨α x, by simp [execOp, ho, hp], hx⟩
    · rename_i xs hxs
      injection e with e; subst e
      rw [hxs] at hx
      have hx' := hx
      simp only [RA] at hx'
      obtain ⟨ad, hp, _⟩ := hx'
      exact ⟨α x, by simp [execOp, ho, hp], hx⟩
    · rename_i f a b hf
      injection e with e; subst e
      rw [hf] at hx
      have hx' := hx
      simp only [RA] at hx'
      obtain ⟨vs, us, hp, _⟩ := hx'
      exact ⟨α x, by simp [execOp, ho, hp], hx⟩
    · cases e
  case extract t i =>
    unfold evExt at e
    split at e
    · rename_i l hl
      have ht := hev t
      rw [hl] at ht
      simp only [RA] at ht
      obtain ⟨vs, hp, hr⟩ := ht
      obtain ⟨z, hz, hzr⟩ := RAL_get l _ hr i v e
      have hz' : vs[i]? = some z := by simpa using hz
      exact ⟨z, by simp [execOp, ho, hp, Instr.extract, hz'], hzr⟩
    · cases e
  case slice t x lo hi mx =>
    split at e
    · rename_i l h m hl hh hm
      obtain ⟨z, h1, h2⟩ := evSlice_sound hti hG (hev x) (optI_sound' hev hl) (optI_sound' hev hh) (optI_sound' hev hm) e
      exact ⟨z, by simp [execOp, ho, h1], h2⟩
    · cases e
  case index t x i =>
    split at e
    · rename_i n hn
      obtain ⟨k, hk⟩ := intOfA_sound (hev i) hn
      obtain ⟨z, h1, h2⟩ := evIndex_sound hti (kd := k) (hev x) e
      exact ⟨z, by simp [execOp, ho, hk, h1], h2⟩
    · cases e
  case indexAddr t x i =>
    split at e
    · rename_i n hn
      obtain ⟨k, hk⟩ := intOfA_sound (hev i) hn
      obtain ⟨z, h1, h2⟩ := evIndexAddr_sound hti (kd := k) (hev x) e
      exact ⟨z, by simp [execOp, ho, hk, h1], h2⟩
    · cases e
  case fieldAddr t x f =>
    obtain ⟨z, h1, h2⟩ := evFieldAddr_sound hti (hev x) e
    exact ⟨z, by simp [execOp, ho, h1], h2⟩
  case field t x f =>
    obtain ⟨z, h1, h2⟩ := evField_sound hti (hev x) e
    exact ⟨z, by simp [execOp, ho, h1], h2⟩
  case load t x =>
    obtain ⟨z, h1, h2⟩ := evLoad_sound (P := P) hti hG (hev x) e
    exact ⟨z, by simp [execOp, ho, h1 w (Keeps.refl w)], h2⟩
  case makeFunc f a b =>
    injection e with e; subst e
    refine ⟨.func f (a.map α) (b.map α), by simp [execOp, ho, Instr.makeFunc], ?_⟩
    simp only [RA]
    exact ⟨_, _, rfl, by simpa using RAL_ev hev a.toList, by simpa using RAL_ev hev b.toList⟩
  case build t parts =>
    obtain ⟨z, h1, h2⟩ := evBuild_sound hti hG (pv := parts.map fun p => (p.1, α p.2)) (by simpa using RP_ev hev parts.toList) e
    exact ⟨z, by simp [execOp, ho, h1], h2⟩
  case call c =>
    unfold evCall at e
    split at e
    · rename_i hc
      split at e
      · rename_i x t hx ht
        simp only [Option.map_eq_some_iff] at e
        obtain ⟨n, hn, rfl⟩ := e
        have h1 := lenAV_sound (P := P) (ty := o.type) hti hG (hev x) hn
        exact ⟨.int .i64 n, by simp [execOp, ho, resolve, hc, toList_one hx, toList_one ht, invoke, builtin, h1], by simp [RA, RD, Value.oneCell']⟩
      · cases e
    · rename_i hc
      split at e
      · rename_i x y hx
        obtain ⟨z, h1, h2⟩ := minAV_sound (P := P) (mx := false) (ty := o.type) (ts := c.argTypes) (hev x) (hev y) e
        simp only [Bool.false_eq_true, if_false] at h1
        exact ⟨z, by simp [execOp, ho, resolve, hc, toList_two hx, invoke, builtin, h1], h2⟩
      · cases e
    · rename_i hc
      split at e
      · rename_i x y hx
        obtain ⟨z, h1, h2⟩ := minAV_sound (P := P) (mx := true) (ty := o.type) (ts := c.argTypes) (hev x) (hev y) e
        simp only [if_true] at h1
        exact ⟨z, by simp [execOp, ho, resolve, hc, toList_two hx, invoke, builtin, h1], h2⟩
      · cases e
    · cases e
end Go.Proofs.YteeknmjjpcbphaaDoor
