/- The frame of these proofs, part F: each operation that only computes: what it comes to, and that it does. -/
import Derived.Test.YteeknmjjpcbphaaDoorCE
import Derived.Laws.BytesString
set_option linter.unusedVariables false
set_option linter.unusedSimpArgs false
namespace Go.Proofs.YteeknmjjpcbphaaDoor
open Go

theorem ti_u {P : Program} {ti : Ti} (hti : TiOK P ti) {t : TypeId} {i : TI} (h : ti t = some i) : P.underlying t = some i.u := (hti t i h).1
theorem ti_run {P : Program} {ti : Ti} (hti : TiOK P ti) {t : TypeId} {i : TI} (h : ti t = some i) (w : World) : (underlying t).run P w = .ok i.u w := run_underlying (ti_u hti h) w
theorem ti_size {P : Program} {ti : Ti} (hti : TiOK P ti) {t : TypeId} {i : TI} (h : ti t = some i) (w : World) : (sizeOf t).run P w = .ok i.size w := by
  obtain ⟨_, f, hf, hs, _⟩ := hti t i h
  simp [sizeOf, typeInfo, hf, hs]
theorem ti_zero {P : Program} {ti : Ti} (hti : TiOK P ti) {t : TypeId} {i : TI} (h : ti t = some i) (w : World) : (zeroValue t).run P w = .ok i.zero w := by
  obtain ⟨_, f, hf, _, _, hz, _⟩ := hti t i h
  simp [zeroValue, typeInfo, hf, hz]
theorem ti_agg {P : Program} {ti : Ti} (hti : TiOK P ti) {t : TypeId} {i : TI} (h : ti t = some i) (w : World) : (isAgg t).run P w = .ok (isAggD i.u) w := by
  simp only [isAgg, Sem.run_bind, ti_run hti h, Result.andThen_ok]
  cases i.u <;> simp [isAggD]

/-- The size of a slice type's elements. -/
def szOf (ti : Ti) (t : TypeId) : Option Nat := match ti t with
  | some ⟨.slice e, _, _, _⟩ => (ti e).map (·.size)
  | _ => none
theorem szOf_sound {ti : Ti} {t : TypeId} {sz : Nat} (h : szOf ti t = some sz) : ∃ e s b z i, ti t = some ⟨.slice e, s, b, z⟩ ∧ ti e = some i ∧ i.size = sz := by
  unfold szOf at h
  split at h
  · rename_i e s b z he
    simp only [Option.map_eq_some_iff] at h
    obtain ⟨i, hi, rfl⟩ := h
    exact ⟨e, s, b, z, i, he, hi, rfl⟩
  · cases h

/-! ### Conversions -/
def toBytes : List D → Option (List UInt8)
  | [] => some []
  | .c (.int .u8 n) :: l => (toBytes l).map (UInt8.ofNat n.toNat :: ·)
  | _ => none
def bD (l : List UInt8) : List D := l.map fun b => .c (.int .u8 b.toNat)
theorem toBytes_bD (l : List UInt8) : toBytes (bD l) = some l := by
  induction l with
  | nil => rfl
  | cons b l ih => simp only [bD] at ih; simp [bD, toBytes, ih]
def evConv (ti : Ti) (src dst : TypeId) (x : AV) : Option AV :=
  match ti src, ti dst with
  | some s, some t => match t.u, x with
    | .int k, .d (.c (.int _ n)) => some (.d (.c (.int k (k.wrap n))))
    | .string, .d (.c (.string s)) => some (.d (.c (.string s)))
    | .string, x => match s.u with
      | .slice e => match ti e, slOf 1 x with
        | some ⟨.int .u8, _, _, _⟩, some (_, n, xs) => (toBytes xs).map fun l => .d (.c (.string ⟨l.toArray⟩))
        | _, _ => none
      | _ => none
    | _, _ => none
  | _, _ => none

theorem toBytes_cells {T : Nat → Nat} {w : World} : ∀ (xs : List D) (l : List UInt8) (vs : List Value), toBytes xs = some l → RL T w xs vs → ∃ ns : List Int, vs = ns.map (Value.int .u8) ∧ l = ns.map fun n => UInt8.ofNat n.toNat
  | [], l, vs, h, hr => by
    simp only [toBytes] at h; injection h with h; subst h
    simp only [RL] at hr
    exact ⟨[], by simp [hr], rfl⟩
  | x :: xs, l, vs, h, hr => by
    simp only [RL] at hr
    obtain ⟨v, rest, rfl, _, hd, hr⟩ := hr
    unfold toBytes at h
    split at h
    · rename_i heq; cases heq
    · rename_i n ys heq
      injection heq with h1 h2
      subst h1; subst h2
      simp only [Option.map_eq_some_iff] at h
      obtain ⟨l', hl', rfl⟩ := h
      obtain ⟨ns, hns, hl2⟩ := toBytes_cells _ l' rest hl' hr
      simp only [RD] at hd
      exact ⟨n :: ns, by simp [hd.1, hns], by simp [hl2]⟩
    · cases h
theorem foldl_push : ∀ (ns : List Int) (s : ByteArray), ns.foldl (fun r n => r.push (UInt8.ofNat n.toNat)) s = ⟨s.data ++ (ns.map fun n => UInt8.ofNat n.toNat).toArray⟩
  | [], s => by cases s; simp
  | n :: ns, s => by
    rw [List.foldl_cons, foldl_push ns]
    cases s
    simp [ByteArray.push]
theorem bytesToString_run {P : Program} {T : Nat → Nat} {w : World} {xs : List D} {l : List UInt8} {A : Option Addr} {n c : Nat} (hl : xs.length = n) (h : toBytes xs = some l) (hr : xs = [] ∨ ∃ ad, A = some ad ∧ RM T w xs ad) :
    (Conv.bytesToString (.slice A n c)).run P w = .ok (.string ⟨l.toArray⟩) w := by
  cases A with
  | none =>
    have hx : xs = [] := by
      rcases hr with h0 | ⟨ad, h0, _⟩
      · exact h0
      · cases h0
    subst hx
    simp only [toBytes] at h; injection h with h; subst h
    rfl
  | some ad =>
    have hm : RM T w xs ad := by
      rcases hr with h0 | ⟨ad', h0, hm⟩
      · subst h0; simp [RM]
      · injection h0 with h0; subst h0; exact hm
    obtain ⟨us, hus, hcell⟩ := RM_values xs ad hm
    have hlen := RL_length xs us hus
    obtain ⟨ns, rfl, rfl⟩ := toBytes_cells xs l us h hus
    have hload := run_loadCells_list (P := P) w ad (ns.map (Value.int .u8)) hcell
    rw [hlen, hl] at hload
    rw [run_bytesToString w ad n c ns hload, foldl_push]
    congr 3
    show #[] ++ _ = _
    simp
theorem evConv_sound {P : Program} {ti : Ti} (hti : TiOK P ti) {E : Env} {r : Rs} {w : World} {src dst : TypeId} {x v : AV} {y : Value} (hx : RA E r w x y) (h : evConv ti src dst x = some v) :
    ∃ z, (convert src dst y).run P w = .ok z w ∧ RA E r w v z := by
  unfold evConv at h
  split at h
  · rename_i s t hs ht
    have hus := ti_u hti hs
    have hut := ti_u hti ht
    split at h
    · rename_i k _ n hu
      injection h with h; subst h
      simp only [RA, RD] at hx
      obtain ⟨rfl, _⟩ := hx
      rw [hu] at hut
      exact ⟨.int k (k.wrap n), by simp [convert, run_underlying hus, run_underlying hut, Conv.intToInt], by simp [RA, RD, Value.oneCell']⟩
    · rename_i _ b hu
      injection h with h; subst h
      simp only [RA, RD] at hx
      obtain ⟨rfl, _⟩ := hx
      rw [hu] at hut
      exact ⟨.string b, by simp [convert, run_underlying hus, run_underlying hut], by simp [RA, RD, Value.oneCell']⟩
    · rename_i hu _
      split at h
      · rename_i e hse
        split at h
        · rename_i _ _ _ _ m n xs he hsl
          simp only [Option.map_eq_some_iff] at h
          obtain ⟨l, hl, rfl⟩ := h
          obtain ⟨hlen, A, c, rfl, hc, hr, _⟩ := slOf_sound hx hsl
          rw [hu] at hut
          rw [hse] at hus
          have hue := ti_u hti he
          refine ⟨.string ⟨l.toArray⟩, ?_, by simp [RA, RD, Value.oneCell']⟩
          rw [run_convert_bytes_string w src dst e A n c hus hue hut]
          exact bytesToString_run (by simpa using hlen) hl hr
        · cases h
      · cases h
    · cases h
  · cases h

/-! ### Slicing -/
def intOfA : AV → Option Int
  | .d (.c (.int _ n)) => some n
  | _ => none
def optI : Option AV → Option (Option Int)
  | none => some none
  | some a => (intOfA a).map some
/-- 's[lo:hi:mx]' of a slice of 'n' elements, of which it is known whether it is full. -/
def cutSl (sz : Nat) (m : Option Mo) (n : Nat) (xs : List D) (lo hi mx : Option Int) : Option AV :=
  let l := lo.getD 0
  let h := hi.getD n
  let ys := (xs.drop (l.toNat * sz)).take ((h.toNat - l.toNat) * sz)
  match mx with
  | some k => match hi with
    | some h => chk (0 ≤ l ∧ l ≤ h ∧ h ≤ n ∧ k = h) (some (.sl .full sz (h.toNat - l.toNat) ys))
    | none => none
  | none => match hi, m with
    | none, some .full => chk (0 ≤ l ∧ l ≤ n) (some (.sl .full sz (n - l.toNat) (xs.drop (l.toNat * sz))))
    | none, _ => chk (0 ≤ l ∧ l ≤ n) (some (.d (.sl sz (n - l.toNat) (xs.drop (l.toNat * sz)))))
    | some h, some (.own _) => chk (0 ≤ l ∧ l ≤ h ∧ h ≤ n) (some (.sl (.sp (xs.drop (h.toNat * sz))) sz (h.toNat - l.toNat) ys))
    | some h, some (.sp zs) => chk (0 ≤ l ∧ l ≤ h ∧ (h.toNat - n) * sz ≤ zs.length ∧ 0 < sz) (some (.d (.sl sz (h.toNat - l.toNat) (((xs ++ zs).drop (l.toNat * sz)).take ((h.toNat - l.toNat) * sz)))))
    | some h, _ => chk (0 ≤ l ∧ l ≤ h ∧ h ≤ n) (some (.d (.sl sz (h.toNat - l.toNat) ys)))
theorem RM_cut {T : Nat → Nat} {w : World} {xs : List D} {A : Option Addr} {sz n l h : Nat} (hlen : xs.length = n * sz) (hr : xs = [] ∨ ∃ ad, A = some ad ∧ RM T w xs ad) (h1 : l ≤ h) (h2 : h ≤ n) (m : Nat) (hm : h ≤ m) :
    ((xs.drop (l * sz)).take ((h - l) * sz)).length = (h - l) * sz ∧
      ((xs.drop (l * sz)).take ((h - l) * sz) = [] ∨ ∃ ad, (if m = l then A else A.map (·.add (l * sz))) = some ad ∧ RM T w ((xs.drop (l * sz)).take ((h - l) * sz)) ad) := by
  have hle : (h - l) * sz ≤ xs.length - l * sz := by
    rw [hlen, ← Nat.sub_mul]
    exact Nat.mul_le_mul_right _ (by omega)
  refine ⟨by rw [List.length_take, List.length_drop]; omega, ?_⟩
  by_cases hm' : m = l
  · left
    have : h - l = 0 := by omega
    simp [this]
  · rcases hr with h0 | ⟨ad, rfl, hrm⟩
    · left; simp [h0]
    · right
      rw [if_neg hm']
      exact ⟨ad.add (l * sz), rfl, RM_take _ _ (RM_drop xs ad hrm _) _⟩
theorem drop_take_all {xs : List D} {sz n l : Nat} (hlen : xs.length = n * sz) : (xs.drop (l * sz)).take ((n - l) * sz) = xs.drop (l * sz) := by
  apply List.take_of_length_le
  rw [List.length_drop, hlen, Nat.sub_mul]
  exact Nat.le_refl _
theorem bound_run {P : Program} {w : World} {k : IntKind} {i : Int} {y : Nat} (c : BoundsCode) (h0 : 0 ≤ i) (h1 : i ≤ y) : (Instr.sliceBound (.int k i) y c).run P w = .ok i.toNat w := by
  simp [Instr.sliceBound, asIntOf, h0, h1]
/-- An integer that stands in a slot, or none. -/
def IsI (o : Option Value) (i : Option Int) : Prop := match i with
  | none => o = none
  | some n => ∃ k, o = some (.int k n)
theorem bounds_run {P : Program} {w : World} {isS : Bool} {len cap : Nat} {lo hi mx : Option Value} {l h k : Option Int} (hlo : IsI lo l) (hhi : IsI hi h) (hmx : IsI mx k)
    (hc : len ≤ cap) (h0 : 0 ≤ l.getD 0) (h1 : l.getD 0 ≤ h.getD len) (h2 : h.getD len ≤ cap) (h3 : ∀ m, k = some m → h.getD len ≤ m ∧ m ≤ cap ∧ h.isSome = true) :
    (Instr.sliceBounds isS len cap lo hi mx).run P w = .ok ((l.getD 0).toNat, (h.getD len).toNat, (k.getD cap).toNat) w := by
  unfold Instr.sliceBounds
  cases k with
  | none =>
    simp only [IsI] at hmx; subst hmx
    cases h with
    | none =>
      simp only [IsI] at hhi; subst hhi
      cases l with
      | none => simp only [IsI] at hlo; subst hlo; simp
      | some n =>
        simp only [IsI] at hlo; obtain ⟨kk, rfl⟩ := hlo
        simp only [Option.getD_some, Option.getD_none] at h0 h1
        simp [bound_run _ h0 h1]
    | some m =>
      simp only [IsI] at hhi; obtain ⟨kk', rfl⟩ := hhi
      simp only [Option.getD_some] at h1 h2
      cases l with
      | none =>
        simp only [IsI] at hlo; subst hlo
        simp only [Option.getD_none] at h1
        simp [bound_run _ h1 h2]
      | some n =>
        simp only [IsI] at hlo; obtain ⟨kk, rfl⟩ := hlo
        simp only [Option.getD_some] at h0 h1
        have hm : 0 ≤ m := by omega
        have hnm : n ≤ (m.toNat : Int) := by omega
        simp [bound_run _ hm h2, bound_run _ h0 hnm]
  | some q =>
    obtain ⟨h3a, h3b, h3c⟩ := h3 q rfl
    simp only [IsI] at hmx; obtain ⟨kk, rfl⟩ := hmx
    cases h with
    | none => simp at h3c
    | some m =>
      simp only [IsI] at hhi; obtain ⟨kk', rfl⟩ := hhi
      simp only [Option.getD_some] at h1 h2 h3a
      have hq : 0 ≤ q := by
        cases l with
        | none => simp only [Option.getD_none] at h1; omega
        | some n => simp only [Option.getD_some] at h0 h1; omega
      have hmq : m ≤ (q.toNat : Int) := by omega
      cases l with
      | none =>
        simp only [IsI] at hlo; subst hlo
        simp only [Option.getD_none] at h1
        simp [bound_run _ hq h3b, bound_run _ h1 hmq]
      | some n =>
        simp only [IsI] at hlo; obtain ⟨kk, rfl⟩ := hlo
        simp only [Option.getD_some] at h0 h1
        have hm : 0 ≤ m := by omega
        have hnm : n ≤ (m.toNat : Int) := by omega
        simp [bound_run _ hq h3b, bound_run _ hm hmq, bound_run _ h0 hnm]
end Go.Proofs.YteeknmjjpcbphaaDoor
