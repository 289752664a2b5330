/- The frame of these proofs, part ZC: from a contract to the statement: what comes in is opened, what is left is read again. -/
import Derived.Test.YteeknmjjpcbphaaDoorCZF
import Derived.ReadAgain
import Derived.ChangeSame
import Derived.ChangeArms
import Derived.WideShapes
import Derived.SizedLaws
import Derived.JoinedCond
import Derived.Deep.CondSized
import Derived.Deep.Slices
import Derived.RowKit
import Derived.ProofKit
import Derived.OpenShut
set_option linter.unusedVariables false
set_option linter.unusedSimpArgs false
namespace Go.Proofs.YteeknmjjpcbphaaDoor
open Go Go.ChangeShapes Go.WideShapes

/-! ### Memory that lay there before the call -/
def oldT (W : World) : Nat → Nat := fun b => match W.heap[b]? with
  | some (.cells c _ _) => c.size
  | _ => 0
theorem old_cell {W : World} {a : Addr} {v : Value} (h : W.cell? a = some v) : a.off < oldT W a.block := by
  unfold World.cell? at h
  unfold oldT
  split at h
  · rename_i c _ _ hc
    rw [hc]
    simp only
    split at h
    · cases h
    · exact (Array.getElem?_eq_some_iff.1 h).1
  · cases h
def env0 (W : World) : Env := ⟨oldT W, fun _ => none⟩
theorem good0 {W : World} {G : Nat → List D} (hg : ∀ g, RM (oldT W) W (G g) ⟨g, 0, none⟩) : Good G (env0 W) [] W := by
  refine ⟨fun i k b hi => by simp at hi, fun i l hi => by simp at hi, fun i l hi => by simp at hi, fun i j x y b hi => by simp at hi, fun b hb => ?_, hg⟩
  show oldT W b = 0
  unfold oldT
  rw [Array.getElem?_eq_none (by simpa using hb)]

/-- All that was there is as it was. -/
structure Kept (W W' : World) : Prop where
  os : W'.os = W.os
  output : W'.output = W.output
  size : W.heap.size ≤ W'.heap.size
  block : ∀ b, b < W.heap.size → W'.heap[b]? = W.heap[b]?
theorem AC.calls {P : Program} {G : Nat → List D} {f : FuncId} {args : List AV} {v0 : Value} (h : AC P G f args [] (fun v r' => v = .d (.c v0) ∧ r' = [])) {W : World} {vals : Array Value} (hg : ∀ g, RM (oldT W) W (G g) ⟨g, 0, none⟩)
    (ha : RAL (env0 W) [] W args vals.toList) : Calls P f vals W fun e W' => e = .returned v0 ∧ Kept W W' := by
  refine (h.2 (env0 W) W vals (good0 hg) ha).mono fun e W' ⟨v, x, r', E', he, ⟨hv, hr⟩, hx, _, hS⟩ => ?_
  subst hv; subst hr
  simp only [RA, RD] at hx
  refine ⟨by rw [he, hx.1], hS.os, hS.output, hS.size, fun b hb => (hS.block b hb ?_).1⟩
  rintro ⟨i, y, hi, _⟩
  simp at hi

section
variable {H : Type} {enc : TypeId × Value → H} {P : Program} {W W' : World}
theorem Kept.cell (h : Kept W W') {a : Addr} (ha : a.block < W.heap.size) : W'.cell? a = W.cell? a := by
  unfold World.cell?; rw [h.block _ ha]
theorem Kept.frozen (h : Kept W W') {a : Addr} (ha : a.block < W.heap.size) : W'.frozen? a = W.frozen? a := by
  unfold World.frozen?; rw [h.block _ ha]
theorem Kept.same (h : Kept W W') {p : MemPlace} (hp : p.block < W.heap.size) : W.sameAt W' p := by
  cases p with
  | cell b off => exact h.cell (a := ⟨b, off, none⟩) hp
  | map b => exact h.block b hp
theorem Kept.keptBut (h : Kept W W') (may : MemPlace → Prop) : W.keptBut W' may := by
  refine ⟨h.os, h.output, fun i hi => ?_⟩
  rw [h.block i hi]
  split <;> simp_all
theorem TrodAll_carry {base : Nat} {sp : Nat → Bool} {held : Bool} : ∀ {ts : List TypeId} {vs : List Value} {ds : List (DataW H)} {ps : List MemPlace}, DataW.TrodAll enc P W base sp held ts vs ds ps → (∀ p ∈ ps, W.sameAt W' p) → DataW.TrodAll enc P W' base sp held ts vs ds ps
  | [], [], [], _, h, _ => h
  | _ :: _, _ :: _, _ :: _, _, ⟨p, q, ⟨n, h1⟩, h2, e⟩, hs =>
    ⟨p, q, ⟨n, DataW.trod_carry n _ _ _ h1 (fun x hx => hs x (by rw [e]; exact List.mem_append_left _ hx))⟩, TrodAll_carry h2 (fun x hx => hs x (by rw [e]; exact List.mem_append_right _ hx)), e⟩
theorem var_kept (h : Kept W W') {n : String} {cs : Array Value} (hv : W.var? P n = some cs) : W'.var? P n = some cs := by
  unfold World.var? at hv ⊢
  simp only [Option.bind_eq_some_iff] at hv ⊢
  obtain ⟨g, hg, hv⟩ := hv
  refine ⟨g, hg, ?_⟩
  have hb : g < W.heap.size := by
    rcases Nat.lt_or_ge g W.heap.size with h1 | h1
    · exact h1
    · simp [Array.getElem?_eq_none h1] at hv
  rw [h.block g hb]
  exact hv
theorem TrodVars_kept {T : TypeId → Prop} (K : Kids P T) (hz : ∀ t e, T t → P.underlying t = some (.slice e) → 0 < P.cellsOf e) (hk : Kept W W') {sp : Nat → Bool} : ∀ {ns : List String} {ds : List (DataW H)} {ps : List MemPlace},
    (∀ n ∈ ns, ∀ g t, P.globalNamed n = some g → (P.globals[g]?).map (·.type) = some t → T t) → DataW.TrodVars enc P W (fun _ => true) ns ds ps → (∀ p ∈ ps, p.block < W.heap.size) → (∀ p ∈ ps, sp p.block = true) → DataW.TrodVars enc P W' sp ns ds ps
  | [], [], ps, _, h, _, _ => h
  | n :: ns, d :: ds, ps, hT, ⟨g, t, cs, fuel, p, q, h1, h2, h3, h4, h5, e⟩, hlt, hs => by
    have m1 : ∀ x ∈ p, x ∈ ps := fun x hx => by rw [e]; simp [hx]
    have m2 : ∀ x ∈ q, x ∈ ps := fun x hx => by rw [e]; simp [hx]
    refine ⟨g, t, cs, fuel, p, q, h1, h2, var_kept hk h3, ?_, TrodVars_kept K hz hk (fun n hn => hT n (by simp [hn])) h5 (fun x hx => hlt x (m2 x hx)) (fun x hx => hs x (m2 x hx)), e⟩
    exact DataW.trod_respare K hz fuel t cs.toList _ (hT n (by simp) g t h1 h2) (DataW.trod_carry fuel t _ _ h4 (fun x hx => hk.same (hlt x (m1 x hx)))) (fun x hx => hs x (m1 x hx))
/-- What the statement asks behind the call. -/
theorem post_of_kept {T : TypeId → Prop} (K : Kids P T) (hz : ∀ t e, T t → P.underlying t = some (.slice e) → 0 < P.cellsOf e) {fn : Func} {s : ChangeSpec} {args : Array Value} {ds gs : List (DataW H)} {before : List MemPlace}
    (hT : ∀ t ∈ fn.params.toList, T t) (hV : ∀ n ∈ s.vars, ∀ g t, P.globalNamed n = some g → (P.globals[g]?).map (·.type) = some t → T t) {tb : TypeId} (hb : P.underlying tb = some .bool) (hres : fn.resultTypes = #[tb])
    (hW : DataW.Whole enc P fn.params.toList s.vars false W args.toList ds gs before) (hr : (s.fn H (ds ++ gs)).results = [.lit (.bool true)]) (ha : (s.fn H (ds ++ gs)).args = ds) (hv : (s.fn H (ds ++ gs)).vars = gs) (hk : Kept W W') :
    s.post enc P fn false true false false W args (.bool true) W' := by
  have hlt := hW.lt
  have hW0 := hW
  obtain ⟨p, q, h1, h2, rfl, _, _⟩ := hW
  refine ⟨ds, gs, p ++ q, [], p, q, hW0, ?_, ?_, ?_, hk.keptBut _, fun h => by cases h⟩
  · rw [hr, hres]
    exact trodAll_cons_mk (RowKit.shut_bool hb _) trodAll_mk0
  · rw [ha]
    exact DataW.TrodAll.respare K hz hT (TrodAll_carry h1 fun x hx => hk.same (hlt x (by simp [hx]))) fun x hx => by simpa using hlt x (by simp [hx])
  · rw [hv]
    exact TrodVars_kept K hz hk hV h2 (fun x hx => hlt x (by simp [hx])) fun x hx => by simpa using hlt x (by simp [hx])

/-! ### What comes in -/
mutual
def bk : DataW H → Nat
  | .lit (.string bytes) => bytes.length + 1
  | .lit _ => 1
  | .nil => 1
  | .ptr d => bk d + 1
  | .slice elems spare => bkAll elems + bkAll spare + 1
  | .agg parts => bkAll parts + 1
  | .iface _ d => bk d + 1
  | .map entries => bkEntries entries + 1
  | .held _ => 1
def bkAll : List (DataW H) → Nat
  | [] => 0
  | d :: r => bk d + bkAll r
def bkEntries : List (Lit × DataW H) → Nat
  | [] => 0
  | x :: r => bkEntry x + bkEntries r
def bkEntry : Lit × DataW H → Nat
  | (.string bytes, d) => bytes.length + bk d + 1
  | (_, d) => bk d + 1
end
theorem bkAll_append : ∀ (l m : List (DataW H)), bkAll (l ++ m) = bkAll l + bkAll m
  | [], m => by simp [bkAll]
  | d :: l, m => by simp only [List.cons_append, bkAll, bkAll_append l m]; omega
end
/-- What reads as a datum of a type is one of these, each value told by its cells. 'ms': how great it is at least. -/
def Opens (P : Program) (t : TypeId) {α : Type} (en : α → List D) (ms : α → Nat) (ok : α → Prop) : Prop :=
  ∀ (H : Type) (enc : TypeId × Value → H) (W : World) (fuel : Nat) (cs : List Value) (x : DataW H × List MemPlace), DataW.trod enc P W 0 (fun _ => true) true fuel t cs = some x → (∀ n ∈ x.1.weights P t, n ≤ reachBytes) →
    ∃ a, ok a ∧ RL (oldT W) W (en a) cs ∧ ms a ≤ bk x.1
theorem Opens.mono {P : Program} {t : TypeId} {α β : Type} {en : α → List D} {ms : α → Nat} {ok : α → Prop} {en' : β → List D} {ms' : β → Nat} {ok' : β → Prop} (h : Opens P t en ms ok) (f : α → β) (he : ∀ a, ok a → en' (f a) = en a) (hm : ∀ a, ok a → ms' (f a) ≤ ms a) (ho : ∀ a, ok a → ok' (f a)) : Opens P t en' ms' ok' := by
  intro H enc W fuel cs x hx hw
  obtain ⟨a, h1, h2, h3⟩ := h H enc W fuel cs x hx hw
  exact ⟨f a, ho a h1, by rw [he a h1]; exact h2, Nat.le_trans (hm a h1) h3⟩
theorem opens_int {P : Program} {t : TypeId} {k : IntKind} (ht : P.underlying t = some (.int k)) : Opens P t (fun n : Int => [.c (.int k n)]) (fun _ => 1) (fun n => k.min ≤ n ∧ n ≤ k.max) := by
  intro H enc W fuel cs x hx _
  obtain ⟨n, rfl, rfl, hn⟩ := DataW.trod_int ht hx
  refine ⟨n, by simpa [Lit.wf] using hn, ?_, by simp [bk]⟩
  simp only [RL, RD]
  exact ⟨_, _, rfl, rfl, ⟨rfl, rfl⟩, rfl⟩
theorem opens_bool {P : Program} {t : TypeId} (ht : P.underlying t = some .bool) : Opens P t (fun n : Bool => [.c (.bool n)]) (fun _ => 1) (fun _ => True) := by
  intro H enc W fuel cs x hx _
  obtain ⟨n, rfl, rfl⟩ := DataW.trod_bool ht hx
  refine ⟨n, trivial, ?_, by simp [bk]⟩
  simp only [RL, RD]
  exact ⟨_, _, rfl, rfl, ⟨rfl, rfl⟩, rfl⟩
theorem opens_string {P : Program} {t : TypeId} (ht : P.underlying t = some .string) : Opens P t (fun s : ByteArray => [.c (.string s)]) (fun s => s.size + 1) (fun s => s.size ≤ reachBytes) := by
  intro H enc W fuel cs x hx hw
  obtain ⟨s, rfl, rfl, hs⟩ := DataW.trod_string ht hx
  have hl : s.data.toList.length = s.size := by rw [Array.length_toList]; rfl
  refine ⟨s, ?_, ?_, by simp only [bk]; omega⟩
  · have := hw s.data.toList.length (by simp [DataW.weights])
    omega
  · simp only [RL, RD]
    exact ⟨_, _, rfl, rfl, ⟨rfl, rfl⟩, rfl⟩
theorem bkAll_ge {H : Type} {α : Type} (ms : α → Nat) : ∀ (l : List α) (ds : List (DataW H)), l.length = ds.length → (∀ (i : Nat) a d, l[i]? = some a → ds[i]? = some d → ms a ≤ bk d) → (l.map ms).sum ≤ bkAll ds
  | [], _, _, _ => by simp
  | a :: l, [], h, _ => by simp at h
  | a :: l, d :: ds, h, hk => by
    have h0 := hk 0 a d rfl rfl
    have := bkAll_ge ms l ds (by simpa using h) (fun i a d h1 h2 => hk (i + 1) a d (by simpa using h1) (by simpa using h2))
    simp only [List.map_cons, List.sum_cons, bkAll]; omega
theorem RM_flat {W : World} {α : Type} {en : α → List D} {sz : Nat} : ∀ (l : List α) (ad : Addr), (∀ a ∈ l, (en a).length = sz) → (∀ (i : Nat) a, l[i]? = some a → RM (oldT W) W (en a) (ad.add (i * sz))) → RM (oldT W) W (l.flatMap en) ad
  | [], ad, _, _ => by simp [RM]
  | a :: l, ad, hl, h => by
    simp only [List.flatMap_cons]
    have h0 := h 0 a rfl
    rw [Nat.zero_mul, addr_add_zero] at h0
    refine RM_append _ _ _ h0 ?_
    rw [hl a (by simp)]
    refine RM_flat l _ (fun b hb => hl b (by simp [hb])) fun i b hb => ?_
    have := h (i + 1) b (by simpa using hb)
    rw [addr_add_add]
    rwa [Nat.succ_mul, Nat.add_comm] at this
theorem RM_of_RL {W : World} {ds : List D} {vs : List Value} {ad : Addr} {n : Nat} (h : RL (oldT W) W ds vs) (hc : W.cells? 0 ad n = some vs) : RM (oldT W) W ds ad := by
  obtain ⟨_, hlen, hget⟩ := World.cells?_some hc
  have hl := RL_length _ _ h
  refine RM_of_get _ _ fun j d hd => ?_
  have hj : j < n := by have := (List.getElem?_eq_some_iff.1 hd).1; omega
  obtain ⟨v, hv, h1, h2⟩ := RL_get _ _ h j d hd
  have hcell := (hget j hj).trans hv
  have hold := old_cell hcell
  rw [addr_add_off, addr_add_block] at hold
  exact ⟨hold, v, hcell, h1, h2⟩
theorem weightsAll_mem {H : Type} {P : Program} {e : TypeId} : ∀ {l : List (DataW H)} {d : DataW H}, d ∈ l → ∀ n ∈ d.weights P e, n ∈ DataW.weightsAll P e l
  | y :: l, d, hd, n, hn => by
    simp only [DataW.weightsAll, List.mem_append]
    simp only [List.mem_cons] at hd
    rcases hd with rfl | hd
    · exact .inl hn
    · exact .inr (weightsAll_mem hd n hn)
theorem sum_const {α : Type} {f : α → Nat} {sz : Nat} : ∀ (l : List α), (∀ a ∈ l, f a = sz) → (l.map f).sum = l.length * sz
  | [], _ => by simp
  | a :: l, h => by
    simp only [List.map_cons, List.sum_cons, h a (by simp), sum_const l (fun b hb => h b (by simp [hb])), List.length_cons, Nat.succ_mul]
    omega
theorem opens_slice {P : Program} {t e : TypeId} {α : Type} {en : α → List D} {ms : α → Nat} {ok : α → Prop} {sz by_ : Nat} (ht : P.underlying t = some (.slice e)) (hsz : P.cellsOf e = sz) (hby : P.bytesOf e = by_) (hen : ∀ a, ok a → (en a).length = sz) (h : Opens P e en ms ok) :
    Opens P t (fun l : List α => [.sl sz l.length (l.flatMap en)]) (fun l => (l.map ms).sum + 1) (fun l => l.length * by_ ≤ reachBytes ∧ ∀ a ∈ l, ok a) := by
  intro H enc W fuel cs x hx hw
  rcases Deep.open_slice ht hx with ⟨rfl, rfl⟩ | ⟨a, len, cap, m, n, Dx, Pl, rfl, _, hlc, hcap, hm, rfl, hel⟩
  · refine ⟨[], ⟨by simp, by simp⟩, ?_, by simp [bk]⟩
    simp only [RL, RD]
    exact ⟨_, _, rfl, rfl, ⟨by simp, none, 0, rfl, by simp, .inl (by simp)⟩, rfl⟩
  · simp only [if_true] at hm
    have hm2 : m = cap := hm
    subst hm2
    have hwa : ∀ i, i < len → ∀ k ∈ (Dx i).weights P e, k ≤ reachBytes := fun i hi k hk => by
      refine hw k ?_
      simp only [DataW.weights, ht, List.mem_cons, List.mem_append]
      exact .inr (.inl (weightsAll_mem (List.mem_map.2 ⟨i, List.mem_range.2 hi, rfl⟩) k hk))
    have each : ∀ i, i < len → ∃ b, ok b ∧ ms b ≤ bk (Dx i) ∧ RM (oldT W) W (en b) (a.add (i * sz)) := fun i hi => by
      obtain ⟨cs', hc, hd⟩ := hel i (by omega)
      obtain ⟨b, h1, h2, h3⟩ := h H enc W n cs' _ hd (hwa i hi)
      rw [hsz] at hc
      exact ⟨b, h1, h3, RM_of_RL h2 hc⟩
    have hlist : ∀ k, k ≤ len → ∃ l : List α, l.length = k ∧ ∀ i b, l[i]? = some b → ok b ∧ ms b ≤ bk (Dx i) ∧ RM (oldT W) W (en b) (a.add (i * sz)) := by
      intro k
      induction k with
      | zero => exact fun _ => ⟨[], rfl, fun i b hb => by simp at hb⟩
      | succ k ih =>
        intro hk
        obtain ⟨l, hl, hall⟩ := ih (by omega)
        obtain ⟨b, hb⟩ := each k (by omega)
        refine ⟨l ++ [b], by simp [hl], fun i c hc => ?_⟩
        by_cases hi : i < l.length
        · rw [List.getElem?_append_left hi] at hc; exact hall i c hc
        · have hi2 : i < (l ++ [b]).length := (List.getElem?_eq_some_iff.1 hc).1
          have : i = k := by simp at hi2; omega
          subst this
          rw [← hl, List.getElem?_append_right (Nat.le_refl _)] at hc
          simp at hc; subst hc; exact hb
    obtain ⟨l, hl, hall⟩ := hlist len (Nat.le_refl _)
    have hok : ∀ b ∈ l, ok b := fun b hb => by obtain ⟨i, hi⟩ := List.mem_iff_getElem?.1 hb; exact (hall i b hi).1
    have hfl : (l.flatMap en).length = l.length * sz := by rw [List.length_flatMap]; exact sum_const l (fun b hb => hen b (hok b hb))
    refine ⟨l, ⟨?_, hok⟩, ?_, ?_⟩
    · have := hw ((len + (m - len)) * P.bytesOf e) (by simp [DataW.weights, ht])
      rw [hby] at this
      exact Nat.le_trans (Nat.mul_le_mul_right _ (by omega)) this
    · simp only [RL, RD]
      refine ⟨_, _, rfl, rfl, ⟨hfl, some a, m, by rw [hl], by omega, .inr ⟨a, rfl, RM_flat l a (fun b hb => hen b (hok b hb)) fun i b hb => (hall i b hb).2.2⟩⟩, rfl⟩
    · have := bkAll_ge (H := H) ms l ((List.range len).map Dx) (by simp [hl]) (fun i b d hb hd => by
        have hi : i < len := by have := (List.getElem?_eq_some_iff.1 hb).1; omega
        simp [hi] at hd
        subst hd
        exact (hall i b hb).2.1)
      simp only [bk]
      omega
theorem flat_bD (l : List UInt8) : (l.flatMap fun b => [D.c (.int .u8 (b.toNat : Int))]) = bD l := by
  unfold bD
  induction l with
  | nil => rfl
  | cons a l ih => simp [ih]
/-- Bytes. -/
theorem opens_bytes {P : Program} {t e : TypeId} (ht : P.underlying t = some (.slice e)) (he : P.underlying e = some (.int .u8)) (hsz : P.cellsOf e = 1) (hby : P.bytesOf e = 1) :
    Opens P t (fun l : List UInt8 => [.sl 1 l.length (bD l)]) (fun l => l.length + 1) (fun l => l.length ≤ reachBytes) := by
  have hb : Opens P e (fun b : UInt8 => [.c (.int .u8 (b.toNat : Int))]) (fun _ => 1) (fun _ => True) := by
    refine (opens_int he).mono (fun n => UInt8.ofNat n.toNat) (fun n hn => ?_) (fun _ _ => Nat.le_refl _) (fun _ _ => trivial)
    have h0 : (0 : Int) ≤ n := hn.1
    have h1 : n ≤ 255 := hn.2
    rw [u8_toNat, Nat.mod_eq_of_lt (by omega), Int.toNat_of_nonneg h0]
  refine (opens_slice ht hsz hby (fun _ _ => rfl) hb).mono id (fun l _ => ?_) (fun l _ => ?_) (fun l hl => ?_)
  · simp only [id, flat_bD]
  · have := sum_const (f := fun _ => 1) (sz := 1) l (fun _ _ => rfl)
    simp only [id]; omega
  · have := hl.1; simp only [id]; omega

/-! ### The arguments -/
def isOne : TypeDesc → Bool
  | .int _ => true
  | .bool => true
  | .string => true
  | .slice _ => true
  | .pointer _ => true
  | _ => false
theorem okWide_one {P : Program} {w : World} {r : Reach} {b0 : Nat} {t : TypeId} {d : TypeDesc} {v : Value} (ht : P.underlying t = some d) (hd : isOne d = true) (h : Value.okWide P w r b0 t v) : v.cells.toList = [v] := by
  cases d <;> simp only [isOne, Bool.false_eq_true] at hd
  all_goals
    simp only [Value.okWide, ht, Cell.okWide] at h
    cases v <;> simp_all [Cell.ok, Value.cells]
/-- One argument of one cell. -/
theorem arg_one {H : Type} {enc : TypeId × Value → H} {P : Program} {W : World} {r : Reach} {b0 : Nat} {t : TypeId} {dd : TypeDesc} {v : Value} {α : Type} {f : α → D} {ms : α → Nat} {ok : α → Prop} {d : DataW H} {p : List MemPlace} (ht : P.underlying t = some dd) (hd : isOne dd = true)
    (h : Opens P t (fun a => [f a]) ms ok) (hv : Value.okWide P W r b0 t v) (hw : ∀ n ∈ d.weights P t, n ≤ reachBytes) (hx : DataW.Trod enc P W 0 (fun _ => true) true t v d p) : ∃ a, ok a ∧ RA (env0 W) [] W (.d (f a)) v ∧ ms a ≤ bk d := by
  obtain ⟨n, hn⟩ := hx
  obtain ⟨a, h1, h2, h3⟩ := h H enc W n _ _ hn hw
  rw [okWide_one ht hd hv] at h2
  simp only [RL, List.cons.injEq] at h2
  obtain ⟨u, rest, ⟨rfl, rfl⟩, _, h4, _⟩ := h2
  exact ⟨a, h1, by simp only [RA]; exact h4, h3⟩
/-- One argument that is a struct or an array. -/
theorem arg_agg {H : Type} {enc : TypeId × Value → H} {P : Program} {W : World} {r : Reach} {b0 : Nat} {t : TypeId} {dd : TypeDesc} {v : Value} {α : Type} {en : α → List D} {ms : α → Nat} {ok : α → Prop} {d : DataW H} {p : List MemPlace} (ht : P.underlying t = some dd) (hd : isAggD dd = true)
    (h : Opens P t en ms ok) (hv : Value.okWide P W r b0 t v) (hw : ∀ n ∈ d.weights P t, n ≤ reachBytes) (hx : DataW.Trod enc P W 0 (fun _ => true) true t v d p) : ∃ a, ok a ∧ RA (env0 W) [] W (.d (.agg (en a))) v ∧ ms a ≤ bk d := by
  obtain ⟨n, hn⟩ := hx
  obtain ⟨a, h1, h2, h3⟩ := h H enc W n _ _ hn hw
  have : ∃ cs, v = .agg cs := by
    cases dd <;> simp only [isAggD, Bool.false_eq_true] at hd
    all_goals
      simp only [Value.okWide, ht] at hv
      obtain ⟨cs, rfl, _⟩ := hv
      exact ⟨cs, rfl⟩
  obtain ⟨cs, rfl⟩ := this
  exact ⟨a, h1, by simp only [RA, RD]; exact ⟨cs, rfl, h2⟩, h3⟩
theorem weights_of {H : Type} {P : Program} {ts : List TypeId} {ds : List (DataW H)} (h : (DataW.weightsEach P ts ds).all (· ≤ reachBytes) = true) (j : Nat) {t : TypeId} {d : DataW H} (ht : ts[j]? = some t) (hd : ds[j]? = some d) : ∀ n ∈ d.weights P t, n ≤ reachBytes := by
  intro n hn
  have := List.all_eq_true.1 h n (DataW.weights_mem_each ht hd n hn)
  simpa using this
end Go.Proofs.YteeknmjjpcbphaaDoor
