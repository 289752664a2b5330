/- The frame of these proofs: an abstract interpreter, proved sound once. -/
import Derived.Test.YthdjblfiiogmgaaCF1
import Derived.Laws.MakeOwn
import Derived.Lib.ConvBytes
import Derived.Orders
/- The frame of these proofs, part L: operations that make memory or write the call's own. -/
set_option linter.unusedVariables false
set_option linter.unusedSimpArgs false
namespace Go.Proofs.Ythdjblfiiogmgaa
open Go

/-- What an operation comes to. -/
def Res1 (P : Program) (G : GR) (E : Env) (r : Rs) (w : World) (s : Sem Value) (v : AV) (r' : Rs) : Prop :=
  ∃ x w' E', s.run P w = .ok x w' ∧ RA E' r' w' v x ∧ Good G E' r' w' ∧ Step E r w E' r' w'

variable {P : Program} {ti : Ti} {G : GR} {E : Env} {r : Rs} {w : World}

/-! ### A struct, array or number of the call's own -/
theorem box_sound (hG : Good G E r w) {cs : List AV} {x : Value} (hc : RAL E r w cs x.cells.toList) (h1 : ∀ u ∈ x.cells.toList, u.oneCell' = true) (e : TypeId) :
    Res1 P G E r w (Instr.box e x) (.ptr r.length 0) (r ++ [some (.obj cs)]) := by
  have hs := step_push hG (.cells x.cells e) 0 (some (.obj cs))
  refine ⟨.pointer (some ⟨w.heap.size, 0, none⟩), w.alloc (.cells x.cells e), ⟨updN E.T w.heap.size 0, updN E.bl r.length (some w.heap.size)⟩, by simp [Instr.box, newVar, newRow, newObj]; rfl, ?_, ?_, hs⟩
  · simp only [RA]
    exact ⟨by simp, fun l hl => ⟨w.heap.size, updN_same _ _ _, rfl⟩⟩
  · refine good_push hG _ _ _ ⟨fun k hk => (by cases hk), fun l hl => ?_, fun l hl => (by cases hl)⟩
    injection hl with hl; subst hl
    exact ⟨updN_same _ _ _, x.cells, e, heap_alloc_new w _, hc.step hs, h1⟩
theorem alloc_sound (hti : TiOK P ti) (hG : Good G E r w) {t : TypeId} {i : TI} (hi : ti t = some i) {cs : List AV} (hz : zeroA i.zero = some cs) :
    Res1 P G E r w (Instr.alloc t true (.tuple #[])) (.ptr r.length 0) (r ++ [some (.obj cs)]) := by
  obtain ⟨k1, k2⟩ := zeroA_sound (E := E) (r := r) (w := w) hz
  obtain ⟨x, w', E', h1, h2⟩ := box_sound (P := P) hG (x := i.zero) k1 k2 t
  refine ⟨x, w', E', ?_, h2⟩
  have hzr := ti_zero hti hi w
  simp only [Instr.box, Sem.run_bind] at h1
  simp only [Instr.alloc, Sem.run_bind, hzr, Result.andThen_ok]
  exact h1
theorem store_sound (hti : TiOK P ti) (hG : Good G E r w) {t : TypeId} {i : TI} (hi : ti t = some i) {o off : Nat} {l cs : List AV} (ho : objOf r o = some l) {x y : Value} (hx : RA E r w (.ptr o off) x) (hc : RAL E r w cs y.cells.toList)
    (h1 : ∀ u ∈ y.cells.toList, u.oneCell' = true) (hsz : cs.length = i.size) (hfit : off + cs.length ≤ l.length) :
    ∃ w' E', (Instr.storeAt t x y).run P w = .ok () w' ∧ Good G E' (r.set o (some (.obj (l.take off ++ cs ++ l.drop (off + cs.length))))) w' ∧ Step E r w E' (r.set o (some (.obj (l.take off ++ cs ++ l.drop (off + cs.length))))) w' := by
  simp only [RA] at hx
  obtain ⟨b, hb, rfl⟩ := hx.2 l (objOf_some ho)
  obtain ⟨b', vs, el, hb', hh, hral, hone, hcell⟩ := obj_cell hG ho
  rw [hb] at hb'; injection hb' with hb'; subst hb'
  have hT : E.T b = 0 := by
    obtain ⟨b', hb2, hT, _⟩ := hG.obj o l (objOf_some ho)
    rw [hb] at hb2; injection hb2 with hb2; subst hb2; exact hT
  have hl := RAL_length l _ hral
  have hcl := RAL_length cs _ hc
  have hsize := ti_size hti hi w
  have hst := run_storeCells_at P b off el y.cells.toList 0 vs w hh (by simp only [Array.length_toList] at hl; rw [hcl]; omega) h1
  simp only [Nat.add_zero] at hst
  have hlen : (l.take off ++ cs ++ l.drop (off + cs.length)).length = l.length := by
    simp only [List.length_append, List.length_take, List.length_drop]; omega
  have hsz2 : (vs.toList.take off ++ y.cells.toList ++ vs.toList.drop (off + y.cells.toList.length)).toArray.size = vs.size := by
    simp only [List.size_toArray, List.length_append, List.length_take, List.length_drop, Array.length_toList]
    simp only [Array.length_toList] at hl hcl
    omega
  have hs := step_setRow hG (x' := .obj (l.take off ++ cs ++ l.drop (off + cs.length))) (t' := 0) (objOf_some ho) hb hh hsz2 (by omega) (by intro j hj; omega) (.inr ⟨_, _, rfl, rfl, hlen.symm⟩)
  refine ⟨_, ⟨updN E.T b 0, E.bl⟩, ?_, ?_, hs⟩
  · simp only [Instr.storeAt, Instr.sureAddr, storeVar, Sem.run_bind, Sem.run_pure, Result.andThen_ok, hsize]
    rw [if_neg (by simp only [Array.length_toList] at hcl; omega)]
    exact hst
  · refine good_setRow hG (objOf_some ho) hb hh hsz2 (by omega) (by intro j hj; omega) (.inr ⟨_, _, rfl, rfl, hlen.symm, rfl, ?_, ?_⟩)
    · intro u hu
      simp only [List.mem_append] at hu
      rcases hu with (hu | hu) | hu
      · exact hone u (List.mem_of_mem_take hu)
      · exact h1 u hu
      · exact hone u (List.mem_of_mem_drop hu)
    · show RAL _ _ _ _ (_ ++ _ ++ _)
      rw [← hcl] at hs ⊢
      exact RAL_append _ _ _ _ (RAL_append _ _ _ _ (RAL_take _ _ (hral.step hs) _) (hc.step hs)) (RAL_drop _ _ (hral.step hs) _)

/-! ### A row that is laid -/
theorem row_sound (hG : Good G E r w) {ds : List D} {vs : Array Value} (hr : RL E.T w ds vs.toList) (e : TypeId) :
    ∃ E', E'.bl = E.bl ∧ RM E'.T (w.alloc (.cells vs e)) ds ⟨w.heap.size, 0, none⟩ ∧ Good G E' r (w.alloc (.cells vs e)) ∧ Step E r w E' r (w.alloc (.cells vs e)) := by
  have hs := step_alloc hG (.cells vs e) ds.length
  refine ⟨⟨updN E.T w.heap.size ds.length, E.bl⟩, rfl, ?_, good_alloc hG _ _, hs⟩
  refine RM_of_values ds _ vs.toList (RL.lasts hs.lasts _ _ hr) (fun j u hu => ?_) (by simp [updN_same])
  rw [addr_plain, cell_of_row _ w.heap.size _ vs e (0, 0) (heap_alloc_new w _)]
  simpa using hu
theorem buildSlice_run {t e : TypeId} {n size : Nat} {pv : Array (Nat × Value)} {cells : Array Value} {z : Value} (ht : (underlying t).run P w = .ok (.slice e) w) (hs : (sizeOf e).run P w = .ok size w) (hz : (zeroValue e).run P w = .ok z w) (hle : n * size ≤ 16777216)
    (hf : Instr.fill (fun i => some (i * size, size)) ((Array.range (n * size)).map fun i => (z.cells[i % z.cells.size]!)) pv.toList = some cells) (hpos : 0 < n * size) :
    (Instr.buildSlice t n pv).run P w = .ok (.slice (some ⟨w.heap.size, 0, none⟩) n n) (w.alloc (.cells cells e)) := by
  have h1 : ¬ (n * size > 2 ^ 24) := by omega
  have h2 : ¬ (n * size = 0) := by omega
  simp only [Instr.buildSlice, Sem.run_bind, ht, hs, Result.andThen_ok, if_neg h1, if_neg h2, hz, Sem.run_pure, hf]
  simp [newRow, newObj]
  rfl

/-! ### Appending -/
def Src (d : TypeDesc) : Prop := (∃ e, d = .slice e) ∨ d = .string
theorem app_zero {t u ty e : TypeId} {d : TypeDesc} {i : TypeInfo} (ht : P.underlying t = some (.slice e)) (hu : P.underlying u = some d) (hd : Src d) (hi : P.info? e = some i) {A : Option Addr} {n c : Nat} (hnc : n ≤ c) {x : Value}
    (hl : (Builtin.lenOf x).run P w = .ok 0 w) (hf : (Builtin.firstCells i.size 0 x).run P w = .ok #[] w) : (Builtin.append_ #[t, u] ty #[.slice A n c, x]).run P w = .ok (.slice A n c) w := by
  rcases hd with ⟨e', rfl⟩ | rfl <;> cases A <;> simp [Builtin.append_, run_underlying ht, run_underlying hu, sizeOf, typeInfo, hi, hl, hf, hnc, storeCells]
theorem app_room {t u ty e e2 : TypeId} {d : TypeDesc} {i : TypeInfo} (ht : P.underlying t = some (.slice e)) (hu : P.underlying u = some d) (hd : Src d) (hi : P.info? e = some i) {g n c m : Nat} {cur : Array Value}
    (hg : w.heap[g]? = some (.cells cur e2 (0, 0))) {x : Value} {news : List Value} (hl : (Builtin.lenOf x).run P w = .ok m w) (hf : (Builtin.firstCells i.size m x).run P w = .ok news.toArray w) (h1 : ∀ u ∈ news, u.oneCell' = true)
    (hroom : n + m ≤ c) (hfit : n * i.size + news.length ≤ cur.size) :
    (Builtin.append_ #[t, u] ty #[.slice (some ⟨g, 0, none⟩) n c, x]).run P w = .ok (.slice (some ⟨g, 0, none⟩) (n + m) c) (w.setRow g (cur.toList.take (n * i.size) ++ news ++ cur.toList.drop (n * i.size + news.length)).toArray) := by
  have hst := run_storeCells_at P g (n * i.size) e2 news 0 cur w hg (by simpa using hfit) h1
  simp only [Nat.add_zero] at hst
  have ha : (⟨g, 0, none⟩ : Addr).add (n * i.size) = ⟨g, n * i.size, none⟩ := by rw [addr_plain, Nat.zero_add]
  rcases hd with ⟨e', rfl⟩ | rfl <;> simp [Builtin.append_, run_underlying ht, run_underlying hu, sizeOf, typeInfo, hi, hl, hf, hroom, ha, hst]
theorem app_grow {t u ty e : TypeId} {d : TypeDesc} {i : TypeInfo} {z : Value} (ht : P.underlying t = some (.slice e)) (hu : P.underlying u = some d) (hd : Src d) (hi : P.info? e = some i) (hz : i.zero = some z) {A : Option Addr} {n c m : Nat} {x : Value}
    {olds news : List Value} (ho : (Builtin.firstCells i.size n (.slice A n c)).run P w.drew = .ok olds.toArray w.drew) (hl : (Builtin.lenOf x).run P w = .ok m w) (hf : (Builtin.firstCells i.size m x).run P w.drew = .ok news.toArray w.drew)
    (hg : c < n + m) (h63 : n + m ≤ 9223372036854775807) (hb : Builtin.nextslicecap (n + m) c * i.bytes ≤ 281474976710656) :
    (Builtin.append_ #[t, u] ty #[.slice A n c, x]).run P w =
      .ok (.slice (some ⟨w.heap.size, 0, none⟩) (n + m) (grownCap w (n + m) c e)) (w.drew.alloc (.cells (olds.toArray ++ news.toArray ++ Builtin.zeroCells z.cells (grownCap w (n + m) c e - (n + m))) e)) := by
  have hn : ¬ (n + m ≤ c) := by omega
  have h1 : ¬ ((9223372036854775807 : Int) < ((n : Int) + (m : Int))) := by omega
  have h2 : ¬ (281474976710656 < Builtin.nextslicecap (n + m) c * i.bytes) := by omega
  rcases hd with ⟨e', rfl⟩ | rfl
  · simp [Builtin.append_, run_underlying ht, run_underlying hu, sizeOf, typeInfo, zeroValue, hi, hz, hl, hn, h1, h2, Question.forced, hf, ho, newRow, grownCap]
    congr 2
    apply Array.ext'
    simp [List.append_assoc]
  · simp [Builtin.append_, run_underlying ht, run_underlying hu, sizeOf, typeInfo, zeroValue, hi, hz, hl, hn, h1, h2, Question.forced, hf, ho, newRow, grownCap]
    congr 2
    apply Array.ext'
    simp [List.append_assoc]
end Go.Proofs.Ythdjblfiiogmgaa
/- The frame of these proofs, part M: appending. -/
set_option linter.unusedVariables false
set_option linter.unusedSimpArgs false
namespace Go.Proofs.Ythdjblfiiogmgaa
open Go
variable {P : Program} {ti : Ti} {G : GR} {E : Env} {r : Rs} {w : World}

/-- A growing row that moves to a new block. -/
theorem names_move {i k k' : Nat} (hi : r[i]? = some (some (.tok k))) (hk : k < k') (T' : Nat → Nat) (v : Option Nat) : Names E r ⟨T', updN E.bl i v⟩ (r.set i (some (.tok k'))) := by
  refine ⟨by simp, fun j k2 _ hj => ?_, fun j l _ hj => ?_, fun j l _ hj => ?_⟩
  · rcases getElem?_set_cases hj with ⟨rfl, hy⟩ | ⟨hne, hj⟩
    · injection hy with hy; injection hy with hy; subst hy
      exact ⟨k, hi, by omega, fun h => by omega⟩
    · exact ⟨k2, hj, Nat.le_refl _, fun _ => updN_ne _ _ _ hne⟩
  · rcases getElem?_set_cases hj with ⟨rfl, hy⟩ | ⟨hne, hj⟩
    · injection hy with hy; cases hy
    · exact ⟨l, hj, rfl, updN_ne _ _ _ hne⟩
  · rcases getElem?_set_cases hj with ⟨rfl, hy⟩ | ⟨hne, hj⟩
    · injection hy with hy; cases hy
    · exact ⟨l, hj, updN_ne _ _ _ hne⟩
theorem step_move (hG : Good G E r w) {i k k' : Nat} (hi : r[i]? = some (some (.tok k))) (hk : k < k') (o : Obj) (t : Nat) :
    Step E r w ⟨updN E.T w.heap.size t, updN E.bl i (some w.heap.size)⟩ (r.set i (some (.tok k'))) (w.alloc o) := by
  refine ⟨rfl, rfl, rfl, by simp, fun b hb _ => ⟨heap_alloc_old w o b hb, updN_ne _ _ _ (by omega)⟩, fun b hb => ?_, lasts_alloc hG o t, shape_alloc w o, names_move hi hk _ _⟩
  obtain ⟨j, y, hj, hbj⟩ := hb
  rcases getElem?_set_cases hj with ⟨rfl, _⟩ | ⟨hne, hj⟩
  · rw [show (Env.bl _ j) = _ from updN_same _ _ _] at hbj
    injection hbj with hbj
    right; omega
  · rw [show (Env.bl _ j) = _ from updN_ne _ _ _ hne] at hbj
    exact .inl ⟨j, y, hj, hbj⟩
theorem good_move (hG : Good G E r w) {i k k' : Nat} (hi : r[i]? = some (some (.tok k))) (hk : k < k') {cs : Array Value} {e : TypeId} (hsz : k' ≤ cs.size) :
    Good G ⟨updN E.T w.heap.size k', updN E.bl i (some w.heap.size)⟩ (r.set i (some (.tok k'))) (w.alloc (.cells cs e)) := by
  have hs := step_move hG hi hk (.cells cs e) k'
  refine ⟨fun j k2 b hj hb => ?_, fun j l hj => ?_, fun j l hj => ?_, fun j j2 y z b hj hj2 hbj hbj2 => ?_, fun b hb => ?_, fun g => RM.lasts hs.lasts _ _ (hG.glob g)⟩
  · rcases getElem?_set_cases hj with ⟨rfl, hy⟩ | ⟨hne, hj⟩
    · injection hy with hy; injection hy with hy; subst hy
      rw [show (Env.bl _ j) = _ from updN_same _ _ _] at hb
      injection hb with hb; subst hb
      exact ⟨updN_same _ _ _, cs, e, heap_alloc_new w _, hsz⟩
    · rw [show (Env.bl _ j) = _ from updN_ne _ _ _ hne] at hb
      obtain ⟨h1, cur, e', h2, h3⟩ := hG.tok j k2 b hj hb
      have hlt := hG.lt hj hb
      exact ⟨(updN_ne _ _ _ (by omega)).trans h1, cur, e', (heap_alloc_old w _ b hlt).trans h2, h3⟩
  · rcases getElem?_set_cases hj with ⟨rfl, hy⟩ | ⟨hne, hj⟩
    · injection hy with hy; cases hy
    · obtain ⟨b, hb, h1, vs, e', h2, h3, h4⟩ := hG.obj j l hj
      have hlt := hG.lt hj hb
      exact ⟨b, (updN_ne _ _ _ hne).trans hb, (updN_ne _ _ _ (by omega)).trans h1, vs, e', (heap_alloc_old w _ b hlt).trans h2, h3.step hs, h4⟩
  · rcases getElem?_set_cases hj with ⟨rfl, hy⟩ | ⟨hne, hj⟩
    · injection hy with hy; cases hy
    · obtain ⟨b, hb, h1, h2⟩ := hG.map j l hj
      have hlt := hG.lt hj hb
      exact ⟨b, (updN_ne _ _ _ hne).trans hb, (updN_ne _ _ _ (by omega)).trans h1, h2.lasts (T' := E.T) (heap_alloc_old w _ b hlt) hs.lasts⟩
  · rcases getElem?_set_cases hj with ⟨h1, hy⟩ | ⟨hne, hj1⟩ <;> rcases getElem?_set_cases hj2 with ⟨h2, hy2⟩ | ⟨hne2, hj3⟩
    · exact h1.trans h2.symm
    · subst h1
      rw [show (Env.bl _ j) = _ from updN_same _ _ _] at hbj
      rw [show (Env.bl _ j2) = _ from updN_ne _ _ _ hne2] at hbj2
      injection hbj with hbj
      have := hG.lt hj3 hbj2; omega
    · subst h2
      rw [show (Env.bl _ j2) = _ from updN_same _ _ _] at hbj2
      rw [show (Env.bl _ j) = _ from updN_ne _ _ _ hne] at hbj
      injection hbj2 with hbj2
      have := hG.lt hj1 hbj; omega
    · rw [show (Env.bl _ j) = _ from updN_ne _ _ _ hne] at hbj
      rw [show (Env.bl _ j2) = _ from updN_ne _ _ _ hne2] at hbj2
      exact hG.one j j2 y z b hj1 hj3 hbj hbj2
  · have : b ≠ w.heap.size := by simp at hb; omega
    show updN E.T w.heap.size k' b = 0
    rw [updN_ne _ _ _ this]
    exact hG.fresh b (by simp at hb; omega)

/-- What is appended: a slice's elements, or a text's bytes. -/
def srcOf (r : Rs) (sz : Nat) (y : AV) : Option (Nat × List D) :=
  match y with
  | .d (.c (.string s)) => if sz = 1 then some (s.size, bD s.toList) else none
  | .osl i off sz' n => if sz' = sz ∧ 0 < n then (match objOf r i with
    | some l => (allD ((l.drop off).take (n * sz))).map fun ds => (n, ds)
    | none => none) else none
  | .csl i off sz' n _ => if sz' = sz ∧ 0 < n then (match objOf r i with
    | some l => (allD ((l.drop off).take (n * sz))).map fun ds => (n, ds)
    | none => none) else none
  | y => match slOf sz y with
    | some (_, m, ys) => some (m, ys)
    | none => none
theorem bD_length (l : List UInt8) : (bD l).length = l.length := by simp [bD]
theorem RL_bD (T : Nat → Nat) (w : World) (l : List UInt8) : RL T w (bD l) (l.map fun b => Value.int .u8 b.toNat) := by
  induction l with
  | nil => simp [bD, RL]
  | cons b l ih =>
    simp only [bD, List.map_cons, RL]
    exact ⟨_, _, rfl, rfl, by simp [RD, Value.oneCell'], ih⟩
theorem toList_size (s : ByteArray) : s.toList.length = s.size := by rw [Go.ByteArray.toList_eq, Array.length_toList]; rfl
theorem srcOf_sound (hG : Good G E r w) {sz m : Nat} {y : AV} {x : Value} {ys : List D} (h : RA E r w y x) (e : srcOf r sz y = some (m, ys)) : ys.length = m * sz ∧ (Builtin.lenOf x).run P w = .ok m w ∧ ∃ news, RL E.T w ys news ∧
    (Builtin.firstCells sz m x).run P w = .ok news.toArray w ∧ (Builtin.firstCells sz m x).run P w.drew = .ok news.toArray w.drew := by
  unfold srcOf at e
  split at e
  · rename_i s
    split at e
    · rename_i hsz; subst hsz
      simp only [Option.some.injEq, Prod.mk.injEq] at e
      obtain ⟨rfl, rfl⟩ := e
      simp only [RA, RD] at h
      obtain ⟨rfl, _⟩ := h
      refine ⟨by rw [bD_length, toList_size]; omega, by simp [Builtin.lenOf], s.toList.map (fun b => Value.int .u8 b.toNat), RL_bD _ _ _, ?_⟩
      have hx : s.extract 0 s.size = s := by
        apply ByteArray.ext
        rw [ByteArray.data_extract]
        show s.data.extract 0 s.data.size = _
        simp
      have hd : (Array.map (fun b : UInt8 => Value.int .u8 b.toNat) s.data) = (s.toList.map (fun b => Value.int .u8 b.toNat)).toArray := by
        apply Array.ext'
        simp [Go.ByteArray.toList_eq]
      constructor <;> simp only [Builtin.firstCells, hx, Sem.run_pure, hd]
    · cases e
  · rename_i i off sz' n
    split at e
    · rename_i hsz
      obtain ⟨rfl, hn⟩ := hsz
      split at e
      · rename_i l hl
        simp only [Option.map_eq_some_iff, Prod.mk.injEq] at e
        obtain ⟨ds, hds, rfl, rfl⟩ := e
        simp only [RA] at h
        obtain ⟨_, A, c, rfl, hc, h⟩ := h
        obtain ⟨hfit, h⟩ := h l (objOf_some hl)
        obtain ⟨b, hb, rfl⟩ := h hn
        obtain ⟨b2, vs, e2, hb2, hh, hral, hone, hcell⟩ := obj_cell hG hl
        rw [hb] at hb2; injection hb2 with hb2; subst hb2
        have hvl := RAL_length _ _ hral
        have hone2 : ∀ u ∈ (vs.toList.drop off).take (n * sz'), u.oneCell' = true := fun u hu => hone u (List.mem_of_mem_drop (List.mem_of_mem_take hu))
        have hrl := allD_sound _ _ ds (RAL_take _ _ (RAL_drop _ _ hral off) (n * sz')) hds hone2
        have hdl := RL_length _ _ hrl
        have hul : ((vs.toList.drop off).take (n * sz')).length = n * sz' := by rw [List.length_take, List.length_drop]; omega
        have hcl : ∀ (j : Nat) (u : Value), ((vs.toList.drop off).take (n * sz'))[j]? = some u → w.cell? (Addr.add ⟨b, off, none⟩ j) = some u := fun j u hj => by
          rw [addr_plain, hcell]
          rw [List.getElem?_take] at hj
          split at hj
          · rw [List.getElem?_drop] at hj; simpa using hj
          · cases hj
        exact ⟨by omega, by simp [Builtin.lenOf], _, hrl, run_firstCells_some (P := P) w sz' _ ⟨b, off, none⟩ n c _ hul hcl, run_firstCells_some (P := P) w.drew sz' _ ⟨b, off, none⟩ n c _ hul (by simpa using hcl)⟩
      · cases e
    · cases e
  · rename_i i off sz' n c
    split at e
    · rename_i hsz
      obtain ⟨rfl, hn⟩ := hsz
      split at e
      · rename_i l hl
        simp only [Option.map_eq_some_iff, Prod.mk.injEq] at e
        obtain ⟨ds, hds, rfl, rfl⟩ := e
        simp only [RA] at h
        obtain ⟨_, A, rfl, hc, h⟩ := h
        obtain ⟨hfit, h⟩ := h l (objOf_some hl)
        obtain ⟨b, hb, rfl⟩ := h (by omega)
        obtain ⟨b2, vs, e2, hb2, hh, hral, hone, hcell⟩ := obj_cell hG hl
        rw [hb] at hb2; injection hb2 with hb2; subst hb2
        have hmul : n * sz' ≤ c * sz' := Nat.mul_le_mul_right _ hc
        have hvl := RAL_length _ _ hral
        have hone2 : ∀ u ∈ (vs.toList.drop off).take (n * sz'), u.oneCell' = true := fun u hu => hone u (List.mem_of_mem_drop (List.mem_of_mem_take hu))
        have hrl := allD_sound _ _ ds (RAL_take _ _ (RAL_drop _ _ hral off) (n * sz')) hds hone2
        have hdl := RL_length _ _ hrl
        have hul : ((vs.toList.drop off).take (n * sz')).length = n * sz' := by rw [List.length_take, List.length_drop]; omega
        have hcl : ∀ (j : Nat) (u : Value), ((vs.toList.drop off).take (n * sz'))[j]? = some u → w.cell? (Addr.add ⟨b, off, none⟩ j) = some u := fun j u hj => by
          rw [addr_plain, hcell]
          rw [List.getElem?_take] at hj
          split at hj
          · rw [List.getElem?_drop] at hj; simpa using hj
          · cases hj
        exact ⟨by omega, by simp [Builtin.lenOf], _, hrl, run_firstCells_some (P := P) w sz' _ ⟨b, off, none⟩ n c _ hul hcl, run_firstCells_some (P := P) w.drew sz' _ ⟨b, off, none⟩ n c _ hul (by simpa using hcl)⟩
      · cases e
    · cases e
  · split at e
    · rename_i m' ys' hs
      simp only [Option.some.injEq, Prod.mk.injEq] at e
      obtain ⟨rfl, rfl⟩ := e
      obtain ⟨hl, A, c, rfl, hc, hr, _⟩ := slOf_sound h hs
      refine ⟨hl, by simp [Builtin.lenOf], ?_⟩
      rcases A with _ | ad
      · have hx : ys' = [] := by
          rcases hr with h0 | ⟨ad, h0, _⟩
          · exact h0
          · cases h0
        subst hx
        exact ⟨[], by simp [RL], by simp [Builtin.firstCells], by simp [Builtin.firstCells]⟩
      · have hm : RM E.T w ys' ad := by
          rcases hr with h0 | ⟨ad', h0, hm⟩
          · subst h0; simp [RM]
          · injection h0 with h0; subst h0; exact hm
        obtain ⟨us, hus, hcell⟩ := RM_values _ ad hm
        have hul := RL_length _ us hus
        exact ⟨us, hus, run_firstCells_some (P := P) w sz _ ad _ c us (by rw [hul, hl]) hcell, run_firstCells_some (P := P) w.drew sz _ ad _ c us (by rw [hul, hl]) (by simpa using hcell)⟩
    · cases e

def appRes (r : Rs) (lx ly : Nat) : Mo → Option (Nat × Rs)
  | .full => some (r.length, r ++ [some (.tok (lx + ly))])
  | .own i => match r[i]? with
    | some (some (.tok k)) => if k = lx then some (i, r.set i (some (.tok (lx + ly)))) else none
    | _ => none
  | .sp _ => none
theorem set_self {i : Nat} {x : Option Res} (h : r[i]? = some x) : r.set i x = r := by
  apply List.ext_getElem?
  intro j
  by_cases hj : i = j
  · subst hj
    have hlt := (List.getElem?_eq_some_iff.1 h).1
    simp [List.getElem?_set, hlt]
    rw [List.getElem?_eq_getElem hlt] at h
    injection h with h
    exact h.symm
  · simp [List.getElem?_set, hj]
/-- The row in a new block. -/
theorem grown_row {T' : Nat → Nat} {w' : World} {e : TypeId} {z : Value} {xs ys : List D} {olds news : List Value} {k : Nat} {w0 : World} (hw : w' = w0.alloc (.cells (olds.toArray ++ news.toArray ++ Builtin.zeroCells z.cells k) e))
    (hx : RL T' w' xs olds) (hy : RL T' w' ys news) (hT : T' w0.heap.size = xs.length + ys.length) : RM T' w' (xs ++ ys) ⟨w0.heap.size, 0, none⟩ := by
  refine RM_of_values _ _ (olds ++ news) (RL_append _ _ _ _ hx hy) (fun j u hu => ?_) (by simp [hT])
  subst hw
  rw [addr_plain, cell_of_row _ w0.heap.size _ _ e (0, 0) (heap_alloc_new w0 _)]
  have hj : j < (olds ++ news).length := (List.getElem?_eq_some_iff.1 hu).1
  rw [Nat.zero_add, Array.getElem?_append_left (by simpa using hj)]
  simpa using hu
theorem append_sound (hti : TiOK P ti) (hG : Good G E r w) {t u ty e : TypeId} {s0 b0 : Nat} {z0 : Value} {ie iu : TI} (hte : ti t = some ⟨.slice e, s0, b0, z0⟩) (hee : ti e = some ie) (hue : ti u = some iu) (hsrc : Src iu.u) (hpos : 0 < ie.size)
    {s x : AV} {sv xv : Value} (hs : RA E r w s sv) (hx : RA E r w x xv) {mo : Mo} {n m : Nat} {xs ys : List D} (hsl : slOf ie.size s = some (some mo, n, xs)) (hsr : srcOf r ie.size x = some (m, ys))
    (h63 : n + m ≤ 9223372036854775807) (hb : (n + m) * ie.bytes ≤ 140737488355328) {i : Nat} {r' : Rs} (ha : appRes r xs.length ys.length mo = some (i, r')) :
    Res1 P G E r w (Builtin.append_ #[t, u] ty #[sv, xv]) (.sl (.own i) ie.size (n + m) (xs ++ ys)) r' := by
  obtain ⟨hut, _⟩ := hti _ _ hte
  obtain ⟨_, fe, hfe, hfs, hfb, hfz, hzs, _⟩ := hti _ _ hee
  obtain ⟨huu, _⟩ := hti _ _ hue
  obtain ⟨hlx, A, c, rfl, hnc, hrx, hmo⟩ := slOf_sound hs hsl
  obtain ⟨hly, hlen, news, hnews, hf1, hf2⟩ := srcOf_sound (P := P) hG hx hsr
  rw [← hfs] at hf1 hf2
  have hnl := RL_length _ _ hnews
  by_cases hm : m = 0
  · subst hm
    have hy0 : ys = [] := List.eq_nil_of_length_eq_zero (by simpa using hly)
    subst hy0
    have hn0 : news = [] := List.eq_nil_of_length_eq_zero (by simpa using hnl)
    subst hn0
    have hrun := app_zero (P := P) (w := w) (ty := ty) hut huu hsrc hfe hnc hlen (by simpa using hf1) (A := A)
    cases mo with
    | full =>
      simp only [appRes, Option.some.injEq, Prod.mk.injEq] at ha
      obtain ⟨rfl, rfl⟩ := ha
      have hst := step_push_none hG (some (.tok (xs.length + 0)))
      refine ⟨_, w, _, hrun, ?_, good_push_none hG _ (fun y hy => ⟨_, by injection hy with hy; exact hy.symm⟩), hst⟩
      simp only [RA, List.append_nil, Nat.add_zero]
      refine ⟨hlx, A, c, rfl, hnc, ?_, by simp, fun k hk => ?_⟩
      · rcases hrx with h0 | ⟨ad, h0, hrm⟩
        · exact .inl h0
        · exact .inr ⟨ad, h0, RM.lasts hst.lasts _ _ hrm⟩
      · simp at hk
        refine ⟨by omega, fun _ => ?_⟩
        have hbl : (Env.mk E.T (updN E.bl r.length none)).bl r.length = none := updN_same _ _ _
        rw [hbl]
        exact hmo
    | sp ys => simp [appRes] at ha
    | own j =>
      simp only [appRes] at ha
      split at ha
      · rename_i k hk
        split at ha
        · rename_i hkx
          simp only [Option.some.injEq, Prod.mk.injEq] at ha
          obtain ⟨rfl, rfl⟩ := ha
          subst hkx
          simp only [List.length_nil, Nat.add_zero, List.append_nil]
          rw [set_self hk]
          refine ⟨_, w, E, hrun, ?_, hG, Step.refl _ _ _⟩
          simp only [RA]
          exact ⟨hlx, A, c, rfl, hnc, hrx, hmo⟩
        · cases ha
      · cases ha
  · have hypos : 0 < ys.length := by rw [hly]; exact Nat.mul_pos (by omega) hpos
    have holds : ∃ olds, RL E.T w xs olds ∧ (Builtin.firstCells fe.size n (.slice A n c)).run P w.drew = .ok olds.toArray w.drew := by
      rcases A with _ | ad
      · have hx0 : xs = [] := by
          rcases hrx with h0 | ⟨ad, h0, _⟩
          · exact h0
          · cases h0
        subst hx0
        exact ⟨[], by simp [RL], by simp [Builtin.firstCells]⟩
      · have hmm : RM E.T w xs ad := by
          rcases hrx with h0 | ⟨ad', h0, hmm⟩
          · subst h0; simp [RM]
          · injection h0 with h0; subst h0; exact hmm
        obtain ⟨us, hus, hcell⟩ := RM_values _ ad hmm
        have hul := RL_length _ us hus
        exact ⟨us, hus, run_firstCells_some (P := P) w.drew fe.size _ ad _ c us (by rw [hul, hlx, hfs]) (by simpa using hcell)⟩
    obtain ⟨olds, hol, hof⟩ := holds
    have holl := RL_length _ _ hol
    have hGd := good_drew hG
    have hsd := step_drew E r w
    have grow : c < n + m → (Builtin.append_ #[t, u] ty #[.slice A n c, xv]).run P w = .ok (.slice (some ⟨w.heap.size, 0, none⟩) (n + m) (grownCap w (n + m) c e)) (w.drew.alloc (.cells (olds.toArray ++ news.toArray ++ Builtin.zeroCells ie.zero.cells (grownCap w (n + m) c e - (n + m))) e)) := fun hg =>
      app_grow (P := P) hut huu hsrc hfe hfz hof hlen hf2 hg h63 (growslice_fits (by omega) (by rw [hfb]; exact hb))
    have hcells : (olds.toArray ++ news.toArray ++ Builtin.zeroCells ie.zero.cells (grownCap w (n + m) c e - (n + m))).size = grownCap w (n + m) c e * ie.size := by
      have hge := grownCap_ge w (n + m) c e
      simp only [Array.size_append, List.size_toArray, size_zeroCells, hzs, holl, hlx, hnl, hly, ← Nat.add_mul]
      congr 1
      omega
    have hshape : (w.drew.alloc (.cells (olds.toArray ++ news.toArray ++ Builtin.zeroCells ie.zero.cells (grownCap w (n + m) c e - (n + m))) e)).shape? w.heap.size = some (e, grownCap w (n + m) c e * ie.size) := by
      unfold World.shape?
      rw [show w.heap.size = w.drew.heap.size from rfl, heap_alloc_new w.drew _]
      simp only [hcells]
    have hle : xs.length + ys.length ≤ (olds.toArray ++ news.toArray ++ Builtin.zeroCells ie.zero.cells (grownCap w (n + m) c e - (n + m))).size := by
      simp only [Array.size_append, List.size_toArray]; omega
    have hadd : (xs ++ ys).length = (n + m) * ie.size := by rw [List.length_append, hlx, hly, Nat.add_mul]
    cases mo with
    | full =>
      simp only [appRes, Option.some.injEq, Prod.mk.injEq] at ha
      obtain ⟨rfl, rfl⟩ := ha
      have hc : c = n := hmo
      have hg : c < n + m := by omega
      have hst := step_push hGd (.cells (olds.toArray ++ news.toArray ++ Builtin.zeroCells ie.zero.cells (grownCap w (n + m) c e - (n + m))) e) (xs.length + ys.length) (some (.tok (xs.length + ys.length)))
      refine ⟨_, _, _, grow hg, ?_, good_push hGd _ _ _ ⟨fun k hk => ?_, fun l hl => (by cases hl), fun l hl => (by cases hl)⟩, hsd.trans hst⟩
      · simp only [RA]
        refine ⟨hadd, _, _, rfl, grownCap_ge w (n + m) c e, .inr ⟨_, rfl, ?_⟩, by simp, fun k hk => ?_⟩
        · exact grown_row (w0 := w.drew) rfl (RL.lasts (hsd.trans hst).lasts _ _ hol) (RL.lasts (hsd.trans hst).lasts _ _ hnews) (updN_same _ _ _)
        · simp at hk
          refine ⟨by simp [hk], fun _ => ?_⟩
          have hbl : (Env.mk (updN E.T w.drew.heap.size (xs.length + ys.length)) (updN E.bl r.length (some w.drew.heap.size))).bl r.length = some w.heap.size := updN_same _ _ _
          rw [hbl]
          exact ⟨rfl, e, hshape⟩
      · injection hk with hk; subst hk
        exact ⟨updN_same _ _ _, _, e, heap_alloc_new w.drew _, hle⟩
    | sp ys => simp [appRes] at ha
    | own j =>
      simp only [appRes] at ha
      split at ha
      · rename_i k hk
        split at ha
        · rename_i hkx
          simp only [Option.some.injEq, Prod.mk.injEq] at ha
          obtain ⟨rfl, rfl⟩ := ha
          subst hkx
          obtain ⟨_, hmode⟩ := (hmo.2 _ hk)
          have hmode := hmode rfl
          have moved : c < n + m → Res1 P G E r w (Builtin.append_ #[t, u] ty #[.slice A n c, xv]) (.sl (.own j) ie.size (n + m) (xs ++ ys)) (r.set j (some (.tok (xs.length + ys.length)))) := by
            intro hg
            have hst := step_move hGd hk (by omega : xs.length < xs.length + ys.length) (.cells (olds.toArray ++ news.toArray ++ Builtin.zeroCells ie.zero.cells (grownCap w (n + m) c e - (n + m))) e) (xs.length + ys.length)
            refine ⟨_, _, _, grow hg, ?_, good_move hGd hk (by omega) hle, hsd.trans hst⟩
            simp only [RA]
            refine ⟨hadd, _, _, rfl, grownCap_ge w (n + m) c e, .inr ⟨_, rfl, ?_⟩, by simpa using hmo.1, fun k hk' => ?_⟩
            · exact grown_row (w0 := w.drew) rfl (RL.lasts (hsd.trans hst).lasts _ _ hol) (RL.lasts (hsd.trans hst).lasts _ _ hnews) (updN_same _ _ _)
            · rcases getElem?_set_cases hk' with ⟨_, hy⟩ | ⟨hne, _⟩
              · injection hy with hy; injection hy with hy
                refine ⟨by simp [hy], fun _ => ?_⟩
                have hbl : (Env.mk (updN E.T w.drew.heap.size (xs.length + ys.length)) (updN E.bl j (some w.drew.heap.size))).bl j = some w.heap.size := updN_same _ _ _
                rw [hbl]
                exact ⟨rfl, e, hshape⟩
              · exact absurd rfl hne
          cases hbj : E.bl j with
          | none =>
            rw [hbj] at hmode
            have hc : c = n := hmode
            exact moved (by omega)
          | some b =>
            rw [hbj] at hmode
            obtain ⟨rfl, e', hsh⟩ := hmode
            by_cases hroom : n + m ≤ c
            · obtain ⟨hTb, cur, e2, hheap, hle2⟩ := hG.tok j _ b hk hbj
              have hcur : cur.size = c * ie.size := by
                unfold World.shape? at hsh
                rw [hheap] at hsh
                simp at hsh
                exact hsh.2
              have hfit : n * fe.size + news.length ≤ cur.size := by
                rw [hfs, hnl, hly, ← Nat.add_mul, hcur]
                exact Nat.mul_le_mul_right _ hroom
              have hl0 : n * fe.size = xs.length := by rw [hfs, hlx]
              have hrun := app_room (P := P) (w := w) (ty := ty) hut huu hsrc hfe hheap hlen hf1 (RL_one _ _ hnews) hroom hfit
              rw [hl0] at hrun hfit
              have hsz2 : (cur.toList.take xs.length ++ news ++ cur.toList.drop (xs.length + news.length)).toArray.size = cur.size := by
                simp only [List.size_toArray, List.length_append, List.length_take, List.length_drop, Array.length_toList]
                omega
              have hpre : ∀ q, q < E.T b → (cur.toList.take xs.length ++ news ++ cur.toList.drop (xs.length + news.length)).toArray[q]? = cur[q]? := by
                intro q hq
                rw [hTb] at hq
                simp only [List.getElem?_toArray]
                rw [List.append_assoc, List.getElem?_append_left (by simp; omega), List.getElem?_take, if_pos hq]
                simp
              have hst := step_setRow hG (x' := .tok (xs.length + ys.length)) (t' := xs.length + ys.length) hk hbj hheap hsz2 (by omega) hpre (.inl ⟨_, _, rfl, rfl, by omega⟩)
              have hgd := good_setRow hG (x' := .tok (xs.length + ys.length)) (t' := xs.length + ys.length) hk hbj hheap hsz2 (by omega) hpre (.inl ⟨_, _, rfl, rfl, by omega, rfl, by omega⟩)
              refine ⟨_, _, _, hrun, ?_, hgd, hst⟩
              simp only [RA]
              refine ⟨hadd, _, _, rfl, hroom, .inr ⟨_, rfl, ?_⟩, by simpa using hmo.1, fun k' hk' => ?_⟩
              · have hx1 : RM (updN E.T b (xs.length + ys.length)) (w.setRow b (cur.toList.take xs.length ++ news ++ cur.toList.drop (xs.length + news.length)).toArray) xs ⟨b, 0, none⟩ := by
                  rcases hrx with h0 | ⟨ad, h0, hrm⟩
                  · subst h0; simp [RM]
                  · injection h0 with h0; subst h0; exact RM.lasts hst.lasts _ _ hrm
                refine RM_append _ _ _ hx1 ?_
                refine RM_of_values _ _ news (RL.lasts hst.lasts _ _ hnews) (fun q v hq => ?_) (by rw [addr_plain]; simp [updN_same])
                have hql : q < news.length := (List.getElem?_eq_some_iff.1 hq).1
                rw [addr_plain, addr_plain, cell_of_row _ b _ _ e2 (0, 0) (setRow_heap w b cur _ e2 (0, 0) hheap)]
                simp only [List.getElem?_toArray, Nat.zero_add]
                have htl : (cur.toList.take xs.length).length = xs.length := by simp; omega
                rw [List.append_assoc, List.getElem?_append_right (by omega), htl, Nat.add_sub_cancel_left, List.getElem?_append_left hql]
                exact hq
              · rcases getElem?_set_cases hk' with ⟨_, hy⟩ | ⟨hne, _⟩
                · injection hy with hy; injection hy with hy
                  refine ⟨by simp [hy], fun _ => ?_⟩
                  show match E.bl j with
                    | none => c = n + m
                    | some b_1 => _
                  rw [hbj]
                  exact ⟨rfl, e', hst.shape _ _ hsh⟩
                · exact absurd rfl hne
            · exact moved (by omega)
        · cases ha
      · cases ha
end Go.Proofs.Ythdjblfiiogmgaa
/- The frame of these proofs, part N: an operation that makes memory or writes the call's own, in one word. -/
set_option linter.unusedVariables false
set_option linter.unusedSimpArgs false
namespace Go.Proofs.Ythdjblfiiogmgaa
open Go
variable {P : Program} {ti : Ti} {G : GR} {E : Env} {r : Rs} {w : World}

/-- A part of a list put in another's place. -/
def splice (l : List AV) (off : Nat) : List AV → List AV
  | [a] => l.set off a
  | cs => l.take off ++ cs ++ l.drop (off + cs.length)
theorem splice_eq {l : List AV} {off : Nat} : ∀ {cs : List AV}, off + cs.length ≤ l.length → splice l off cs = l.take off ++ cs ++ l.drop (off + cs.length)
  | [], _ => rfl
  | [a], h => by
    simp only [List.length_cons, List.length_nil] at h
    simp only [splice, List.length_cons, List.length_nil]
    rw [List.set_eq_take_append_cons_drop, if_pos (by omega)]
    simp
  | _ :: _ :: _, _ => rfl
def repA (zl : List AV) : Nat → List AV
  | 0 => []
  | n + 1 => zl ++ repA zl n
theorem repA_length (zl : List AV) (n : Nat) : (repA zl n).length = n * zl.length := by
  induction n with
  | zero => simp [repA]
  | succ n ih => simp [repA, ih, Nat.succ_mul, Nat.add_comm]
theorem repA_get (zl : List AV) (hz : 0 < zl.length) : ∀ (n j : Nat), j < n * zl.length → (repA zl n)[j]? = zl[j % zl.length]?
  | 0, j, h => by omega
  | n + 1, j, h => by
    simp only [repA]
    by_cases hj : j < zl.length
    · rw [List.getElem?_append_left hj, Nat.mod_eq_of_lt hj]
    · rw [List.getElem?_append_right (by omega), repA_get zl hz n _ (by rw [Nat.succ_mul] at h; omega)]
      rw [Nat.mod_eq_sub_mod (a := j) (by omega)]
theorem zeros_sound {z : Value} {zl : List AV} (h : zeroA z = some zl) {n sz : Nat} (hs : z.cells.size = sz) (hp : 0 < sz) : RAL E r w (repA zl n) ((Array.range (n * sz)).map fun i => (z.cells[i % z.cells.size]!)).toList ∧
    ∀ u ∈ ((Array.range (n * sz)).map fun i => (z.cells[i % z.cells.size]!)).toList, u.oneCell' = true := by
  obtain ⟨k1, k2⟩ := zeroA_sound (E := E) (r := r) (w := w) h
  have hl := RAL_length _ _ k1
  simp only [Array.length_toList] at hl
  have hlz : zl.length = sz := by omega
  constructor
  · refine RAL_of_get _ _ (by simp [repA_length, hlz]) fun j a ha => ?_
    have hj : j < n * sz := by
      have := (List.getElem?_eq_some_iff.1 ha).1
      rw [repA_length, hlz] at this; exact this
    rw [repA_get zl (by omega) n j (by rw [hlz]; exact hj), hlz] at ha
    obtain ⟨v, hv, hra⟩ := RAL_get _ _ k1 _ _ ha
    refine ⟨v, ?_, hra⟩
    have hm : j % sz < z.cells.size := by rw [hs]; exact Nat.mod_lt _ hp
    rw [Array.getElem?_toList] at hv
    simp only [Array.getElem?_toList, Array.getElem?_map, Array.getElem?_range, hj, if_true, Option.map_some, hs]
    rw [getElem!_pos z.cells (j % sz) hm]
    rw [Array.getElem?_eq_getElem hm] at hv
    exact hv
  · intro u hu
    simp only [Array.toList_map, List.mem_map] at hu
    obtain ⟨i, _, rfl⟩ := hu
    have hm : i % z.cells.size < z.cells.size := Nat.mod_lt _ (by omega)
    rw [getElem!_pos z.cells _ hm]
    exact k2 _ (by simp)

/-! ### Slices made of parts -/
def litO (q : Bool) (o : Option (List D)) : Option (List D) := if q = true then none else o
theorem litO_some {ti : Bool} {o : Option (List D)} {d : List D} (h : litO ti o = some d) : o = some d := by
  unfold litO at h; split at h
  · cases h
  · exact h
def evBS (ti : Ti) (r : Rs) (t : TypeId) (n : Nat) (parts : List (Nat × AV)) : Option (AV × Rs) :=
  match ti t with
  | some ⟨.slice e, _, _, _⟩ => match ti e with
    | some ie => match n with
      | 0 => if parts = [] then some (.sl .full ie.size 0 [], r) else none
      | n + 1 => match zeroA ie.zero with
        | some zl => if parts.all (fun p => liveAV r p.2) = true ∧ 0 < ie.size ∧ (n + 1) * ie.size ≤ 16777216 then
            match fillA (fun i => some (i * ie.size, ie.size)) (repA zl (n + 1)) parts with
            | some out => match litO ti.lit (allD out) with
              | some ds => some (.sl .full ie.size (n + 1) ds, r)
              | none => some (.osl r.length 0 ie.size (n + 1), r ++ [some (.obj out)])
            | none => none
          else none
        | none => none
    | none => none
  | _ => none
theorem fillA_length (place : Nat → Option (Nat × Nat)) : ∀ (pa : List (Nat × AV)) (ca out : List AV), fillA place ca pa = some out → out.length = ca.length
  | [], ca, out, e => by simp only [fillA] at e; injection e with e; subst e; rfl
  | (i, a) :: pa, ca, out, e => by
    simp only [fillA] at e
    split at e
    · split at e
      · rename_i h
        rw [fillA_length place pa _ out e]
        simp only [List.length_append, List.length_take, List.length_drop]
        omega
      · cases e
    · cases e
theorem evBS_sound (hti : TiOK P ti) (hG : Good G E r w) {t : TypeId} {n : Nat} {pa : List (Nat × AV)} {pv : Array (Nat × Value)} {v : AV} {r' : Rs} (hp : RP E r w pa pv.toList) (e : evBS ti r t n pa = some (v, r')) :
    Res1 P G E r w (Instr.buildSlice t n pv) v r' := by
  unfold evBS at e
  split at e
  · rename_i el _ _ _ hte
    have hut := ti_run hti hte w
    split at e
    · rename_i ie hie
      have hsz := ti_size hti hie w
      have hzr := ti_zero hti hie w
      obtain ⟨_, _, _, _, _, _, hzs, _⟩ := hti _ _ hie
      split at e
      · split at e
        · rename_i hpe
          subst hpe
          simp only [Option.some.injEq, Prod.mk.injEq] at e
          obtain ⟨rfl, rfl⟩ := e
          simp only [RP] at hp
          obtain ⟨E', hbl, h1, h2, h3⟩ := row_sound hG (ds := []) (vs := #[]) (by simp [RL]) el
          refine ⟨.slice (some ⟨w.heap.size, 0, none⟩) 0 0, w.alloc (.cells #[] el), E', ?_, ?_, h2, h3⟩
          · have hr0 : Array.range 0 = #[] := rfl
            simp [Instr.buildSlice, hut, hsz, hp, Instr.fill, newRow, newObj, hr0]
            rfl
          · simp only [RA]
            exact ⟨by simp, _, _, rfl, Nat.le_refl _, .inl trivial, rfl⟩
        · cases e
      · rename_i n
        split at e
        · rename_i zl hzl
          split at e
          · rename_i hc
            obtain ⟨hall, hpos, hle⟩ := hc
            split at e
            · rename_i out hout
              obtain ⟨z1, z2⟩ := zeros_sound (E := E) (r := r) (w := w) hzl (n := n + 1) hzs hpos
              obtain ⟨ov, ho1, ho2, ho3⟩ := fillA_sound hG _ pa pv.toList _ _ out hp hall z1 z2 hout
              have hnp : 0 < (n + 1) * ie.size := Nat.mul_pos (by omega) hpos
              have hrun := buildSlice_run (P := P) hut hsz hzr hle ho1 hnp
              have hlen := fillA_length _ _ _ _ hout
              rw [repA_length] at hlen
              have hzl2 : zl.length = ie.size := by
                have := RAL_length _ _ (zeroA_sound (E := E) (r := r) (w := w) hzl).1
                simp only [Array.length_toList] at this; omega
              rw [hzl2] at hlen
              split at e
              · rename_i ds hds
                simp only [Option.some.injEq, Prod.mk.injEq] at e
                obtain ⟨rfl, rfl⟩ := e
                have hrl := allD_sound out _ ds ho2 (litO_some hds) ho3
                have hdl := RL_length _ _ hrl
                have hol := RAL_length _ _ ho2
                obtain ⟨E', hbl, h1, h2, h3⟩ := row_sound hG hrl el
                refine ⟨_, _, E', hrun, ?_, h2, h3⟩
                simp only [RA]
                exact ⟨by omega, _, _, rfl, Nat.le_refl _, .inr ⟨_, rfl, h1⟩, rfl⟩
              · simp only [Option.some.injEq, Prod.mk.injEq] at e
                obtain ⟨rfl, rfl⟩ := e
                have hs := step_push hG (.cells ov el) 0 (some (.obj out))
                refine ⟨_, _, _, hrun, ?_, good_push hG (.cells ov el) 0 (.obj out) ⟨fun k hk => (by cases hk), fun l hl => ?_, fun l hl => (by cases hl)⟩, hs⟩
                · simp only [RA]
                  refine ⟨by simp, _, _, rfl, Nat.le_refl _, fun l hl => ?_⟩
                  simp at hl
                  subst hl
                  exact ⟨by omega, fun _ => ⟨_, updN_same _ _ _, rfl⟩⟩
                · injection hl with hl; subst hl
                  exact ⟨updN_same _ _ _, ov, el, heap_alloc_new w _, ho2.step hs, ho3⟩
            · cases e
          · cases e
        · cases e
    · cases e
  · cases e

/-! ### A row with room, none of it used -/
def evMk (ti : Ti) (r : Rs) (t : TypeId) (l c : AV) : Option (AV × Rs) :=
  match ti t with
  | some ⟨.slice e, _, _, _⟩ => match ti e, intOfA l, intOfA c with
    | some ie, some n, some k => chk (n = 0 ∧ 0 ≤ k ∧ (ie.bytes : Int) * k ≤ 281474976710656 ∧ k ≤ 9223372036854775807) (some (.sl (.own r.length) ie.size 0 [], r ++ [some (.tok 0)]))
    | _, _, _ => none
  | _ => none
theorem evMk_sound (hti : TiOK P ti) (hG : Good G E r w) {t : TypeId} {l c v : AV} {x y : Value} {r' : Rs} (hl : RA E r w l x) (hc : RA E r w c y) (e : evMk ti r t l c = some (v, r')) :
    Res1 P G E r w (Instr.makeSlice t x y) v r' := by
  unfold evMk at e
  split at e
  · rename_i el _ _ _ hte
    split at e
    · rename_i ie n k hie hn hk
      obtain ⟨⟨h0, h1, h2, h3⟩, e⟩ := chk_some e
      simp only [Option.some.injEq, Prod.mk.injEq] at e
      obtain ⟨rfl, rfl⟩ := e
      subst h0
      obtain ⟨kl, rfl⟩ := intOfA_sound hl hn
      obtain ⟨kc, rfl⟩ := intOfA_sound hc hk
      obtain ⟨hut, _⟩ := hti _ _ hte
      obtain ⟨_, fe, hfe, hfs, hfb, hfz, hzs, _⟩ := hti _ _ hie
      have hrun := run_make (P := P) w t el fe ie.zero hut hfe hfz kl kc 0 k (Int.le_refl _) h1 (by rw [hfb]; exact h2) h3
      have hs := step_push hG (.cells (madeCells ie.zero.cells (k.toNat * fe.size)) el) 0 (some (.tok 0))
      refine ⟨_, _, _, hrun, ?_, good_push hG _ 0 (.tok 0) ⟨fun q hq => ?_, fun q hq => (by cases hq), fun q hq => (by cases hq)⟩, hs⟩
      · simp only [RA]
        refine ⟨by simp, _, _, rfl, Nat.zero_le _, .inl trivial, by simp, fun q hq => ?_⟩
        simp at hq
        refine ⟨Nat.zero_le _, fun _ => ?_⟩
        have hbl : (Env.mk (updN E.T w.heap.size 0) (updN E.bl r.length (some w.heap.size))).bl r.length = some w.heap.size := updN_same _ _ _
        rw [hbl]
        refine ⟨rfl, el, ?_⟩
        unfold World.shape?
        rw [heap_alloc_new w _]
        simp only [size_madeCells, hfs]
      · injection hq with hq; subst hq
        exact ⟨updN_same _ _ _, _, el, heap_alloc_new w _, Nat.zero_le _⟩
    · cases e
  · cases e

/-! ### A text as bytes -/
def evSB (ti : Ti) (src dst : TypeId) (x : AV) : Option AV :=
  match ti src, ti dst, x with
  | some _, some ⟨.slice e, _, _, _⟩, .d (.c (.string s)) => match ti e with
    | some ⟨.int .u8, _, _, _⟩ => some (.d (.sl 1 s.size (bD s.toList)))
    | _ => none
  | _, _, _ => none
theorem evSB_sound (hti : TiOK P ti) (hG : Good G E r w) {src dst : TypeId} {x v : AV} {y : Value} (hx : RA E r w x y) (e : evSB ti src dst x = some v) : Res1 P G E r w (convert src dst y) v r := by
  unfold evSB at e
  split at e
  · rename_i _ _ is el _ _ _ s hs hte
    split at e
    · rename_i hel
      injection e with e; subst e
      simp only [RA, RD] at hx
      obtain ⟨rfl, _⟩ := hx
      have hrun := Lib.run_convert_string_bytes (P := P) w src dst el s (ti_u hti hs) (ti_u hti hte) (ti_u hti hel)
      have hL : Lasts E.T w (updN E.T w.heap.size s.size) (Lib.bytesWorld w el s) := by
        refine ⟨fun b => ?_, fun a ha => Lib.bytesWorld_old w el s a (hG.pub_lt ha)⟩
        by_cases hb : b = w.heap.size
        · subst hb; have := hG.fresh _ (Nat.le_refl _); omega
        · rw [updN_ne _ _ _ hb]; exact Nat.le_refl _
      have hst : Step E r w ⟨updN E.T w.heap.size s.size, E.bl⟩ r (Lib.bytesWorld w el s) := by
        refine ⟨rfl, rfl, rfl, by rw [Lib.bytesWorld_size]; omega, fun b hb _ => ⟨Lib.bytesWorld_at_old w el s b hb, updN_ne _ _ _ (by omega)⟩, fun b hb => .inl hb, hL, fun b q hq => ?_, ?_⟩
        · have hb : b < w.heap.size := by
            unfold World.shape? at hq
            rcases Nat.lt_or_ge b w.heap.size with h | h
            · exact h
            · simp [Array.getElem?_eq_none h] at hq
          unfold World.shape? at hq ⊢
          rw [Lib.bytesWorld_at_old w el s b hb]
          exact hq
        · exact ⟨Nat.le_refl _, fun i k' _ h => ⟨k', h, Nat.le_refl _, fun _ => rfl⟩, fun i l' _ h => ⟨l', h, rfl, rfl⟩, fun i l' _ h => ⟨l', h, rfl⟩⟩
      refine ⟨_, _, _, hrun, ?_, ?_, hst⟩
      · simp only [RA, RD]
        refine ⟨by rw [bD_length, toList_size]; omega, _, _, rfl, grownCap_ge w s.size 0 el, .inr ⟨_, rfl, ?_⟩⟩
        refine RM_of_values _ _ _ (RL_bD _ _ _) (fun j u hu => ?_) (by rw [bD_length, toList_size]; simp [updN_same])
        have hj := (List.getElem?_eq_some_iff.1 hu).1
        simp only [List.length_map] at hj
        rw [toList_size] at hj
        rw [addr_plain, Nat.zero_add, Lib.bytesWorld_cell w el s j hj]
        rw [List.getElem?_map, Go.ByteArray.toList_eq] at hu
        have hjl : j < s.data.toList.length := by simpa using hj
        rw [List.getElem?_eq_getElem hjl] at hu
        simp only [Option.map_some, Option.some.injEq] at hu
        rw [← hu, List.getD_eq_getElem?_getD, List.getElem?_eq_getElem hjl]
        rfl
      · refine ⟨fun i k b hi hb => ?_, fun i l hi => ?_, fun i l hi => ?_, hG.one, fun b hb => ?_, fun g => RM.lasts hL _ _ (hG.glob g)⟩
        · obtain ⟨h1, cur, e', h2, h3⟩ := hG.tok i k b hi hb
          have hlt := hG.lt hi hb
          exact ⟨(updN_ne _ _ _ (by omega)).trans h1, cur, e', (Lib.bytesWorld_at_old w el s b hlt).trans h2, h3⟩
        · obtain ⟨b, hb, h1, vs, e', h2, h3, h4⟩ := hG.obj i l hi
          have hlt := hG.lt hi hb
          exact ⟨b, hb, (updN_ne _ _ _ (by omega)).trans h1, vs, e', (Lib.bytesWorld_at_old w el s b hlt).trans h2, h3.step hst, h4⟩
        · obtain ⟨b, hb, h1, h2⟩ := hG.map i l hi
          have hlt := hG.lt hi hb
          exact ⟨b, hb, (updN_ne _ _ _ (by omega)).trans h1, h2.lasts (T' := E.T) (Lib.bytesWorld_at_old w el s b hlt) hL⟩
        · rw [Lib.bytesWorld_size] at hb
          show updN E.T w.heap.size s.size b = 0
          rw [updN_ne _ _ _ (by omega)]
          exact hG.fresh b (by omega)
    · cases e
  · cases e

/-! ### All of them -/
def evStore (ti : Ti) (r : Rs) (t : TypeId) (a x : AV) : Option (AV × Rs) :=
  match ti t, a, cellsAV x with
  | some i, .ptr o off, some cs => match objOf r o with
    | some l => if liveAV r x = true then chk (cs.length = i.size ∧ off + cs.length ≤ l.length) (some (.top, r.set o (some (.obj (splice l off cs))))) else none
    | none => none
  | _, _, _ => none
def evApp (ti : Ti) (r : Rs) (t u : TypeId) (s x : AV) : Option (AV × Rs) :=
  match ti t, ti u with
  | some ⟨.slice e, _, _, _⟩, some iu => match ti e with
    | some ie => match slOf ie.size s, srcOf r ie.size x with
      | some (some mo, n, xs), some (m, ys) => match appRes r xs.length ys.length mo with
        | some (i, r') => match iu.u with
          | .slice _ => chk (0 < ie.size ∧ n + m ≤ 9223372036854775807 ∧ (n + m) * ie.bytes ≤ 140737488355328) (some (.sl (.own i) ie.size (n + m) (xs ++ ys), r'))
          | .string => chk (0 < ie.size ∧ n + m ≤ 9223372036854775807 ∧ (n + m) * ie.bytes ≤ 140737488355328) (some (.sl (.own i) ie.size (n + m) (xs ++ ys), r'))
          | _ => none
        | none => none
      | _, _ => none
    | none => none
  | _, _ => none
/-! ### Bytes of the call's own, marked as a text's -/
def evFz (ti : Ti) (r : Rs) (src dst : TypeId) (x : AV) : Option (AV × Rs) :=
  match ti src, x with
  | some ⟨.slice e, _, _, _⟩, .osl i 0 1 n => if src = dst then (match ti e, objOf r i with
    | some ⟨.int .u8, _, _, _⟩, some l => match allD l with
      | some ds => chk (0 < n ∧ n = l.length) (some (.d (.sl 1 n ds), r.set i none))
      | none => none
    | _, _ => none) else none
  | _, _ => none
theorem freeze_heap {w : World} {b : Nat} {vs : Array Value} {e : TypeId} (h : w.heap[b]? = some (.cells vs e (0, 0))) (k : Nat) : (w.freeze ⟨b, k, none⟩ 1).heap[b]? = some (.cells vs e (k, k + 1)) := by
  unfold World.freeze
  rw [if_neg (by decide)]
  show (w.heap.modify b _)[b]? = _
  rw [Array.getElem?_modify, if_pos rfl, h]
  rfl
theorem freeze_other {w : World} {b c k : Nat} (h : c ≠ b) : (w.freeze ⟨b, k, none⟩ 1).heap[c]? = w.heap[c]? := by
  unfold World.freeze
  rw [if_neg (by decide)]
  show (w.heap.modify b _)[c]? = _
  rw [Array.getElem?_modify, if_neg (Ne.symm h)]
theorem freeze_size {w : World} {b k : Nat} : (w.freeze ⟨b, k, none⟩ 1).heap.size = w.heap.size := by
  unfold World.freeze
  rw [if_neg (by decide)]
  show (w.heap.modify b _).size = _
  rw [Array.size_modify]
theorem freeze_shape {w : World} {b k : Nat} {vs : Array Value} {e : TypeId} (h : w.heap[b]? = some (.cells vs e (0, 0))) (c : Nat) : (w.freeze ⟨b, k, none⟩ 1).shape? c = w.shape? c := by
  unfold World.shape?
  by_cases hc : c = b
  · subst hc; rw [freeze_heap h, h]
  · rw [freeze_other hc]
theorem freeze_cell {w : World} {b k : Nat} {vs : Array Value} {e : TypeId} (h : w.heap[b]? = some (.cells vs e (0, 0))) (a : Addr) : (w.freeze ⟨b, k, none⟩ 1).cell? a = w.cell? a := by
  unfold World.cell?
  by_cases hc : a.block = b
  · rw [hc, freeze_heap h, h]
  · rw [freeze_other hc]
theorem getElem?_setnone {r : Rs} {i j : Nat} {x : Res} (h : (r.set i none)[j]? = some (some x)) : j ≠ i ∧ r[j]? = some (some x) := by
  rcases getElem?_set_cases h with ⟨_, h2⟩ | h2
  · cases h2
  · exact h2
theorem evFz_sound (hti : TiOK P ti) (hG : Good G E r w) {src dst : TypeId} {x v : AV} {y : Value} {r' : Rs} (hx : RA E r w x y) (e : evFz ti r src dst x = some (v, r')) : Res1 P G E r w (convert src dst y) v r' := by
  unfold evFz at e
  split at e
  · rename_i el _ _ _ i n hsrc
    split at e
    · rename_i hsd
      subst hsd
      split at e
      · rename_i l hel hl
        split at e
        · rename_i ds hds
          obtain ⟨⟨hn, hnl⟩, e⟩ := chk_some e
          simp only [Option.some.injEq, Prod.mk.injEq] at e
          obtain ⟨rfl, rfl⟩ := e
          simp only [RA] at hx
          obtain ⟨hir, A, c, rfl, hnc, hx⟩ := hx
          obtain ⟨hfit, hx⟩ := hx l (objOf_some hl)
          obtain ⟨b, hb, rfl⟩ := hx hn
          obtain ⟨b2, hb2, hT, vs, e2, hh, hral, hone⟩ := hG.obj i l (objOf_some hl)
          rw [hb] at hb2; injection hb2 with hb2; subst hb2
          have hvl := RAL_length _ _ hral
          have hrl := allD_sound l _ ds hral hds hone
          have hdl := RL_length _ _ hrl
          have hlt : b < w.heap.size := hG.lt (objOf_some hl) hb
          have hsh : w.shape? b = some (e2, vs.size) := by unfold World.shape?; rw [hh]
          have hrun : (convert src src (.slice (some ⟨b, 0, none⟩) n c)).run P w = .ok (.slice (some ⟨b, 0, none⟩) n c) (w.freeze ⟨b, vs.size, none⟩ 1) := by
            simp [convert, run_underlying (ti_u hti hsrc), run_underlying (ti_u hti hel), markStringish, hsh]
          have hL : Lasts E.T w (updN E.T b vs.size) (w.freeze ⟨b, vs.size, none⟩ 1) := by
            refine ⟨fun q => ?_, fun a _ => freeze_cell hh a⟩
            by_cases hq : q = b
            · subst hq; rw [updN_same, hT]; omega
            · rw [updN_ne _ _ _ hq]; exact Nat.le_refl _
          have hne : ∀ {j : Nat} {x : Res}, (r.set i none)[j]? = some (some x) → r[j]? = some (some x) ∧ E.bl j ≠ some b := by
            intro j x hj
            obtain ⟨hji, hj⟩ := getElem?_setnone hj
            exact ⟨hj, fun hbj => hji (hG.one j i x _ b hj (objOf_some hl) hbj hb)⟩
          have hS : Step E r w ⟨updN E.T b vs.size, E.bl⟩ (r.set i none) (w.freeze ⟨b, vs.size, none⟩ 1) := by
            refine ⟨?_, ?_, ?_, by rw [freeze_size]; exact Nat.le_refl _, fun q hq hno => ?_, fun q ⟨j, x, hj, hbj⟩ => .inl ⟨j, x, (hne hj).1, hbj⟩, hL, fun q s hs => (freeze_shape hh q).trans hs, ⟨by simp, fun j k _ hj => ?_, fun j k _ hj => ?_, fun j k _ hj => ?_⟩⟩
            · unfold World.freeze; split <;> rfl
            · unfold World.freeze; split <;> rfl
            · unfold World.freeze; split <;> rfl
            · have hqb : q ≠ b := fun h => hno ⟨i, _, objOf_some hl, h ▸ hb⟩
              exact ⟨freeze_other hqb, updN_ne _ _ _ hqb⟩
            · exact ⟨k, (hne hj).1, Nat.le_refl _, fun _ => rfl⟩
            · exact ⟨k, (hne hj).1, rfl, rfl⟩
            · exact ⟨k, (hne hj).1, rfl⟩
          refine ⟨_, _, ⟨updN E.T b vs.size, E.bl⟩, hrun, ?_, ?_, hS⟩
          · simp only [RA, RD]
            simp only [Array.length_toList] at hvl hdl
            refine ⟨by omega, _, _, rfl, hnc, .inr ⟨_, rfl, ?_⟩⟩
            refine RM_of_values _ _ vs.toList (RL.lasts hL _ _ hrl) (fun j u hj => ?_) (by simp [updN_same]; omega)
            rw [addr_plain, freeze_cell hh, cell_of_row w b _ vs e2 (0, 0) hh]
            simpa using hj
          · refine ⟨fun j k q hj hq => ?_, fun j k hj => ?_, fun j k hj => ?_, fun j k x y q hj hk hbj hbk => hG.one j k x y q (hne hj).1 (hne hk).1 hbj hbk, fun q hq => ?_, fun g => RM.lasts hL _ _ (hG.glob g)⟩
            · obtain ⟨hj, hjb⟩ := hne hj
              have hqb : q ≠ b := fun h => hjb (h ▸ hq)
              obtain ⟨h1, cur, e3, h2, h3⟩ := hG.tok j k q hj hq
              exact ⟨(updN_ne _ _ _ hqb).trans h1, cur, e3, (freeze_other hqb).trans h2, h3⟩
            · obtain ⟨hj, hjb⟩ := hne hj
              obtain ⟨q, hq, h1, vs3, e3, h2, h3, h4⟩ := hG.obj j k hj
              have hqb : q ≠ b := fun h => hjb (h ▸ hq)
              exact ⟨q, hq, (updN_ne _ _ _ hqb).trans h1, vs3, e3, (freeze_other hqb).trans h2, h3.step hS, h4⟩
            · obtain ⟨hj, hjb⟩ := hne hj
              obtain ⟨q, hq, h1, h2⟩ := hG.map j k hj
              have hqb : q ≠ b := fun h => hjb (h ▸ hq)
              exact ⟨q, hq, (updN_ne _ _ _ hqb).trans h1, h2.lasts (T' := E.T) (freeze_other hqb) hL⟩
            · rw [freeze_size] at hq
              show updN E.T b vs.size q = 0
              rw [updN_ne _ _ _ (by omega)]
              exact hG.fresh q hq
        · cases e
      · cases e
    · cases e
  · cases e
def evCB (ti : Ti) (r : Rs) (src dst : TypeId) (x : AV) : Option (AV × Rs) := match evSB ti src dst x with
  | some v => some (v, r)
  | none => evFz ti r src dst x
theorem evCB_no {ti : Ti} {r r' : Rs} {src dst : TypeId} {x v : AV} (h : ∀ e s b z, ti dst ≠ some ⟨.slice e, s, b, z⟩) : evCB ti r src dst x ≠ some (v, r') := by
  intro e
  unfold evCB at e
  split at e
  · rename_i u hu
    unfold evSB at hu
    split at hu
    · rename_i hd; exact h _ _ _ _ hd
    · cases hu
  · unfold evFz at e
    split at e
    · split at e
      · rename_i hsd
        subst hsd
        exact h _ _ _ _ (by assumption)
      · cases e
    · cases e
theorem evCB_sound (hti : TiOK P ti) (hG : Good G E r w) {src dst : TypeId} {x v : AV} {y : Value} {r' : Rs} (hx : RA E r w x y) (e : evCB ti r src dst x = some (v, r')) : Res1 P G E r w (convert src dst y) v r' := by
  unfold evCB at e
  split at e
  · rename_i u hu
    simp only [Option.some.injEq, Prod.mk.injEq] at e
    obtain ⟨rfl, rfl⟩ := e
    exact evSB_sound hti hG hx hu
  · exact evFz_sound hti hG hx e
def evR (ti : Ti) (ρ : Operand → AV) (r : Rs) : Op → Option (AV × Rs)
  | .box _ x => match cellsAV (ρ x) with
    | some cs => if liveAV r (ρ x) = true then some (.ptr r.length 0, r ++ [some (.obj cs)]) else none
    | none => none
  | .alloc e => match ti e with
    | some i => (zeroA i.zero).map fun cs => (.ptr r.length 0, r ++ [some (.obj cs)])
    | none => none
  | .store t a x => evStore ti r t (ρ a) (ρ x)
  | .buildSlice t n parts => evBS ti r t n (parts.toList.map fun p => (p.1, ρ p.2))
  | .makeSlice t l c => evMk ti r t (ρ l) (ρ c)
  | .convert s d x => evCB ti r s d (ρ x)
  | .call c => match c.callee with
    | .builtin .append => match c.args.toList, c.argTypes.toList with
      | [s, x], [t, u] => evApp ti r t u (ρ s) (ρ x)
      | _, _ => none
    | _ => none
  | _ => none
/-- What an operation comes to, as the machine sees it. -/
def Res2 (P : Program) (G : GR) (E : Env) (r : Rs) (w : World) (s : Sem Next) (v : AV) (r' : Rs) : Prop :=
  ∃ x w' E', (s.run P w = .ok (.value x) w' ∨ (s.run P w = .ok .skip w' ∧ x = undef)) ∧ RA E' r' w' v x ∧ Good G E' r' w' ∧ Step E r w E' r' w'
theorem Res1.two {s : Sem Value} {v : AV} {r' : Rs} (h : Res1 P G E r w s v r') {s' : Sem Next} (hs : ∀ x w', s.run P w = .ok x w' → s'.run P w = .ok (.value x) w') : Res2 P G E r w s' v r' := by
  obtain ⟨x, w', E', h1, h2⟩ := h
  exact ⟨x, w', E', .inl (hs x w' h1), h2⟩
theorem evR_sound (hti : TiOK P ti) (hG : Good G E r w) {ρ : Operand → AV} {α : Operand → Value} (hev : ∀ x, RA E r w (ρ x) (α x))
    {o : Oper} {v : AV} {r' : Rs} (e : evR ti ρ r o.op = some (v, r')) : Res2 P G E r w (execOp α o) v r' := by
  cases ho : o.op <;> rw [ho] at e <;> simp only [evR, reduceCtorEq] at e
  case box t x =>
    split at e
    · rename_i cs hcs
      split at e
      · rename_i hlv
        simp only [Option.some.injEq, Prod.mk.injEq] at e
        obtain ⟨rfl, rfl⟩ := e
        obtain ⟨k1, k2⟩ := cellsAV_sound hG (hev x) hcs (liveAV_sound (hev x) hlv)
        exact (box_sound (P := P) hG k1 k2 t).two fun x w' h => by simp [execOp, ho, h]
      · cases e
    · cases e
  case alloc t =>
    split at e
    · rename_i i hi
      simp only [Option.map_eq_some_iff, Prod.mk.injEq] at e
      obtain ⟨cs, hcs, rfl, rfl⟩ := e
      exact (alloc_sound hti hG hi hcs).two fun x w' h => by simp [execOp, ho, h]
    · cases e
  case store t a x =>
    unfold evStore at e
    split at e
    · rename_i i o' off cs hi ha hcs
      split at e
      · rename_i l hl
        split at e
        · rename_i hlv
          obtain ⟨⟨h1, h2⟩, e⟩ := chk_some e
          simp only [Option.some.injEq, Prod.mk.injEq] at e
          obtain ⟨rfl, rfl⟩ := e
          obtain ⟨k1, k2⟩ := cellsAV_sound hG (hev x) hcs (liveAV_sound (hev x) hlv)
          have hav := hev a
          rw [ha] at hav
          obtain ⟨w', E', h3, h4, h5⟩ := store_sound (P := P) hti hG hi hl hav k1 k2 h1 h2
          rw [splice_eq h2]
          exact ⟨undef, w', E', .inr ⟨by simp [execOp, ho, h3], rfl⟩, by simp [RA], h4, h5⟩
        · cases e
      · cases e
    · cases e
  case buildSlice t n parts =>
    exact (evBS_sound (P := P) hti hG (pv := parts.map fun p => (p.1, α p.2)) (by simpa using RP_ev hev parts.toList) e).two fun x w' h => by simp [execOp, ho, h]
  case makeSlice t l c =>
    exact (evMk_sound (P := P) hti hG (hev l) (hev c) e).two fun x w' h => by simp [execOp, ho, h]
  case convert s d x =>
    exact (evCB_sound (P := P) hti hG (hev x) e).two fun x w' h => by simp [execOp, ho, h]
  case call c =>
    split at e
    · rename_i hc
      split at e
      · rename_i s x t u hx ht
        unfold evApp at e
        split at e
        · rename_i el _ _ _ iu hte hue
          split at e
          · rename_i ie hie
            split at e
            · rename_i mo n xs m ys hsl hsr
              split at e
              · rename_i i r2 hap
                have fin : Src iu.u → (0 < ie.size ∧ n + m ≤ 9223372036854775807 ∧ (n + m) * ie.bytes ≤ 140737488355328) → v = .sl (.own i) ie.size (n + m) (xs ++ ys) → r' = r2 → Res2 P G E r w (execOp α o) v r' := by
                  rintro hsrc ⟨h1, h2, h3⟩ rfl rfl
                  refine (append_sound (P := P) (ty := o.type) hti hG hte hie hue hsrc h1 (hev s) (hev x) hsl hsr h2 h3 hap).two fun z w' h => ?_
                  simp [execOp, ho, resolve, hc, toList_two hx, toList_two ht, invoke, builtin, h]
                split at e
                · rename_i hiu
                  obtain ⟨h1, e⟩ := chk_some e
                  simp only [Option.some.injEq, Prod.mk.injEq] at e
                  exact fin (.inl ⟨_, hiu⟩) h1 e.1.symm e.2.symm
                · rename_i hiu
                  obtain ⟨h1, e⟩ := chk_some e
                  simp only [Option.some.injEq, Prod.mk.injEq] at e
                  exact fin (.inr hiu) h1 e.1.symm e.2.symm
                · cases e
              · cases e
            · cases e
          · cases e
        · cases e
      · cases e
    · cases e
end Go.Proofs.Ythdjblfiiogmgaa
/- The frame of these proofs, part O: code over what stands in the slots: straight runs, tests, blocks, loops. -/
set_option linter.unusedVariables false
set_option linter.unusedSimpArgs false
namespace Go.Proofs.Ythdjblfiiogmgaa
open Go

/-! ### Any operation that is no call -/
def evA (ti : Ti) (ρ : Operand → AV) (r : Rs) (op : Op) : Option (AV × Rs) :=
  match op with
  | .box e x => evR ti ρ r (.box e x)
  | .alloc e => evR ti ρ r (.alloc e)
  | .store t a x => evR ti ρ r (.store t a x)
  | .buildSlice t n p => evR ti ρ r (.buildSlice t n p)
  | .makeSlice t l c => evR ti ρ r (.makeSlice t l c)
  | .convert s d x => match evConv ti s d (ρ x) with
    | some v => some (v, r)
    | none => evR ti ρ r (.convert s d x)
  | .call c => match c.callee with
    | .builtin .append => evR ti ρ r (.call c)
    | _ => (evCall ti ρ r c).map fun v => (v, r)
  | op => (evP ti ρ r op).map fun v => (v, r)
theorem evA_sound {P : Program} {ti : Ti} (hti : TiOK P ti) {G : GR} {E : Env} {r : Rs} {w : World} (hG : Good G E r w) {ρ : Operand → AV} {α : Operand → Value} (hev : ∀ x, RA E r w (ρ x) (α x))
    {o : Oper} {v : AV} {r' : Rs} (e : evA ti ρ r o.op = some (v, r')) : Res2 P G E r w (execOp α o) v r' := by
  have pure : ∀ op, o.op = op → (evP ti ρ r op).map (fun v => (v, r)) = some (v, r') → Res2 P G E r w (execOp α o) v r' := by
    intro op ho h
    simp only [Option.map_eq_some_iff, Prod.mk.injEq] at h
    obtain ⟨u, hu, rfl, rfl⟩ := h
    obtain ⟨z, h1, h2⟩ := evP_sound (P := P) hti hG hev (o := o) (by rw [ho]; exact hu)
    exact ⟨z, w, E, .inl h1, h2, hG, Step.refl _ _ _⟩
  cases ho : o.op <;> rw [ho] at e <;> unfold evA at e
  case box => exact evR_sound hti hG hev (by rw [ho]; exact e)
  case alloc => exact evR_sound hti hG hev (by rw [ho]; exact e)
  case store => exact evR_sound hti hG hev (by rw [ho]; exact e)
  case buildSlice => exact evR_sound hti hG hev (by rw [ho]; exact e)
  case makeSlice => exact evR_sound hti hG hev (by rw [ho]; exact e)
  case convert s d x =>
    simp only at e
    split at e
    · rename_i u hu
      simp only [Option.some.injEq, Prod.mk.injEq] at e
      exact pure _ ho (by simp only [evP, hu, Option.map_some, e.1, e.2])
    · exact evR_sound hti hG hev (by rw [ho]; exact e)
  case call c =>
    simp only at e
    split at e
    · exact evR_sound hti hG hev (by rw [ho]; exact e)
    · exact pure _ ho (by simpa only [evP] using e)
  all_goals exact pure _ ho e

/-- 'k' of what an option holds. -/
def bindP {α : Type} : Option α → (α → Prop) → Prop
  | some a, k => k a
  | none, _ => False
theorem bindP_some {α : Type} (a : α) (k : α → Prop) : bindP (some a) k = k a := rfl
theorem bindP_none {α : Type} (k : α → Prop) : bindP none k = False := rfl
theorem bindP_chk {α : Type} (c : Prop) [Decidable c] (x : Option α) (k : α → Prop) : bindP (chk c x) k = (c ∧ bindP x k) := by
  unfold chk
  split
  · simp [*]
  · simp [*, bindP]
theorem bindP_congr {α : Type} {x y : Option α} {k : α → Prop} (h : x = y) : bindP x k = bindP y k := by rw [h]
theorem map_chk {α β : Type} (c : Prop) [Decidable c] (x : Option α) (f : α → β) : (chk c x).map f = chk c (x.map f) := by
  unfold chk; split <;> rfl
theorem bind_chk {α β : Type} (c : Prop) [Decidable c] (x : Option α) (f : α → Option β) : (chk c x).bind f = chk c (x.bind f) := by
  unfold chk; split <;> rfl
theorem bindP_elim {α : Type} {x : Option α} {k : α → Prop} (h : bindP x k) : ∃ a, x = some a ∧ k a := by
  cases x with
  | none => exact h.elim
  | some a => exact ⟨a, rfl, h⟩

/-! ### The judgement -/
abbrev Kt := Exit → St → Prop
def lift (G : GR) (N : Nat) (E0 : Env) (r0 : Rs) (w0 : World) (K : Kt) : Exit → Act → World → Prop := fun e a w => ∃ σ E, K e σ ∧ Rel G N E σ a w ∧ Step E0 r0 w0 E σ.r w

section
/-- All calls are let in; a round of a range over a function is walked, if 'ro' says so. -/
def fcR (G : GR) : Fence := { Fence.wide with round := G.ro }
variable (P : Program) (ti : Ti) (G : GR) (N : Nat)
def Holds (c : Code) (K : Kt) (σ : St) : Prop := ∀ E0 r0 w0 E a w, Rel G N E σ a w → Step E0 r0 w0 E σ.r w → c.wpIn (fcR G) 0 P (lift G N E0 r0 w0 K) a w
def HL (ops : Array Oper) (l : List Oper) (K : Kt) (σ : St) : Prop := ∀ E0 r0 w0 E a w, Rel G N E σ a w → Step E0 r0 w0 E σ.r w → wpListIn (fcR G) 0 P ops (lift G N E0 r0 w0 K) l a w
/-- Is an operation wanted? -/
def gd (ops : Array Oper) (σ : St) (o : Oper) : Option Bool :=
  match o.guard with
  | none => some true
  | some (j, want) => match (ops[j]?).bind (·.dst) with
    | some d => match σ.get d with
      | .d (.c (.bool b)) => some (b == want)
      | .tup _ => some false
      | _ => none
    | none => none
def dstOK (o : Oper) : Bool := match o.dst with
  | some d => decide (d < N)
  | none => true
end
section
variable {P : Program} {ti : Ti} {G : GR} {N : Nat}

theorem gd_sound {E : Env} {σ : St} {a : Act} {w : World} (h : Rel G N E σ a w) {ops : Array Oper} {o : Oper} {t : Bool} (e : gd ops σ o = some t) : Region.wanted o (yielded ops a.tmps) = t := by
  unfold gd at e
  unfold Region.wanted
  split at e
  · rename_i hg; injection e with e; subst e; simp [hg]
  · rename_i j want hg
    split at e
    · rename_i d hd
      split at e
      · rename_i b hb
        injection e with e
        have hs := h.slot d
        rw [hb] at hs
        simp only [RA, RD] at hs
        have hy : yielded ops a.tmps j = some b := by
          unfold yielded
          rw [hd]
          have hx : a.tmps[d]? = some (.bool b) := by
            have := hs.1
            rw [Array.getD_eq_getD_getElem?] at this
            cases hq : a.tmps[d]? with
            | none => rw [hq] at this; simp [undef] at this
            | some v => rw [hq] at this; simp at this; rw [this]
          simp only [Option.bind_some, hx]
        simp only [hg, hy]
        rw [← e]
        cases b <;> cases want <;> rfl
      · rename_i vs hb
        injection e with e
        have hs := h.slot d
        rw [hb] at hs
        simp only [RA] at hs
        obtain ⟨us, hs, _⟩ := hs
        have hy : yielded ops a.tmps j = none := by
          unfold yielded
          rw [hd]
          simp only [Option.bind_some]
          cases hq : a.tmps[d]? with
          | none => rfl
          | some v =>
            rw [Array.getD_eq_getD_getElem?, hq] at hs
            simp at hs; rw [hs]
        simp only [hg, hy]
        rw [← e]
        rfl
      · cases e
    · cases e
theorem Rel.putO {E E' : Env} {σ : St} {a : Act} {w w' : World} {r' : Rs} (h : Rel G N E σ a w) (hs : Step E σ.r w E' r' w') (hg : Good G E' r' w') {o : Oper} (hd : dstOK N o = true) {v : AV} {x : Value} (hv : RA E' r' w' v x) :
    Rel G N E' { σ.putO o.dst v with r := r' } (a.put o.dst x) w' := by
  cases hdst : o.dst with
  | none =>
    have : ({ σ.putO none v with r := r' } : St) = { σ with r := r' } := rfl
    rw [this]
    exact h.move hs hg
  | some d =>
    have hlt : d < N := by simpa [dstOK, hdst] using hd
    exact h.put hs hg hlt hv
theorem wpList_mono' {F : Fence} {n : Nat} {ops : Array Oper} {Q Q' : Exit → Act → World → Prop} (hq : ∀ e a w, Q e a w → Q' e a w) : ∀ (l : List Oper) (a : Act) (w : World), wpListIn F n P ops Q l a w → wpListIn F n P ops Q' l a w
  | [], a, w, h => hq _ _ _ h
  | o :: rest, a, w, h => by
    unfold wpListIn at h ⊢
    by_cases hw : Region.wanted o (yielded ops a.tmps) = true
    · rw [if_pos hw] at h ⊢
      have hlo : LetsOut Q → LetsOut Q' := fun ⟨a, w, h⟩ => ⟨a, w, hq _ _ _ h⟩
      unfold Oper.wpIn at h ⊢
      refine ⟨h.1, ?_⟩
      have h := h.2
      generalize (o.semAt F.round a.eval).run P w = res at h ⊢
      cases res with
      | ok x w' =>
        cases x <;> simp only [Oper.uponIn] at h ⊢ <;> first
          | exact wpList_mono' hq rest _ _ h
          | exact ⟨h.1, CallsIn.mono h.2 (fun e w'' he => by cases e <;> first | exact wpList_mono' hq rest _ _ he | exact hq _ _ _ he | exact hlo he)⟩
          | exact ⟨h.1, RowsIn.mono h.2 (fun _ _ he => wpList_mono' hq rest _ _ he)⟩
          | exact ⟨h.1, RoundIn.mono h.2 (fun e w'' he => by cases e <;> first | exact wpList_mono' hq rest _ _ he | exact hq _ _ _ he | exact hlo he)⟩
      | halt x w' => cases x <;> simp only [Oper.uponIn] at h ⊢ <;> first | exact h | exact hq _ _ _ h
    · rw [if_neg hw] at h ⊢
      exact ⟨h.1, wpList_mono' hq rest _ _ h.2⟩
theorem fcR_fn (G : GR) (f : FuncId) : (fcR G).fn f := trivial
theorem HL_nil {ops : Array Oper} {K : Kt} {σ : St} (h : K .normal σ) : HL P G N ops [] K σ := fun E0 r0 w0 E a w hR hS => ⟨σ, E, h, hR, hS⟩
theorem HL_op (hti : TiOK P ti) {ops : Array Oper} {o : Oper} {rest : List Oper} {K : Kt} {σ : St} {v : AV} {r' : Rs} (hd : dstOK N o = true) (hg : gd ops σ o = some true) (e : evA ti (σ.ev G) σ.r o.op = some (v, r'))
    (h : HL P G N ops rest K { σ.putO o.dst v with r := r' }) : HL P G N ops (o :: rest) K σ := by
  intro E0 r0 w0 E a w hR hS
  unfold wpListIn
  rw [if_pos (gd_sound hR hg)]
  have hnd : ∀ c, o.op ≠ .defer c := fun c hc => by rw [hc] at e; simp [evA, evP] at e
  obtain ⟨x, w', E', hrun, hra, hgood, hst⟩ := evA_sound (P := P) hti hR.good (fun y => ev_sound hR y) e
  have hrel := hR.putO hst hgood hd hra
  have fin := h E0 r0 w0 E' (a.put o.dst x) w' hrel (hS.trans hst)
  refine ⟨fun f _ => fcR_fn G f, ?_⟩
  rw [Oper.semAt_eq _ _ _ hnd]
  rcases hrun with hrun | ⟨hrun, rfl⟩
  · rw [hrun, Oper.uponIn_value]; exact fin
  · rw [hrun, Oper.uponIn_skip]; exact fin
/-- What a slot holds behind an operation that was not wanted. -/
abbrev undA : AV := .tup []
theorem HL_skip {ops : Array Oper} {o : Oper} {rest : List Oper} {K : Kt} {σ : St} (hd : dstOK N o = true) (hg : gd ops σ o = some false) (h : HL P G N ops rest K (σ.putO o.dst undA)) : HL P G N ops (o :: rest) K σ := by
  intro E0 r0 w0 E a w hR hS
  unfold wpListIn
  rw [if_neg (by rw [gd_sound hR hg]; simp)]
  refine ⟨fun f _ => fcR_fn G f, ?_⟩
  have hrel := hR.putO (r' := σ.r) (Step.refl _ _ _) hR.good hd (v := undA) (x := undef) (by simp [RA, RAL, undef])
  have he : ({ σ.putO o.dst undA with r := σ.r } : St) = σ.putO o.dst undA := by cases o.dst <;> rfl
  rw [he] at hrel
  have hr : (σ.putO o.dst undA).r = σ.r := by cases o.dst <;> rfl
  exact h E0 r0 w0 E _ w hrel (by rw [hr]; exact hS)

def St.putR (σ : St) (d : Option Tmp) (v : AV) (r' : Rs) : St := ⟨σ.b, match d with | some i => (i, v) :: σ.l | none => σ.l, r'⟩
theorem putR_eq (σ : St) (d : Option Tmp) (v : AV) (r' : Rs) : ({ σ.putO d v with r := r' } : St) = σ.putR d v r' := by cases d <;> rfl
theorem putO_eq (σ : St) (d : Option Tmp) (v : AV) : σ.putO d v = σ.putR d v σ.r := by cases d <;> rfl
/-! ### A straight run -/
/-- Calls stop the run: they want a contract. -/
def stops : Op → Bool
  | .call c => match c.callee with
    | .builtin .len => false
    | .builtin .min => false
    | .builtin .max => false
    | .builtin .append => false
    | _ => true
  | .mapUpdate _ _ _ _ => true
  | .lookup _ _ _ _ => true
  | .makeMap _ _ => true
  | _ => false
def isApp : Op → Bool
  | .call c => match c.callee with
    | .builtin .append => true
    | _ => false
  | _ => false
/-- .. and an append, where rows are the call's own. -/
def stp (ti : Ti) (op : Op) : Bool := stops op || (isApp op && ti.lit)
def evk (ti : Ti) (G : GR) (ops : Array Oper) : List Oper → St → (List Oper → St → Prop) → Prop
  | [], σ, k => k [] σ
  | o :: rest, σ, k => bindP (gd ops σ o) fun t =>
      (t = true → if stp ti o.op = true then k (o :: rest) σ else bindP (evA ti (σ.ev G) σ.r o.op) fun q => evk ti G ops rest (σ.putR o.dst q.1 q.2) k) ∧
      (t = false → evk ti G ops rest (σ.putR o.dst undA σ.r) k)
theorem evk_sound (hti : TiOK P ti) {ops : Array Oper} {K : Kt} : ∀ (l : List Oper) (σ : St), l.all (dstOK N) = true → evk ti G ops l σ (fun rest σ' => HL P G N ops rest K σ') → HL P G N ops l K σ
  | [], σ, _, h => h
  | o :: rest, σ, hd, h => by
    simp only [List.all_cons, Bool.and_eq_true] at hd
    unfold evk at h
    obtain ⟨t, ht, h1, h2⟩ := bindP_elim h
    cases t with
    | true =>
      have h1 := h1 rfl
      split at h1
      · exact h1
      · obtain ⟨⟨v, r'⟩, hq, h3⟩ := bindP_elim h1
        exact HL_op hti hd.1 ht hq (by rw [putR_eq]; exact evk_sound hti rest _ hd.2 h3)
    | false => exact HL_skip hd.1 ht (by rw [putO_eq]; exact evk_sound hti rest _ hd.2 (h2 rfl))

/-! ### Code -/
def seqK (k : St → Prop) (K : Kt) : Kt
  | .normal, σ => k σ
  | e, σ => K e σ
def blockK (id : Nat) (K : Kt) : Kt
  | .exit i, σ => if i = id then K .normal σ else K (.exit i) σ
  | e, σ => K e σ
theorem Holds_seq {x y : Code} {K : Kt} {σ : St} (h : Holds P G N x (seqK (fun σ' => Holds P G N y K σ') K) σ) : Holds P G N (.seq x y) K σ := by
  intro E0 r0 w0 E a w hR hS
  refine wpIn_seq (wpIn_mono (h E0 r0 w0 E a w hR hS) fun e a' w' hq => ?_)
  obtain ⟨σ', E', hk, hR', hS'⟩ := hq
  cases e with
  | normal => exact hk E0 r0 w0 E' a' w' hR' hS'
  | _ => exact ⟨σ', E', hk, hR', hS'⟩
theorem Holds_block {id : Nat} {c : Code} {K : Kt} {σ : St} (h : Holds P G N c (blockK id K) σ) : Holds P G N (.block id c) K σ := by
  intro E0 r0 w0 E a w hR hS
  refine wpIn_block (wpIn_mono (h E0 r0 w0 E a w hR hS) fun e a' w' hq => ?_)
  obtain ⟨σ', E', hk, hR', hS'⟩ := hq
  cases e with
  | exit i =>
    simp only [blockK] at hk
    simp only [Exit.inBlock]
    split
    · rename_i hi; rw [if_pos hi] at hk; exact ⟨σ', E', hk, hR', hS'⟩
    · rename_i hi; rw [if_neg hi] at hk; exact ⟨σ', E', hk, hR', hS'⟩
  | _ => exact ⟨σ', E', hk, hR', hS'⟩
theorem Holds_mono {c : Code} {K K' : Kt} {σ : St} (hk : ∀ e σ', K e σ' → K' e σ') (h : Holds P G N c K σ) : Holds P G N c K' σ := by
  intro E0 r0 w0 E a w hR hS
  refine wpIn_mono (h E0 r0 w0 E a w hR hS) fun e a' w' hq => ?_
  obtain ⟨σ', E', h1, h2⟩ := hq
  exact ⟨σ', E', hk _ _ h1, h2⟩
theorem Holds_region {id : Nat} {ops : Array Oper} {K : Kt} {σ : St} (h : HL P G N ops ops.toList K σ) : Holds P G N (.region id ops false) K σ :=
  fun E0 r0 w0 E a w hR hS => wpIn_region_list (h E0 r0 w0 E a w hR hS)
theorem Holds_cond {c : Operand} {x y : Code} {K : Kt} {σ : St} {t : Bool} (hc : σ.ev G c = .d (.c (.bool t))) (h1 : t = true → Holds P G N x K σ) (h2 : t = false → Holds P G N y K σ) : Holds P G N (.cond c x y) K σ := by
  intro E0 r0 w0 E a w hR hS
  have hev := ev_sound hR c
  rw [hc] at hev
  simp only [RA, RD] at hev
  cases t with
  | true => exact wpIn_cond_true hev.1 (h1 rfl E0 r0 w0 E a w hR hS)
  | false => exact wpIn_cond_false hev.1 (h2 rfl E0 r0 w0 E a w hR hS)
def boolOfA : AV → Option Bool
  | .d (.c (.bool t)) => some t
  | _ => none
theorem boolOfA_some {a : AV} {t : Bool} (h : boolOfA a = some t) : a = .d (.c (.bool t)) := by
  unfold boolOfA at h
  split at h
  · injection h with h; subst h; rfl
  · cases h
variable (P G N) in
def endK (ops : Array Oper) (K : Kt) : List Oper → St → Prop
  | [], σ' => K .normal σ'
  | o :: rest, σ' => HL P G N ops (o :: rest) K σ'
variable (P ti G N) in
/-- A run through code, up to calls, loops and what draws its order. -/
def run : Code → Kt → St → Prop
  | .skip, K, σ => K .normal σ
  | .region id ops draw, K, σ => match draw with
    | true => Holds P G N (.region id ops true) K σ
    | false => ops.toList.all (dstOK N) = true ∧ evk ti G ops ops.toList σ (endK P G N ops K)
  | .seq x y, K, σ => run x (seqK (fun σ' => run y K σ') K) σ
  | .cond c x y, K, σ => bindP (boolOfA (σ.ev G c)) fun t => (t = true → run x K σ) ∧ (t = false → run y K σ)
  | .block id c, K, σ => run c (blockK id K) σ
  | .exit id, K, σ => K (.exit id) σ
  | .ret, K, σ => K .ret σ
  | c, K, σ => Holds P G N c K σ
theorem HL_mono {ops : Array Oper} {l : List Oper} {K K' : Kt} {σ : St} (hk : ∀ e σ', K e σ' → K' e σ') (h : HL P G N ops l K σ) : HL P G N ops l K' σ := by
  intro E0 r0 w0 E a w hR hS
  refine wpList_mono' (fun e a' w' hq => ?_) l a w (h E0 r0 w0 E a w hR hS)
  obtain ⟨σ', E', h1, h2⟩ := hq
  exact ⟨σ', E', hk _ _ h1, h2⟩
theorem evk_mono {ops : Array Oper} : ∀ (l : List Oper) (σ : St) (k k' : List Oper → St → Prop), (∀ rest σ', k rest σ' → k' rest σ') → evk ti G ops l σ k → evk ti G ops l σ k'
  | [], σ, k, k', hk, h => hk _ _ h
  | o :: rest, σ, k, k', hk, h => by
    unfold evk at h ⊢
    obtain ⟨t, ht, h1, h2⟩ := bindP_elim h
    rw [ht]
    refine ⟨fun e => ?_, fun e => evk_mono rest _ k k' hk (h2 e)⟩
    have h1 := h1 e
    by_cases hs : stp ti o.op = true
    · rw [if_pos hs] at h1 ⊢
      exact hk _ _ h1
    · rw [if_neg hs] at h1 ⊢
      obtain ⟨q, hq, h3⟩ := bindP_elim h1
      rw [hq]
      exact evk_mono rest _ k k' hk h3
theorem run_mono : ∀ (c : Code) {K K' : Kt} {σ : St}, (∀ e σ', K e σ' → K' e σ') → run P ti G N c K σ → run P ti G N c K' σ
  | .skip, K, K', σ, hk, h => hk _ _ h
  | .region id ops draw, K, K', σ, hk, h => by
    unfold run at h ⊢
    cases draw with
    | true => exact Holds_mono hk h
    | false =>
      refine ⟨h.1, evk_mono _ _ _ _ (fun rest σ' hr => ?_) h.2⟩
      cases rest with
      | nil => exact hk _ _ hr
      | cons o rest => exact HL_mono hk hr
  | .seq x y, K, K', σ, hk, h => by
    have h : run P ti G N x (seqK (fun σ' => run P ti G N y K σ') K) σ := h
    show run P ti G N x (seqK (fun σ' => run P ti G N y K' σ') K') σ
    exact run_mono x (fun e σ' hq => by
      cases e <;> first | exact run_mono y hk hq | exact hk _ _ hq) h
  | .cond c x y, K, K', σ, hk, h => by
    unfold run at h ⊢
    obtain ⟨t, ht, h1, h2⟩ := bindP_elim h
    rw [ht]
    exact ⟨fun e => run_mono x hk (h1 e), fun e => run_mono y hk (h2 e)⟩
  | .block id c, K, K', σ, hk, h => by
    have h : run P ti G N c (blockK id K) σ := h
    show run P ti G N c (blockK id K') σ
    refine run_mono c (fun e σ' hq => ?_) h
    cases e with
    | exit i =>
      simp only [blockK] at hq ⊢
      split
      · rename_i hi; rw [if_pos hi] at hq; exact hk _ _ hq
      · rename_i hi; rw [if_neg hi] at hq; exact hk _ _ hq
    | _ => exact hk _ _ hq
  | .exit id, K, K', σ, hk, h => hk _ _ h
  | .ret, K, K', σ, hk, h => hk _ _ h
  | .loop c, K, K', σ, hk, h => Holds_mono hk h
  | .rangeFunc a b c d, K, K', σ, hk, h => Holds_mono hk h
  | .scope c, K, K', σ, hk, h => Holds_mono hk h
  | .label l, K, K', σ, hk, h => Holds_mono hk h
  | .goto l, K, K', σ, hk, h => Holds_mono hk h
  | .refuse why, K, K', σ, hk, h => Holds_mono hk h
theorem run_sound (hti : TiOK P ti) : ∀ (c : Code) (K : Kt) (σ : St), run P ti G N c K σ → Holds P G N c K σ
  | .skip, K, σ, h => fun E0 r0 w0 E a w hR hS => wpIn_skip ⟨σ, E, h, hR, hS⟩
  | .region id ops draw, K, σ, h => by
    unfold run at h
    cases draw with
    | true => exact h
    | false =>
      obtain ⟨hd, h⟩ := h
      refine Holds_region (evk_sound hti ops.toList σ hd (evk_mono _ _ _ _ (fun rest σ' hk => ?_) h))
      cases rest with
      | nil => exact HL_nil hk
      | cons o rest => exact hk
  | .seq x y, K, σ, h => by
    refine Holds_seq (run_sound hti x _ σ ?_)
    have h : run P ti G N x (seqK (fun σ' => run P ti G N y K σ') K) σ := h
    exact run_mono x (fun e σ' hk => by
      cases e <;> first | exact run_sound hti y K σ' hk | exact hk) h
  | .cond c x y, K, σ, h => by
    unfold run at h
    obtain ⟨t, ht, h1, h2⟩ := bindP_elim h
    exact Holds_cond (boolOfA_some ht) (fun e => run_sound hti x K σ (h1 e)) (fun e => run_sound hti y K σ (h2 e))
  | .block id c, K, σ, h => Holds_block (run_sound hti c _ σ h)
  | .exit id, K, σ, h => fun E0 r0 w0 E a w hR hS => wpIn_exit ⟨σ, E, h, hR, hS⟩
  | .ret, K, σ, h => fun E0 r0 w0 E a w hR hS => wpIn_ret ⟨σ, E, h, hR, hS⟩
  | .loop c, K, σ, h => h
  | .rangeFunc a b c d, K, σ, h => h
  | .scope c, K, σ, h => h
  | .label l, K, σ, h => h
  | .goto l, K, σ, h => h
  | .refuse why, K, σ, h => h
end
end Go.Proofs.Ythdjblfiiogmgaa
/- The frame of these proofs, part Q: forgetting, loops, a row's name. -/
set_option linter.unusedVariables false
set_option linter.unusedSimpArgs false
namespace Go.Proofs.Ythdjblfiiogmgaa
open Go

/-! ### All names lie below a bound -/
def wfM (n : Nat) : Mo → Bool
  | .full => true
  | .own i => decide (i < n)
  | .sp _ => true
mutual
def wfA (n : Nat) : AV → Bool
  | .d _ => true
  | .sl m _ _ _ => wfM n m
  | .ptr i _ => decide (i < n)
  | .el _ => true
  | .osl i _ _ _ => decide (i < n)
  | .csl i _ _ _ _ => decide (i < n)
  | .tup l => wfL n l
  | .agg l => wfL n l
  | .fn _ a b => wfL n a && wfL n b
  | .yv _ _ sl => wfL n sl
  | .mp i => decide (i < n)
  | .top => true
def wfL (n : Nat) : List AV → Bool
  | [] => true
  | a :: l => wfA n a && wfL n l
end
mutual
theorem RA_wf {E : Env} {r : Rs} {w : World} : ∀ (a : AV) (x : Value), RA E r w a x → wfA r.length a = true
  | .d _, _, _ => rfl
  | .sl m sz n xs, x, h => by
    simp only [RA] at h
    obtain ⟨_, A, c, _, _, _, hm⟩ := h
    cases m with
    | full => rfl
    | own i => simpa [wfA, wfM] using hm.1
    | sp ys => rfl
  | .ptr i off, x, h => by simp only [RA] at h; simpa [wfA] using h.1
  | .el _, _, _ => rfl
  | .osl i off sz n, x, h => by simp only [RA] at h; simpa [wfA] using h.1
  | .csl i off sz n c, x, h => by simp only [RA] at h; simpa [wfA] using h.1
  | .tup l, x, h => by simp only [RA] at h; obtain ⟨vs, _, hr⟩ := h; simpa [wfA] using RAL_wf l _ hr
  | .agg l, x, h => by simp only [RA] at h; obtain ⟨vs, _, hr, _⟩ := h; simpa [wfA] using RAL_wf l _ hr
  | .fn f a b, x, h => by
    simp only [RA] at h
    obtain ⟨vs, us, _, h1, h2⟩ := h
    simp [wfA, RAL_wf a _ h1, RAL_wf b _ h2]
  | .yv l L sl, x, h => by simp only [RA] at h; simpa [wfA] using RAL_wf sl _ h.2
  | .mp i, x, h => by simp only [RA] at h; simpa [wfA] using h.1
  | .top, _, _ => rfl
theorem RAL_wf {E : Env} {r : Rs} {w : World} : ∀ (l : List AV) (vs : List Value), RAL E r w l vs → wfL r.length l = true
  | [], _, _ => rfl
  | a :: l, vs, h => by
    simp only [RAL] at h
    obtain ⟨v, rest, rfl, h1, h2⟩ := h
    simp [wfL, RA_wf a v h1, RAL_wf l rest h2]
end
/-- Names are forgotten: from the end, or in their places. -/
structure WeakR (r r' : Rs) : Prop where
  len : r'.length ≤ r.length
  at_ : ∀ (i : Nat) (x : Res), r'[i]? = some (some x) → r[i]? = some (some x)
theorem WeakR.refl (r : Rs) : WeakR r r := ⟨Nat.le_refl _, fun _ _ h => h⟩
mutual
theorem RA_weak {E : Env} {r r' : Rs} {w : World} (hW : WeakR r r') : ∀ (a : AV) (x : Value), wfA r'.length a = true → RA E r w a x → RA E r' w a x
  | .d _, _, _, h => by simpa [RA] using h
  | .sl m sz n xs, x, hf, h => by
    simp only [RA] at h ⊢
    obtain ⟨hl, A, c, rfl, hc, hr, hm⟩ := h
    refine ⟨hl, A, c, rfl, hc, hr, ?_⟩
    cases m with
    | full => exact hm
    | own i => exact ⟨by simpa [wfA, wfM] using hf, fun k hk => hm.2 k (hW.at_ _ _ hk)⟩
    | sp ys => exact hm
  | .ptr i off, x, hf, h => by
    simp only [RA] at h ⊢
    exact ⟨by simpa [wfA] using hf, fun l hl => h.2 l (hW.at_ _ _ hl)⟩
  | .el _, _, _, h => by simpa [RA] using h
  | .csl i off sz n c, x, hf, h => by
    simp only [RA] at h ⊢
    obtain ⟨_, A, rfl, hc, h2⟩ := h
    exact ⟨by simpa [wfA] using hf, A, rfl, hc, fun l hl => h2 l (hW.at_ _ _ hl)⟩
  | .osl i off sz n, x, hf, h => by
    simp only [RA] at h ⊢
    obtain ⟨_, A, c, rfl, hc, h2⟩ := h
    exact ⟨by simpa [wfA] using hf, A, c, rfl, hc, fun l hl => h2 l (hW.at_ _ _ hl)⟩
  | .tup l, x, hf, h => by
    simp only [RA] at h ⊢; obtain ⟨vs, rfl, hr⟩ := h
    exact ⟨vs, rfl, RAL_weak hW l _ (by simpa [wfA] using hf) hr⟩
  | .agg l, x, hf, h => by
    simp only [RA] at h ⊢; obtain ⟨vs, rfl, hr, h1⟩ := h
    exact ⟨vs, rfl, RAL_weak hW l _ (by simpa [wfA] using hf) hr, h1⟩
  | .fn f a b, x, hf, h => by
    simp only [RA] at h ⊢
    obtain ⟨vs, us, rfl, h1, h2⟩ := h
    simp only [wfA, Bool.and_eq_true] at hf
    exact ⟨vs, us, rfl, RAL_weak hW a _ hf.1 h1, RAL_weak hW b _ hf.2 h2⟩
  | .yv l L sl, x, hf, h => by
    simp only [RA] at h ⊢
    exact ⟨h.1, RAL_weak hW sl _ (by simpa [wfA] using hf) h.2⟩
  | .mp i, x, hf, h => by
    simp only [RA] at h ⊢
    exact ⟨by simpa [wfA] using hf, fun l hl => h.2 l (hW.at_ _ _ hl)⟩
  | .top, _, _, _ => by simp [RA]
theorem RAL_weak {E : Env} {r r' : Rs} {w : World} (hW : WeakR r r') : ∀ (l : List AV) (vs : List Value), wfL r'.length l = true → RAL E r w l vs → RAL E r' w l vs
  | [], _, _, h => by simpa [RAL] using h
  | a :: l, vs, hf, h => by
    simp only [wfL, Bool.and_eq_true] at hf
    simp only [RAL] at h ⊢
    obtain ⟨v, rest, rfl, h1, h2⟩ := h
    exact ⟨v, rest, rfl, RA_weak hW a v hf.1 h1, RAL_weak hW l rest hf.2 h2⟩
end
/-- What the live structs hold names nothing that is forgotten. -/
def wfRs (n : Nat) : Rs → Bool
  | [] => true
  | some (.obj l) :: r => wfL n l && wfRs n r
  | _ :: r => wfRs n r
theorem wfRs_at {n : Nat} : ∀ {r : Rs} {i : Nat} {l : List AV}, wfRs n r = true → r[i]? = some (some (.obj l)) → wfL n l = true
  | [], i, l, _, h => by simp at h
  | x :: r, 0, l, hf, h => by
    simp at h; subst h
    simp only [wfRs, Bool.and_eq_true] at hf
    exact hf.1
  | x :: r, i + 1, l, hf, h => by
    simp at h
    refine wfRs_at (r := r) (i := i) ?_ h
    cases x with
    | none => simpa [wfRs] using hf
    | some x => cases x with
      | obj l' => simp only [wfRs, Bool.and_eq_true] at hf; exact hf.2
      | tok k => simpa [wfRs] using hf
      | mpx l' => simpa [wfRs] using hf
theorem DefOK.weak {n0 : Option Nat} {E : Env} {r r' : Rs} {w : World} {ds : List Deferred} (h : DefOK n0 E r w ds) (hW : WeakR r r') : DefOK n0 E r' w ds :=
  h.move (Nat.le_refl _) (fun _ _ _ => rfl) fun b hb => by
    obtain ⟨i, x, hi, hbi⟩ := hb
    exact .inl ⟨i, x, hW.at_ _ _ hi, hbi⟩
theorem Good.weak {G : GR} {E : Env} {r r' : Rs} {w : World} (hG : Good G E r w) (hW : WeakR r r') (hf : wfRs r'.length r' = true) : Good G E r' w := by
  refine ⟨fun i k b hi hb => hG.tok i k b (hW.at_ _ _ hi) hb, fun i l hi => ?_, fun i l hi => hG.map i l (hW.at_ _ _ hi), fun i j x y b hi hj => hG.one i j x y b (hW.at_ _ _ hi) (hW.at_ _ _ hj), hG.fresh, hG.glob⟩
  obtain ⟨b, hb, h1, vs, e, h2, h3, h4⟩ := hG.obj i l (hW.at_ _ _ hi)
  exact ⟨b, hb, h1, vs, e, h2, RAL_weak hW l _ (wfRs_at hf hi) h3, h4⟩
theorem Step.weak {E0 E : Env} {r0 r r' : Rs} {w0 w : World} (h : Step E0 r0 w0 E r w) (hW : WeakR r r') (hl : r0.length ≤ r'.length) : Step E0 r0 w0 E r' w := by
  refine ⟨h.os, h.tape, h.output, h.size, h.block, fun b hb => ?_, h.lasts, h.shape, ⟨hl, fun i k hi hr => h.names.tok i k hi (hW.at_ _ _ hr), fun i l hi hr => h.names.obj i l hi (hW.at_ _ _ hr), fun i l hi hr => h.names.map i l hi (hW.at_ _ _ hr)⟩⟩
  obtain ⟨i, x, hi, hbi⟩ := hb
  exact h.own b ⟨i, x, hW.at_ _ _ hi, hbi⟩

/-! ### Less is said of a value -/
def isNilSl : AV → Bool
  | .d (.c (.slice none 0 0)) => true
  | _ => false
/-- The same parts, but for a slice that is nil: one without cells. -/
def WkDs : List D → List D → Prop
  | [], [] => True
  | x :: xs, y :: ys => (x = y ∨ (x = .c (.slice none 0 0) ∧ ∃ sz, y = .sl sz 0 [])) ∧ WkDs xs ys
  | _, _ => False
theorem WkDs.sound {T : Nat → Nat} {w : World} : ∀ {xs ys : List D} {vs : List Value}, WkDs xs ys → RL T w xs vs → RL T w ys vs
  | [], [], _, _, h => h
  | x :: xs, y :: ys, vs, hk, h => by
    simp only [RL] at h ⊢
    obtain ⟨v, rest, rfl, h1, h2, h3⟩ := h
    refine ⟨v, rest, rfl, h1, ?_, WkDs.sound hk.2 h3⟩
    rcases hk.1 with rfl | ⟨rfl, sz, rfl⟩
    · exact h2
    · simp only [RD] at h2 ⊢
      exact ⟨by simp, none, 0, h2.1, Nat.le_refl _, .inl trivial⟩
  | [], _ :: _, _, hk, _ => hk.elim
  | _ :: _, [], _, hk, _ => hk.elim
/-- 'b' says no more than 'a'. -/
def WeakA (a b : AV) : Prop := b = .top ∨ a = b ∨ (∃ y, toD a = some y ∧ b = .d y) ∨ (isNilSl a = true ∧ ∃ sz, b = .sl .full sz 0 [] ∨ b = .d (.sl sz 0 [])) ∨ (∃ xs ys, toD a = some (.agg xs) ∧ b = .d (.agg ys) ∧ WkDs xs ys)
theorem WeakA.refl (a : AV) : WeakA a a := .inr (.inl rfl)
theorem WeakA.top (a : AV) : WeakA a .top := .inl rfl
theorem WeakA.toD {a : AV} {y : D} (h : Ythdjblfiiogmgaa.toD a = some y) : WeakA a (.d y) := .inr (.inr (.inl ⟨y, h, rfl⟩))
theorem WeakA.nilFull (sz : Nat) : WeakA (.d (.c (.slice none 0 0))) (.sl .full sz 0 []) := .inr (.inr (.inr (.inl ⟨rfl, sz, .inl rfl⟩)))
theorem WeakA.nilD (sz : Nat) : WeakA (.d (.c (.slice none 0 0))) (.d (.sl sz 0 [])) := .inr (.inr (.inr (.inl ⟨rfl, sz, .inr rfl⟩)))
theorem WeakA.nils {a : AV} {xs ys : List D} (h : Ythdjblfiiogmgaa.toD a = some (.agg xs)) (hd : WkDs xs ys) : WeakA a (.d (.agg ys)) := .inr (.inr (.inr (.inr ⟨xs, ys, h, rfl, hd⟩)))
theorem WeakA.sound {E : Env} {r : Rs} {w : World} {a b : AV} {x : Value} (h : WeakA a b) (hr : RA E r w a x) : RA E r w b x := by
  rcases h with rfl | rfl | ⟨y, hy, rfl⟩ | ⟨hn, sz, hb⟩ | ⟨xs, ys, hx, rfl, hd⟩
  · simp [RA]
  · exact hr
  · simpa [RA] using toD_sound a x y hr hy
  · unfold isNilSl at hn
    split at hn
    · simp only [RA, RD] at hr
      rcases hb with rfl | rfl
      · simp only [RA]
        exact ⟨by simp, none, 0, hr.1, Nat.le_refl _, .inl trivial, rfl⟩
      · simp only [RA, RD]
        exact ⟨by simp, none, 0, hr.1, Nat.le_refl _, .inl trivial⟩
    · cases hn
  · have h1 := toD_sound a x _ hr hx
    simp only [RA, RD] at h1 ⊢
    obtain ⟨vs, h2, h3⟩ := h1
    exact ⟨vs, h2, hd.sound h3⟩

section
variable {P : Program} {ti : Ti} {G : GR} {N : Nat}

/-! ### A loop -/
def mask (mod : List Nat) (f : Nat → AV) : Nat → AV := fun i => if mod.contains i = true then .top else f i
theorem mask_in {mod : List Nat} {f : Nat → AV} {i : Nat} (h : mod.contains i = true) : mask mod f i = .top := if_pos h
theorem mask_out {mod : List Nat} {f : Nat → AV} {i : Nat} (h : mod.contains i = false) : mask mod f i = f i := by unfold mask; rw [h]; rfl
/-- What the slots of a list hold says no less than the list. -/
def WkL (σ : St) : List (Nat × AV) → Prop
  | [] => True
  | (k, v) :: l => WeakA (σ.get k) v ∧ WkL σ l
def wfSt (n : Nat) : List (Nat × AV) → Bool
  | [] => true
  | (_, v) :: l => wfA n v && wfSt n l
theorem lk_cases (l : List (Nat × AV)) (b : Nat → AV) (i : Nat) : (∃ v, (i, v) ∈ l ∧ lk l b i = v) ∨ ((∀ v, (i, v) ∉ l) ∧ lk l b i = b i) := by
  induction l with
  | nil => exact .inr ⟨fun _ => by simp, rfl⟩
  | cons p l ih =>
    obtain ⟨j, u⟩ := p
    simp only [lk]
    by_cases hij : i = j
    · subst hij
      rw [if_pos rfl]
      exact .inl ⟨u, by simp, rfl⟩
    · rw [if_neg hij]
      rcases ih with ⟨v, h1, h2⟩ | ⟨h1, h2⟩
      · exact .inl ⟨v, by simp [h1], h2⟩
      · exact .inr ⟨fun v hv => by
          simp only [List.mem_cons, Prod.mk.injEq] at hv
          rcases hv with ⟨e, _⟩ | hv
          · exact hij e
          · exact h1 v hv, h2⟩
theorem WkL_mem {σ : St} : ∀ {l : List (Nat × AV)} {k : Nat} {v : AV}, WkL σ l → (k, v) ∈ l → WeakA (σ.get k) v
  | (k', v') :: l, k, v, h, hm => by
    simp only [WkL] at h
    simp only [List.mem_cons, Prod.mk.injEq] at hm
    rcases hm with ⟨rfl, rfl⟩ | hm
    · exact h.1
    · exact WkL_mem h.2 hm
theorem wfSt_mem {n : Nat} : ∀ {l : List (Nat × AV)} {k : Nat} {v : AV}, wfSt n l = true → (k, v) ∈ l → wfA n v = true
  | (k', v') :: l, k, v, h, hm => by
    simp only [wfSt, Bool.and_eq_true] at h
    simp only [List.mem_cons, Prod.mk.injEq] at hm
    rcases hm with ⟨rfl, rfl⟩ | hm
    · exact h.1
    · exact wfSt_mem h.2 hm
def keysIn (mod : List Nat) (l : List (Nat × AV)) : Bool := l.all fun p => mod.contains p.1
/-- The state at a round's end fits the head's form. -/
structure Fits (mod : List Nat) (base : Nat → AV) (σ : St) (st : List (Nat × AV)) (re : Rs) : Prop where
  b : σ.b = mask mod base
  keys : keysIn mod σ.l = true
  wk : WkL σ st
  wf : wfSt re.length st = true
  rs : WeakR σ.r re
  wfr : wfRs re.length re = true
def loopK (mod : List Nat) (base : Nat → AV) {ι : Type} (st : ι → List (Nat × AV)) (re : ι → Rs) (p : ι → Prop) (μ : ι → Nat) (i : ι) (K : Kt) : Kt
  | .normal, σ => ∃ j, p j ∧ μ j < μ i ∧ Fits mod base σ (st j) (re j)
  | e, σ => K e σ
theorem Rel.fit {E : Env} {σ : St} {a : Act} {w : World} {mod : List Nat} {base : Nat → AV} {st : List (Nat × AV)} {re : Rs} (h : Rel G N E σ a w)
    (hget : ∀ i, mod.contains i = false → σ.get i = base i) (hwf : ∀ i, mod.contains i = false → wfA re.length (base i) = true)
    (wk : WkL σ st) (wf : wfSt re.length st = true) (rs : WeakR σ.r re) (wfr : wfRs re.length re = true) : Rel G N E ⟨mask mod base, st, re⟩ a w := by
  refine ⟨h.size, fun i => ?_, h.good.weak rs wfr, h.defers.weak rs⟩
  show RA E re w (lk st (mask mod base) i) _
  rcases lk_cases st (mask mod base) i with ⟨v, hv, he⟩ | ⟨_, he⟩
  · rw [he]
    exact RA_weak rs v _ (wfSt_mem wf hv) ((WkL_mem wk hv).sound (h.slot i))
  · rw [he]
    by_cases hm : mod.contains i = true
    · rw [mask_in hm]; simp [RA]
    · have hm' : mod.contains i = false := by simpa using hm
      rw [mask_out hm']
      have := h.slot i
      rw [hget i hm'] at this
      exact RA_weak rs _ _ (hwf i hm') this
theorem keysIn_get {mod : List Nat} {base : Nat → AV} {σ : St} (hb : σ.b = mask mod base) (hk : keysIn mod σ.l = true) (i : Nat) (hi : mod.contains i = false) : σ.get i = base i := by
  show lk σ.l σ.b i = base i
  rcases lk_cases σ.l σ.b i with ⟨v, hv, _⟩ | ⟨_, he⟩
  · unfold keysIn at hk
    have := List.all_eq_true.1 hk _ hv
    simp only at this
    rw [hi] at this
    cases this
  · rw [he, hb, mask_out hi]
theorem wp_loop_g {F : Fence} {nn : Nat} {c : Code} {Q : Exit → Act → World → Prop} (I : Nat → Act → World → Prop) {n0 : Nat} {a : Act} {w : World} (h₀ : I n0 a w)
    (round : ∀ n a w, I n a w → c.wpIn F nn P (Exit.then (fun a' w' => ∃ m, m < n ∧ I m a' w') Q) a w) : (Code.loop c).wpIn F nn P Q a w := by
  intro b k cs hro hb hr
  have key : ∀ n a w, I n a w → ∃ e a' w', Q e a' w' ∧ ArrivesIn (Machine.fenced P F) P (lone (b.atR a (.code c :: .inLoop c :: k)) cs w) b k cs e a' w' := by
    intro n
    induction n using Nat.strongRecOn with
    | _ n ih =>
      intro a w hI
      obtain ⟨e, a₁, w₁, hq, harr⟩ := round n a w hI b (.inLoop c :: k) cs hro hb hr
      cases e with
      | normal =>
        obtain ⟨m, hlt, hI₁⟩ := hq
        obtain ⟨e₂, a₂, w₂, hq₂, harr₂⟩ := ih m hlt a₁ w₁ hI₁
        exact ⟨e₂, a₂, w₂, hq₂, .of_steps (StepsIn.trans harr (.one (fenced_calm hb hr rfl) stepR_inLoop)) harr₂⟩
      | exit id => exact ⟨_, a₁, w₁, hq, .pass (x := .inLoop c) rfl (fun _ _ => .inl (by simp)) harr⟩
      | goto l => exact ⟨_, a₁, w₁, hq, .pass (x := .inLoop c) rfl (fun _ _ => .inl (by simp)) harr⟩
      | ret => exact ⟨_, a₁, w₁, hq, .pass (x := .inLoop c) rfl (fun _ _ => .inl (by simp)) harr⟩
      | panic ch => exact ⟨_, a₁, w₁, hq, .pass (x := .inLoop c) rfl (fun _ _ => .inl (by simp)) harr⟩
      | outgrown => exact ⟨_, a₁, w₁, hq, .pass (x := .inLoop c) rfl (fun _ _ => .inl (by simp)) harr⟩
  obtain ⟨e, a', w', hq, harr⟩ := key _ a w h₀
  exact ⟨e, a', w', hq, .of_steps (.one (fenced_calm hb hr rfl) stepR_loop) harr⟩
theorem Holds_loop {body : Code} {K : Kt} {σ : St} {ι : Type} (mod : List Nat) (st : ι → List (Nat × AV)) (re : ι → Rs) (p : ι → Prop) (μ : ι → Nat) (i0 : ι) (h0 : p i0)
    (hre : ∀ i, (re i).length = σ.r.length) (hwk : WkL σ (st i0)) (hwf : wfSt σ.r.length (st i0) = true) (hrs : WeakR σ.r (re i0)) (hwr : wfRs σ.r.length (re i0) = true)
    (round : ∀ i, p i → Holds P G N body (loopK mod σ.get st re p μ i K) ⟨mask mod σ.get, st i, re i⟩) : Holds P G N (.loop body) K σ := by
  intro E0 r0 w0 E a w hR hS
  have hbase : ∀ i, wfA σ.r.length (σ.get i) = true := fun i => RA_wf _ _ (hR.slot i)
  refine wp_loop_g (fun m a' w' => ∃ i E', p i ∧ μ i = m ∧ Rel G N E' ⟨mask mod σ.get, st i, re i⟩ a' w' ∧ Step E0 r0 w0 E' (re i) w') (n0 := μ i0)
    ⟨i0, E, h0, rfl, hR.fit (fun _ _ => rfl) (fun i _ => by rw [hre]; exact hbase i) hwk (by rw [hre]; exact hwf) hrs (by rw [hre]; exact hwr), hS.weak hrs (by rw [hre]; exact hS.names.len)⟩ ?_
  intro m a w hI
  obtain ⟨i, E', hp, hm, hR', hS'⟩ := hI
  subst hm
  refine wpIn_mono (round i hp E0 r0 w0 E' a w hR' hS') fun e a1 w1 hq => ?_
  obtain ⟨σ1, E1, hk, hR1, hS1⟩ := hq
  cases e with
  | normal =>
    obtain ⟨j, hpj, hlt, hfit⟩ := hk
    refine ⟨μ j, hlt, j, E1, hpj, rfl, hR1.fit (keysIn_get hfit.b hfit.keys) (fun i _ => by rw [hre]; exact hbase i) hfit.wk hfit.wf hfit.rs hfit.wfr, hS1.weak hfit.rs ?_⟩
    rw [hre]
    exact hS.names.len
  | _ => exact ⟨σ1, E1, hk, hR1, hS1⟩
/-- A full slice (nil among them) in a slot is taken for a row that grows. -/
theorem Holds_token {c : Code} {K : Kt} {σ : St} {k sz n : Nat} {xs : List D} (hg : WeakA (σ.get k) (.sl .full sz n xs)) (h : Holds P G N c K (σ.putR (some k) (.sl (.own σ.r.length) sz n xs) (σ.r ++ [some (.tok xs.length)]))) : Holds P G N c K σ := by
  intro E0 r0 w0 E a w hR hS
  have hst := step_push_none (w := w) hR.good (some (.tok xs.length))
  have hgd := good_push_none hR.good (some (.tok xs.length)) (fun y hy => ⟨_, by injection hy with hy; exact hy.symm⟩)
  refine h E0 r0 w0 _ a w ⟨hR.size, fun i => ?_, hgd, hR.defers.step hst⟩ (hS.trans hst)
  show RA _ _ w (if i = k then _ else σ.get i) _
  split
  · rename_i hik
    subst hik
    have := hg.sound (hR.slot i)
    simp only [RA] at this ⊢
    obtain ⟨hl, A, cc, hx, hc, hr, hm⟩ := this
    refine ⟨hl, A, cc, hx, hc, ?_, (by show _ < (σ.r ++ [some (Res.tok xs.length)]).length; simp), fun q hq => ?_⟩
    · rcases hr with h0 | ⟨ad, h0, hrm⟩
      · exact .inl h0
      · exact .inr ⟨ad, h0, RM.lasts hst.lasts _ _ hrm⟩
    · have hq' : (σ.r ++ [some (Res.tok xs.length)])[σ.r.length]? = some (some (.tok q)) := hq
      simp at hq'
      refine ⟨by omega, fun _ => ?_⟩
      have hbl : (Env.mk E.T (updN E.bl σ.r.length none)).bl σ.r.length = none := updN_same _ _ _
      rw [hbl]
      exact hm
  · exact (hR.slot i).step hst
end
end Go.Proofs.Ythdjblfiiogmgaa
/- The frame of these proofs, part R: contracts of functions, and calls. -/
set_option linter.unusedVariables false
set_option linter.unusedSimpArgs false
namespace Go.Proofs.Ythdjblfiiogmgaa
open Go

/-! ### Other names for the same -/
def renM (g : Nat → Nat) : Mo → Mo
  | .full => .full
  | .own i => .own (g i)
  | .sp ys => .sp ys
mutual
def ren (g : Nat → Nat) : AV → AV
  | .d x => .d x
  | .sl m sz n xs => .sl (renM g m) sz n xs
  | .ptr i off => .ptr (g i) off
  | .el xs => .el xs
  | .osl i off sz n => .osl (g i) off sz n
  | .csl i off sz n c => .csl (g i) off sz n c
  | .tup l => .tup (renL g l)
  | .agg l => .agg (renL g l)
  | .fn f a b => .fn f (renL g a) (renL g b)
  | .yv l L sl => .yv l L (renL g sl)
  | .mp i => .mp (g i)
  | .top => .top
def renL (g : Nat → Nat) : List AV → List AV
  | [] => []
  | a :: l => ren g a :: renL g l
end
def renRes (g : Nat → Nat) : Res → Res
  | .tok k => .tok k
  | .obj l => .obj (renL g l)
  | .mpx l => .mpx l
theorem renL_length (g : Nat → Nat) : ∀ l, (renL g l).length = l.length
  | [] => rfl
  | a :: l => by simp [renL, renL_length g l]
/-- Names of one list for another's. -/
structure Alias (g : Nat → Nat) (E1 : Env) (r1 : Rs) (E2 : Env) (r2 : Rs) : Prop where
  T : E1.T = E2.T
  bl : ∀ i, i < r1.length → E1.bl i = E2.bl (g i)
  lt : ∀ i, i < r1.length → g i < r2.length
  fwd : ∀ (i : Nat) (y : Res), i < r1.length → r2[g i]? = some (some y) → ∃ x, r1[i]? = some (some x) ∧ y = renRes g x
  bwd : ∀ (i : Nat) (x : Res), r1[i]? = some (some x) → r2[g i]? = some (some (renRes g x))
mutual
theorem RA_ren {g : Nat → Nat} {E1 E2 : Env} {r1 r2 : Rs} {w : World} (hA : Alias g E1 r1 E2 r2) : ∀ (a : AV) (x : Value), RA E1 r1 w a x → RA E2 r2 w (ren g a) x
  | .d y, x, h => by simp only [RA, ren] at h ⊢; rw [← hA.T]; exact h
  | .sl m sz n xs, x, h => by
    simp only [RA, ren] at h ⊢
    obtain ⟨hl, A, c, rfl, hc, hr, hm⟩ := h
    rw [hA.T] at hr
    refine ⟨hl, A, c, rfl, hc, hr, ?_⟩
    cases m with
    | full => exact hm
    | sp ys => rw [show MoOK E1 r1 w sz n xs.length A c (.sp ys) = MoOK E2 r2 w sz n xs.length A c (.sp ys) by simp only [MoOK, hA.T]] at hm; exact hm
    | own i =>
      refine ⟨hA.lt i hm.1, fun k hk => ?_⟩
      obtain ⟨y, hy, he⟩ := hA.fwd i _ hm.1 hk
      cases y with
      | tok k' =>
        simp only [renRes] at he
        injection he with he; subst he
        have := hm.2 _ hy
        rw [hA.bl i hm.1] at this
        exact this
      | obj l => cases he
      | mpx l => cases he
  | .ptr i off, x, h => by
    simp only [RA, ren] at h ⊢
    refine ⟨hA.lt i h.1, fun l hl => ?_⟩
    obtain ⟨y, hy, he⟩ := hA.fwd i _ h.1 hl
    cases y with
    | obj l' => rw [← hA.bl i h.1]; exact h.2 l' hy
    | tok k => cases he
    | mpx l => cases he
  | .el xs, x, h => by simp only [RA, ren] at h ⊢; rw [← hA.T]; exact h
  | .csl i off sz n c, x, h => by
    simp only [RA, ren] at h ⊢
    obtain ⟨h1, A, rfl, hc, h2⟩ := h
    refine ⟨hA.lt i h1, A, rfl, hc, fun l hl => ?_⟩
    obtain ⟨y, hy, he⟩ := hA.fwd i _ h1 hl
    cases y with
    | obj l' =>
      simp only [renRes] at he
      injection he with he; subst he
      rw [renL_length, ← hA.bl i h1]
      exact h2 l' hy
    | tok k => cases he
    | mpx l => cases he
  | .osl i off sz n, x, h => by
    simp only [RA, ren] at h ⊢
    obtain ⟨h1, A, c, rfl, hc, h2⟩ := h
    refine ⟨hA.lt i h1, A, c, rfl, hc, fun l hl => ?_⟩
    obtain ⟨y, hy, he⟩ := hA.fwd i _ h1 hl
    cases y with
    | obj l' =>
      simp only [renRes] at he
      injection he with he; subst he
      rw [renL_length, ← hA.bl i h1]
      exact h2 l' hy
    | tok k => cases he
    | mpx l => cases he
  | .tup l, x, h => by
    simp only [RA, ren] at h ⊢; obtain ⟨vs, rfl, hr⟩ := h
    exact ⟨vs, rfl, RAL_ren hA l _ hr⟩
  | .agg l, x, h => by
    simp only [RA, ren] at h ⊢; obtain ⟨vs, rfl, hr, h1⟩ := h
    exact ⟨vs, rfl, RAL_ren hA l _ hr, h1⟩
  | .fn f a b, x, h => by
    simp only [RA, ren] at h ⊢
    obtain ⟨vs, us, rfl, h1, h2⟩ := h
    exact ⟨vs, us, rfl, RAL_ren hA a _ h1, RAL_ren hA b _ h2⟩
  | .yv l L sl, x, h => by
    simp only [RA, ren] at h ⊢
    exact ⟨h.1, RAL_ren hA sl _ h.2⟩
  | .mp i, x, h => by
    simp only [RA, ren] at h ⊢
    refine ⟨hA.lt i h.1, fun l hl => ?_⟩
    obtain ⟨y, hy, he⟩ := hA.fwd i _ h.1 hl
    cases y with
    | mpx l' => rw [← hA.bl i h.1]; exact h.2 l' hy
    | tok k => cases he
    | obj l => cases he
  | .top, _, _ => by simp [RA, ren]
theorem RAL_ren {g : Nat → Nat} {E1 E2 : Env} {r1 r2 : Rs} {w : World} (hA : Alias g E1 r1 E2 r2) : ∀ (l : List AV) (vs : List Value), RAL E1 r1 w l vs → RAL E2 r2 w (renL g l) vs
  | [], _, h => by simpa [RAL, renL] using h
  | a :: l, vs, h => by
    simp only [RAL, renL] at h ⊢
    obtain ⟨v, rest, rfl, h1, h2⟩ := h
    exact ⟨v, rest, rfl, RA_ren hA a v h1, RAL_ren hA l rest h2⟩
end
structure AliasB (g : Nat → Nat) (E1 : Env) (r1 : Rs) (E2 : Env) (r2 : Rs) : Prop where
  T : E1.T = E2.T
  bl : ∀ i, i < r1.length → E1.bl i = E2.bl (g i)
  bwd : ∀ (i : Nat) (x : Res), r1[i]? = some (some x) → r2[g i]? = some (some (renRes g x))
mutual
theorem RA_unren {g : Nat → Nat} {E1 E2 : Env} {r1 r2 : Rs} {w : World} (hA : AliasB g E1 r1 E2 r2) : ∀ (a : AV) (x : Value), wfA r1.length a = true → RA E2 r2 w (ren g a) x → RA E1 r1 w a x
  | .d y, x, _, h => by simp only [RA, ren] at h ⊢; rw [hA.T]; exact h
  | .sl m sz n xs, x, hf, h => by
    simp only [RA, ren] at h ⊢
    obtain ⟨hl, A, c, rfl, hc, hr, hm⟩ := h
    rw [← hA.T] at hr
    refine ⟨hl, A, c, rfl, hc, hr, ?_⟩
    cases m with
    | full => exact hm
    | sp ys => rw [show MoOK E1 r1 w sz n xs.length A c (.sp ys) = MoOK E2 r2 w sz n xs.length A c (.sp ys) by simp only [MoOK, hA.T]]; exact hm
    | own i =>
      have hi : i < r1.length := by simpa [wfA, wfM] using hf
      refine ⟨hi, fun k hk => ?_⟩
      have := hm.2 k (hA.bwd i _ hk)
      rw [← hA.bl i hi] at this
      exact this
  | .ptr i off, x, hf, h => by
    simp only [RA, ren] at h ⊢
    have hi : i < r1.length := by simpa [wfA] using hf
    refine ⟨hi, fun l hl => ?_⟩
    rw [hA.bl i hi]
    exact h.2 _ (hA.bwd i _ hl)
  | .el xs, x, _, h => by simp only [RA, ren] at h ⊢; rw [hA.T]; exact h
  | .csl i off sz n c, x, hf, h => by
    simp only [RA, ren] at h ⊢
    have hi : i < r1.length := by simpa [wfA] using hf
    obtain ⟨_, A, rfl, hc, h2⟩ := h
    refine ⟨hi, A, rfl, hc, fun l hl => ?_⟩
    have := h2 _ (hA.bwd i _ hl)
    rw [renL_length] at this
    rw [hA.bl i hi]
    exact this
  | .osl i off sz n, x, hf, h => by
    simp only [RA, ren] at h ⊢
    have hi : i < r1.length := by simpa [wfA] using hf
    obtain ⟨_, A, c, rfl, hc, h2⟩ := h
    refine ⟨hi, A, c, rfl, hc, fun l hl => ?_⟩
    have := h2 _ (hA.bwd i _ hl)
    rw [renL_length] at this
    rw [hA.bl i hi]
    exact this
  | .tup l, x, hf, h => by
    simp only [RA, ren] at h ⊢; obtain ⟨vs, rfl, hr⟩ := h
    exact ⟨vs, rfl, RAL_unren hA l _ (by simpa [wfA] using hf) hr⟩
  | .agg l, x, hf, h => by
    simp only [RA, ren] at h ⊢; obtain ⟨vs, rfl, hr, h1⟩ := h
    exact ⟨vs, rfl, RAL_unren hA l _ (by simpa [wfA] using hf) hr, h1⟩
  | .fn f a b, x, hf, h => by
    simp only [RA, ren] at h ⊢
    obtain ⟨vs, us, rfl, h1, h2⟩ := h
    simp only [wfA, Bool.and_eq_true] at hf
    exact ⟨vs, us, rfl, RAL_unren hA a _ hf.1 h1, RAL_unren hA b _ hf.2 h2⟩
  | .yv l L sl, x, hf, h => by
    simp only [RA, ren] at h ⊢
    exact ⟨h.1, RAL_unren hA sl _ (by simpa [wfA] using hf) h.2⟩
  | .mp i, x, hf, h => by
    simp only [RA, ren] at h ⊢
    have hi : i < r1.length := by simpa [wfA] using hf
    refine ⟨hi, fun l hl => ?_⟩
    rw [hA.bl i hi]
    exact h.2 _ (hA.bwd i _ hl)
  | .top, _, _, _ => by simp [RA]
theorem RAL_unren {g : Nat → Nat} {E1 E2 : Env} {r1 r2 : Rs} {w : World} (hA : AliasB g E1 r1 E2 r2) : ∀ (l : List AV) (vs : List Value), wfL r1.length l = true → RAL E2 r2 w (renL g l) vs → RAL E1 r1 w l vs
  | [], _, _, h => by simpa [RAL, renL] using h
  | a :: l, vs, hf, h => by
    simp only [wfL, Bool.and_eq_true] at hf
    simp only [RAL, renL] at h ⊢
    obtain ⟨v, rest, rfl, h1, h2⟩ := h
    exact ⟨v, rest, rfl, RA_unren hA a v hf.1 h1, RAL_unren hA l rest hf.2 h2⟩
end

/-! ### Contracts -/
/-- A call with these arguments, of which it may write what 'r' names, comes to what 'O' says. -/
def AC (P : Program) (G : GR) (f : FuncId) (args : List AV) (r : Rs) (O : AV → Rs → Prop) : Prop :=
  (∀ (as : Array Value) (w : World), (callFunc f as).run P w = .ok (.enter f as) w) ∧
  ∀ (E : Env) (w : World) (vals : Array Value), Good G E r w → RAL E r w args vals.toList →
    Calls P f vals w fun e w' => ∃ v x r' E', e = .returned x ∧ O v r' ∧ RA E' r' w' v x ∧ Good G E' r' w' ∧ Step E r w E' r' w'
theorem AC.mono {P : Program} {G : GR} {f : FuncId} {args : List AV} {r : Rs} {O O' : AV → Rs → Prop} (h : AC P G f args r O) (hO : ∀ v r', O v r' → O' v r') : AC P G f args r O' :=
  ⟨h.1, fun E w vals hG hA => (h.2 E w vals hG hA).mono fun e w' ⟨v, x, r', E', he, ho, rest⟩ => ⟨v, x, r', E', he, hO _ _ ho, rest⟩⟩

/-- The name behind the call. -/
def nm (ts : List Nat) (n j : Nat) : Nat := ts.getD j (n + (j - ts.length))
/-- The caller's names behind the call: what was handed over is as the call left it; what is new comes last. -/
def putAll (g : Nat → Nat) : Rs → List Nat → Rs → Rs
  | rc, t :: ts, x :: r' => putAll g (rc.set t (x.map (renRes g))) ts r'
  | rc, [], r' => rc ++ r'.map (Option.map (renRes g))
  | rc, _ :: _, [] => rc
end Go.Proofs.Ythdjblfiiogmgaa
/- The frame of these proofs, part S: what a call does to the caller's names; how a contract is shown. -/
set_option linter.unusedVariables false
set_option linter.unusedSimpArgs false
namespace Go.Proofs.Ythdjblfiiogmgaa
open Go

theorem putAll_length (g : Nat → Nat) : ∀ (ts : List Nat) (rc r' : Rs), ts.length ≤ r'.length → (putAll g rc ts r').length = rc.length + (r'.length - ts.length)
  | [], rc, r', _ => by simp [putAll]
  | t :: ts, rc, [], h => by simp at h
  | t :: ts, rc, x :: r', h => by
    simp only [putAll]
    rw [putAll_length g ts _ r' (by simpa using h)]
    simp
theorem putAll_other (g : Nat → Nat) : ∀ (ts : List Nat) (rc r' : Rs), ts.length ≤ r'.length → ∀ i, i < rc.length → i ∉ ts → (putAll g rc ts r')[i]? = rc[i]?
  | [], rc, r', _, i, hi, _ => by simp only [putAll]; rw [List.getElem?_append_left hi]
  | t :: ts, rc, [], h, _, _, _ => by simp at h
  | t :: ts, rc, x :: r', h, i, hi, hn => by
    simp only [putAll]
    simp only [List.mem_cons, not_or] at hn
    rw [putAll_other g ts _ r' (by simpa using h) i (by simpa using hi) hn.2, List.getElem?_set_ne (fun e => hn.1 e.symm)]
theorem putAll_at (g : Nat → Nat) : ∀ (ts : List Nat) (rc r' : Rs), ts.length ≤ r'.length → ts.Nodup → (∀ t ∈ ts, t < rc.length) → ∀ (j t : Nat), ts[j]? = some t → (putAll g rc ts r')[t]? = (r'[j]?).map (Option.map (renRes g))
  | [], rc, r', _, _, _, j, t, h => by simp at h
  | t0 :: ts, rc, [], h, _, _, _, _, _ => by simp at h
  | t0 :: ts, rc, x :: r', h, hnd, hlt, j, t, hj => by
    simp only [putAll]
    simp only [List.nodup_cons] at hnd
    cases j with
    | zero =>
      simp at hj
      subst hj
      rw [putAll_other g ts _ r' (by simpa using h) t0 (by simpa using hlt t0 (by simp)) hnd.1]
      have := hlt t0 (by simp)
      simp [List.getElem?_set, this]
    | succ j =>
      simp at hj
      rw [putAll_at g ts _ r' (by simpa using h) hnd.2 (fun t ht => by simpa using hlt t (by simp [ht])) j t hj]
      simp
theorem putAll_new (g : Nat → Nat) : ∀ (ts : List Nat) (rc r' : Rs), ts.length ≤ r'.length → ∀ k, (putAll g rc ts r')[rc.length + k]? = (r'[ts.length + k]?).map (Option.map (renRes g))
  | [], rc, r', _, k => by
    simp only [putAll]
    rw [List.getElem?_append_right (by omega), Nat.add_sub_cancel_left]
    simp
  | t :: ts, rc, [], h, _ => by simp at h
  | t :: ts, rc, x :: r', h, k => by
    simp only [putAll]
    have := putAll_new g ts (rc.set t (x.map (renRes g))) r' (by simpa using h) k
    simp only [List.length_set] at this
    rw [this]
    simp [Nat.add_right_comm]

/-- The blocks behind the call. -/
def blAfter (ts : List Nat) (n : Nat) (bl bl' : Nat → Option Nat) (i : Nat) : Option Nat :=
  if i < n then (if i ∈ ts then bl' (ts.idxOf i) else bl i) else bl' (ts.length + (i - n))
theorem idxOf_get : ∀ {ts : List Nat} {j t : Nat}, ts.Nodup → ts[j]? = some t → ts.idxOf t = j
  | [], j, t, _, h => by simp at h
  | a :: ts, j, t, hnd, h => by
    simp only [List.nodup_cons] at hnd
    cases j with
    | zero => simp at h; subst h; simp [List.idxOf_cons]
    | succ j =>
      simp at h
      have hm : t ∈ ts := List.mem_of_getElem? h
      have hne : a ≠ t := fun e => hnd.1 (e ▸ hm)
      have hb : (a == t) = false := by simpa using hne
      simp [List.idxOf_cons, hb, idxOf_get hnd.2 h]
theorem nm_lt {ts : List Nat} {n j : Nat} (h : j < ts.length) : ts[j]? = some (nm ts n j) := by
  simp [nm, List.getD_eq_getElem?_getD, List.getElem?_eq_getElem h]
theorem nm_ge {ts : List Nat} {n j : Nat} (h : ts.length ≤ j) : nm ts n j = n + (j - ts.length) := by
  simp [nm, List.getD_eq_getElem?_getD, List.getElem?_eq_none h]
theorem blAfter_nm {ts : List Nat} {n j : Nat} {bl bl' : Nat → Option Nat} (hnd : ts.Nodup) (hlt : ∀ t ∈ ts, t < n) : blAfter ts n bl bl' (nm ts n j) = bl' j := by
  by_cases hj : j < ts.length
  · have h := nm_lt (n := n) hj
    have hm : nm ts n j ∈ ts := List.mem_of_getElem? h
    unfold blAfter
    rw [if_pos (hlt _ hm), if_pos hm, idxOf_get hnd h]
  · rw [nm_ge (by omega)]
    unfold blAfter
    rw [if_neg (by omega)]
    congr 1
    omega

/-- A contract of whatever is called: 'Cl' says how it comes out. -/
def ACx (Cl : Array Value → World → (Ending → World → Prop) → Prop) (G : GR) (args : List AV) (r : Rs) (O : AV → Rs → Prop) : Prop :=
  ∀ (E : Env) (w : World) (vals : Array Value), Good G E r w → RAL E r w args vals.toList →
    Cl vals w fun e w' => ∃ v x r' E', e = .returned x ∧ O v r' ∧ RA E' r' w' v x ∧ Good G E' r' w' ∧ Step E r w E' r' w'
theorem call_coreX {Cl : Array Value → World → (Ending → World → Prop) → Prop} (hmono : ∀ {vals w R R'}, Cl vals w R → (∀ e w', R e w' → R' e w') → Cl vals w R') {G : GR} {args : List AV} {r : Rs} {O : AV → Rs → Prop} (h : ACx Cl G args r O) {E : Env} {rc : Rs} {w : World} {vals : Array Value} {ts : List Nat}
    (hnd : ts.Nodup) (hlt : ∀ t ∈ ts, t < rc.length) (hG : Good G E rc w) (hargs : RAL E rc w (renL (nm ts rc.length) args) vals.toList) (hwf : wfL r.length args = true) (hlen : r.length = ts.length)
    (hr : ∀ (j : Nat) (x : Res), r[j]? = some (some x) → rc[nm ts rc.length j]? = some (some (renRes (nm ts rc.length) x))) (hwr : wfRs r.length r = true) :
    Cl vals w fun e w' => ∃ v x r' E'', e = .returned x ∧ O v r' ∧ r.length ≤ r'.length ∧ RA E'' (putAll (nm ts rc.length) rc ts r') w' (ren (nm ts rc.length) v) x ∧ Good G E'' (putAll (nm ts rc.length) rc ts r') w' ∧
      Step E rc w E'' (putAll (nm ts rc.length) rc ts r') w' ∧ (r = [] → Keeps w w') := by
  have hB : AliasB (nm ts rc.length) ⟨E.T, fun j => E.bl (nm ts rc.length j)⟩ r E rc := ⟨rfl, fun i _ => rfl, hr⟩
  have hnlt : ∀ j, j < r.length → nm ts rc.length j < rc.length := fun j hj => hlt _ (List.mem_of_getElem? (nm_lt (by omega)))
  have hGc : Good G ⟨E.T, fun j => E.bl (nm ts rc.length j)⟩ r w := by
    refine ⟨fun i k b hi hb => hG.tok _ k b (hr i _ hi) hb, fun i l hi => ?_, fun i l hi => ?_, fun i j x y b hi hj hbi hbj => ?_, hG.fresh, hG.glob⟩
    · obtain ⟨b, hb, h1, vs, e, h2, h3, h4⟩ := hG.obj _ _ (hr i _ hi)
      exact ⟨b, hb, h1, vs, e, h2, RAL_unren hB l _ (wfRs_at hwr hi) h3, h4⟩
    · obtain ⟨b, hb, h1, h2⟩ := hG.map _ _ (hr i _ hi)
      exact ⟨b, hb, h1, h2⟩
    · have := hG.one _ _ _ _ b (hr i _ hi) (hr j _ hj) hbi hbj
      have hi' := (List.getElem?_eq_some_iff.1 hi).1
      have hj' := (List.getElem?_eq_some_iff.1 hj).1
      have h1 := idxOf_get hnd (nm_lt (n := rc.length) (by omega : i < ts.length))
      have h2 := idxOf_get hnd (nm_lt (n := rc.length) (by omega : j < ts.length))
      rw [this] at h1
      omega
  refine hmono (h _ w vals hGc (RAL_unren hB args _ hwf hargs)) fun e w' hq => ?_
  obtain ⟨v, x, r', E', rfl, hO, hv, hG', hS⟩ := hq
  have hle : ts.length ≤ r'.length := by have := hS.names.len; omega
  have hplen := putAll_length (nm ts rc.length) ts rc r' hle
  -- what a name of the caller's is behind the call
  have look : ∀ i, (putAll (nm ts rc.length) rc ts r')[i]? = if i < rc.length then (if i ∈ ts then (r'[ts.idxOf i]?).map (Option.map (renRes (nm ts rc.length))) else rc[i]?) else (r'[ts.length + (i - rc.length)]?).map (Option.map (renRes (nm ts rc.length))) := by
    intro i
    split
    · rename_i hi
      split
      · rename_i hm
        have hidx : ts.idxOf i < ts.length := List.idxOf_lt_length_iff.2 hm
        exact putAll_at _ ts rc r' hle hnd hlt _ _ (by rw [List.getElem?_eq_getElem hidx, List.getElem_idxOf hidx])
      · rename_i hm
        exact putAll_other _ ts rc r' hle i hi hm
    · rename_i hi
      have := putAll_new (nm ts rc.length) ts rc r' hle (i - rc.length)
      rw [show rc.length + (i - rc.length) = i from by omega] at this
      exact this
  have lookn : ∀ j, (putAll (nm ts rc.length) rc ts r')[nm ts rc.length j]? = (r'[j]?).map (Option.map (renRes (nm ts rc.length))) := by
    intro j
    by_cases hj : j < ts.length
    · exact putAll_at _ ts rc r' hle hnd hlt _ _ (nm_lt hj)
    · rw [nm_ge (by omega)]
      have := putAll_new (nm ts rc.length) ts rc r' hle (j - ts.length)
      rw [show ts.length + (j - ts.length) = j from by omega] at this
      exact this
  have hA : Alias (nm ts rc.length) E' r' ⟨E'.T, blAfter ts rc.length E.bl E'.bl⟩ (putAll (nm ts rc.length) rc ts r') := by
    refine ⟨rfl, fun i hi => (blAfter_nm hnd hlt).symm, fun i hi => ?_, fun i y hi hy => ?_, fun i x hx => ?_⟩
    · rw [hplen]
      by_cases hj : i < ts.length
      · have := hlt _ (List.mem_of_getElem? (nm_lt (n := rc.length) hj)); omega
      · rw [nm_ge (by omega)]; omega
    · rw [lookn, List.getElem?_eq_getElem hi] at hy
      simp only [Option.map_some, Option.some.injEq, Option.map_eq_some_iff] at hy
      obtain ⟨z, hz, rfl⟩ := hy
      exact ⟨z, by rw [List.getElem?_eq_getElem hi, hz], rfl⟩
    · rw [lookn, hx]; rfl
  -- a live name is one of the callee's, or one that the callee never saw
  have split : ∀ i y, (putAll (nm ts rc.length) rc ts r')[i]? = some (some y) → (∃ j x, nm ts rc.length j = i ∧ r'[j]? = some (some x) ∧ y = renRes (nm ts rc.length) x ∧ blAfter ts rc.length E.bl E'.bl i = E'.bl j) ∨
      (i < rc.length ∧ i ∉ ts ∧ rc[i]? = some (some y) ∧ blAfter ts rc.length E.bl E'.bl i = E.bl i) := by
    intro i y hy
    by_cases hi : i < rc.length
    · by_cases hm : i ∈ ts
      · left
        rw [look, if_pos hi, if_pos hm] at hy
        simp only [Option.map_eq_some_iff] at hy
        obtain ⟨z, hz, z2, rfl, rfl⟩ := hy
        have hidx : ts.idxOf i < ts.length := List.idxOf_lt_length_iff.2 hm
        have hnm : nm ts rc.length (ts.idxOf i) = i := by
          have h1 := nm_lt (n := rc.length) hidx
          rw [List.getElem?_eq_getElem hidx, List.getElem_idxOf hidx] at h1
          injection h1 with h1; exact h1.symm
        refine ⟨ts.idxOf i, z2, hnm, hz, rfl, ?_⟩
        conv => lhs; rw [← hnm]
        exact blAfter_nm hnd hlt
      · right
        rw [look, if_pos hi, if_neg hm] at hy
        exact ⟨hi, hm, hy, by unfold blAfter; rw [if_pos hi, if_neg hm]⟩
    · left
      rw [look, if_neg hi] at hy
      simp only [Option.map_eq_some_iff] at hy
      obtain ⟨z, hz, z2, rfl, rfl⟩ := hy
      have hnm : nm ts rc.length (ts.length + (i - rc.length)) = i := by rw [nm_ge (by omega)]; omega
      refine ⟨_, z2, hnm, hz, rfl, ?_⟩
      conv => lhs; rw [← hnm]
      exact blAfter_nm hnd hlt
  have ownc : ∀ b, Own ⟨E.T, fun j => E.bl (nm ts rc.length j)⟩ r b → Own E rc b := fun b ⟨i, x, hi, hb⟩ => ⟨_, _, hr i x hi, hb⟩
  -- blocks of names that the callee never saw are not the callee's own
  have foreign : ∀ i y b, i < rc.length → i ∉ ts → rc[i]? = some (some y) → E.bl i = some b → ¬ Own ⟨E.T, fun j => E.bl (nm ts rc.length j)⟩ r b := by
    intro i y b hi hm hy hb ⟨j, x, hj, hbj⟩
    have := hG.one i _ _ _ b hy (hr j x hj) hb hbj
    have hjl := (List.getElem?_eq_some_iff.1 hj).1
    exact hm (this ▸ List.mem_of_getElem? (nm_lt (n := rc.length) (by omega)))
  have hSt : Step E rc w ⟨E'.T, blAfter ts rc.length E.bl E'.bl⟩ (putAll (nm ts rc.length) rc ts r') w' := by
    refine ⟨hS.os, hS.tape, hS.output, hS.size, fun b hb hn => hS.block b hb (fun ho => hn (ownc b ho)), fun b ho => ?_, hS.lasts, hS.shape, ⟨by rw [hplen]; omega, fun i k' hi hk => ?_, fun i l' hi hk => ?_, fun i l' hi hk => ?_⟩⟩
    · obtain ⟨i, y, hy, hb⟩ := ho
      rcases split i y hy with ⟨j, x, hnm, hj, _, he⟩ | ⟨hi, _, hy, he⟩
      · rw [show (Env.bl _ i) = _ from he] at hb
        rcases hS.own b ⟨j, x, hj, hb⟩ with h1 | h1
        · exact .inl (ownc b h1)
        · exact .inr h1
      · rw [show (Env.bl _ i) = _ from he] at hb
        exact .inl ⟨i, y, hy, hb⟩
    · rcases split i _ hk with ⟨j, x, hnm, hj, hx, he⟩ | ⟨_, _, hy, he⟩
      · have hjl : j < r.length := by
          rcases Nat.lt_or_ge j r.length with h1 | h1
          · exact h1
          · rw [nm_ge (by omega)] at hnm; omega
        cases x with
        | tok k2 =>
          simp only [renRes] at hx; injection hx with hx; subst hx
          obtain ⟨k3, h3, h4, h5⟩ := hS.names.tok j _ hjl hj
          refine ⟨k3, by rw [← hnm]; exact hr j _ h3, h4, fun hk => ?_⟩
          rw [show (Env.bl _ i) = _ from he, h5 hk]
          show E.bl (nm ts rc.length j) = E.bl i
          rw [hnm]
        | obj l => cases hx
        | mpx l => cases hx
      · exact ⟨k', hy, Nat.le_refl _, fun _ => he⟩
    · rcases split i _ hk with ⟨j, x, hnm, hj, hx, he⟩ | ⟨_, _, hy, he⟩
      · have hjl : j < r.length := by
          rcases Nat.lt_or_ge j r.length with h1 | h1
          · exact h1
          · rw [nm_ge (by omega)] at hnm; omega
        cases x with
        | obj l2 =>
          simp only [renRes] at hx; injection hx with hx; subst hx
          obtain ⟨l3, h3, h4, h5⟩ := hS.names.obj j _ hjl hj
          refine ⟨renL (nm ts rc.length) l3, by rw [← hnm]; exact hr j _ h3, by rw [renL_length, renL_length]; exact h4, ?_⟩
          rw [show (Env.bl _ i) = _ from he, h5]
          show E.bl (nm ts rc.length j) = E.bl i
          rw [hnm]
        | tok l => cases hx
        | mpx l => cases hx
      · exact ⟨l', hy, rfl, he⟩
    · rcases split i _ hk with ⟨j, x, hnm, hj, hx, he⟩ | ⟨_, _, hy, he⟩
      · have hjl : j < r.length := by
          rcases Nat.lt_or_ge j r.length with h1 | h1
          · exact h1
          · rw [nm_ge (by omega)] at hnm; omega
        cases x with
        | mpx l2 =>
          simp only [renRes] at hx; injection hx with hx; subst hx
          obtain ⟨l3, h3, h5⟩ := hS.names.map j _ hjl hj
          refine ⟨l3, by rw [← hnm]; exact hr j _ h3, ?_⟩
          rw [show (Env.bl _ i) = _ from he, h5]
          show E.bl (nm ts rc.length j) = E.bl i
          rw [hnm]
        | tok l => cases hx
        | obj l => cases hx
      · exact ⟨l', hy, he⟩
  have hkp : r = [] → Keeps w w' := by
    rintro rfl
    exact ⟨hS.size, fun b hb => (hS.block b hb (by rintro ⟨i, y, hi, _⟩; simp at hi)).1⟩
  refine ⟨v, x, r', _, rfl, hO, by omega, RA_ren hA v x hv, ?_, hSt, hkp⟩
  refine ⟨fun i k b hi hb => ?_, fun i l hi => ?_, fun i l hi => ?_, fun i i2 y y2 b hi hi2 hb hb2 => ?_, hG'.fresh, hG'.glob⟩
  · rcases split i _ hi with ⟨j, x, hnm, hj, hx, he⟩ | ⟨hil, hm, hy, he⟩
    · cases x with
      | tok k2 =>
        simp only [renRes] at hx; injection hx with hx; subst hx
        rw [show (Env.bl _ i) = _ from he] at hb
        exact hG'.tok j _ b hj hb
      | obj l => cases hx
      | mpx l => cases hx
    · rw [show (Env.bl _ i) = _ from he] at hb
      have hfo := foreign i _ b hil hm hy hb
      obtain ⟨h1, cur, e, h2, h3⟩ := hG.tok i k b hy hb
      have hb2 := hS.block b (hG.lt hy hb) hfo
      exact ⟨hb2.2.trans h1, cur, e, hb2.1.trans h2, h3⟩
  · rcases split i _ hi with ⟨j, x, hnm, hj, hx, he⟩ | ⟨hil, hm, hy, he⟩
    · cases x with
      | obj l2 =>
        simp only [renRes] at hx; injection hx with hx; subst hx
        obtain ⟨b, hb, h1, vs, e, h2, h3, h4⟩ := hG'.obj j _ hj
        exact ⟨b, he.trans hb, h1, vs, e, h2, RAL_ren hA _ _ h3, h4⟩
      | tok l => cases hx
      | mpx l => cases hx
    · obtain ⟨b, hb, h1, vs, e, h2, h3, h4⟩ := hG.obj i l hy
      have hfo := foreign i _ b hil hm hy hb
      have hb2 := hS.block b (hG.lt hy hb) hfo
      exact ⟨b, he.trans hb, hb2.2.trans h1, vs, e, hb2.1.trans h2, h3.step hSt, h4⟩
  · rcases split i _ hi with ⟨j, x, hnm, hj, hx, he⟩ | ⟨hil, hm, hy, he⟩
    · cases x with
      | mpx l2 =>
        simp only [renRes] at hx; injection hx with hx; subst hx
        obtain ⟨b, hb, h1, h2⟩ := hG'.map j _ hj
        exact ⟨b, he.trans hb, h1, h2⟩
      | tok l => cases hx
      | obj l => cases hx
    · obtain ⟨b, hb, h1, h2⟩ := hG.map i l hy
      have hfo := foreign i _ b hil hm hy hb
      have hb2 := hS.block b (hG.lt hy hb) hfo
      exact ⟨b, he.trans hb, hb2.2.trans h1, h2.lasts (T' := E.T) hb2.1 hSt.lasts⟩
  · rcases split i _ hi with ⟨j, x, hnm, hj, hx, he⟩ | ⟨hil, hm, hy, he⟩ <;> rcases split i2 _ hi2 with ⟨j2, x2, hnm2, hj2, hx2, he2⟩ | ⟨hil2, hm2, hy2, he2⟩
    · rw [show (Env.bl _ i) = _ from he] at hb
      rw [show (Env.bl _ i2) = _ from he2] at hb2
      have := hG'.one j j2 _ _ b hj hj2 hb hb2
      rw [← hnm, ← hnm2, this]
    · rw [show (Env.bl _ i) = _ from he] at hb
      rw [show (Env.bl _ i2) = _ from he2] at hb2
      have hfo := foreign i2 _ b hil2 hm2 hy2 hb2
      rcases hS.own b ⟨j, x, hj, hb⟩ with h1 | h1
      · exact absurd h1 hfo
      · have := hG.lt hy2 hb2; omega
    · rw [show (Env.bl _ i) = _ from he] at hb
      rw [show (Env.bl _ i2) = _ from he2] at hb2
      have hfo := foreign i _ b hil hm hy hb
      rcases hS.own b ⟨j2, x2, hj2, hb2⟩ with h1 | h1
      · exact absurd h1 hfo
      · have := hG.lt hy hb; omega
    · rw [show (Env.bl _ i) = _ from he] at hb
      rw [show (Env.bl _ i2) = _ from he2] at hb2
      exact hG.one i i2 _ _ b hy hy2 hb hb2

theorem call_core {P : Program} {G : GR} {f : FuncId} {args : List AV} {r : Rs} {O : AV → Rs → Prop} (h : AC P G f args r O) {E : Env} {rc : Rs} {w : World} {vals : Array Value} {ts : List Nat}
    (hnd : ts.Nodup) (hlt : ∀ t ∈ ts, t < rc.length) (hG : Good G E rc w) (hargs : RAL E rc w (renL (nm ts rc.length) args) vals.toList) (hwf : wfL r.length args = true) (hlen : r.length = ts.length)
    (hr : ∀ (j : Nat) (x : Res), r[j]? = some (some x) → rc[nm ts rc.length j]? = some (some (renRes (nm ts rc.length) x))) (hwr : wfRs r.length r = true) :
    Calls P f vals w fun e w' => ∃ v x r' E'', e = .returned x ∧ O v r' ∧ r.length ≤ r'.length ∧ RA E'' (putAll (nm ts rc.length) rc ts r') w' (ren (nm ts rc.length) v) x ∧ Good G E'' (putAll (nm ts rc.length) rc ts r') w' ∧
      Step E rc w E'' (putAll (nm ts rc.length) rc ts r') w' ∧ (r = [] → Keeps w w') :=
  call_coreX (Cl := fun vals w R => Calls P f vals w R) (fun h k => Calls.mono h k) (fun E w vals hG hA => h.2 E w vals hG hA) hnd hlt hG hargs hwf hlen hr hwr

/-! ### Entering a function, and leaving it -/
def mkL : Nat → List AV → List (Nat × AV)
  | _, [] => []
  | i, a :: l => (i, a) :: mkL (i + 1) l
def initSt (args : List AV) (r : Rs) : St := ⟨fun _ => .top, mkL 0 args, r⟩
theorem lk_mkL (b : Nat → AV) : ∀ (l : List AV) (k i : Nat), lk (mkL k l) b i = if k ≤ i ∧ i < k + l.length then l.getD (i - k) .top else b i
  | [], k, i => by simp [mkL, lk]; omega
  | a :: l, k, i => by
    simp only [mkL, lk]
    by_cases hik : i = k
    · subst hik
      simp
    · rw [if_neg hik, lk_mkL b l (k + 1) i]
      simp only [List.length_cons]
      by_cases h : k + 1 ≤ i ∧ i < k + 1 + l.length
      · rw [if_pos h, if_pos (by omega)]
        rw [show i - k = (i - (k + 1)) + 1 from by omega]
        simp
      · rw [if_neg h, if_neg (by omega)]
def resOne (ti : Ti) (σ : St) : ResultVar → Option AV
  | .tmp t => some (σ.get t)
  | .cell a t => evLoad ti σ.r t (σ.get a)
def resAll (ti : Ti) (σ : St) : List ResultVar → Option (List AV)
  | [] => some []
  | v :: l => match resOne ti σ v, resAll ti σ l with
    | some a, some as => some (a :: as)
    | _, _ => none
def resTup : List AV → AV
  | [a] => a
  | l => .tup l
def resA (ti : Ti) (σ : St) (l : List ResultVar) : Option AV := (resAll ti σ l).map resTup
section
variable {P : Program} {ti : Ti} {G : GR} {N : Nat}
def resSem (tmps : Array Value) : ResultVar → Sem Value
  | .tmp t => pure (tmps.getD t undef)
  | .cell p t => do loadVar t (← asAddr (tmps.getD p undef))
theorem results_eq (fn : Func) (tmps : Array Value) : results fn tmps = (do
    let vs ← fn.results.toList.mapM (resSem tmps)
    pure (if h : vs.toArray.size = 1 then vs.toArray[0] else .tuple vs.toArray)) := by
  have h : (fun v : ResultVar => (match v with
      | .tmp t => pure (tmps.getD t undef)
      | .cell a t => do loadVar t (← asAddr (tmps.getD a undef)) : Sem Value)) = resSem tmps := by
    funext v; cases v <;> rfl
  unfold results
  rw [Array.mapM_eq_mapM_toList]
  show (do
    let vs ← (fn.results.toList.mapM (fun v : ResultVar => (match v with
      | .tmp t => pure (tmps.getD t undef)
      | .cell a t => do loadVar t (← asAddr (tmps.getD a undef)) : Sem Value))) >>= fun l => pure l.toArray
    pure (if h : vs.size = 1 then vs[0] else .tuple vs)) = _
  rw [h]
  simp only [bind_assoc, pure_bind]
theorem resOne_sound (hti : TiOK P ti) {E : Env} {σ : St} {a : Act} {w : World} (h : Rel G N E σ a w) {v : ResultVar} {x : AV} (e : resOne ti σ v = some x) :
    ∃ z, (resSem a.tmps v).run P w = .ok z w ∧ RA E σ.r w x z := by
  cases v with
  | tmp t => simp only [resOne] at e; injection e with e; subst e; exact ⟨_, rfl, h.slot t⟩
  | cell p t =>
    simp only [resOne] at e
    obtain ⟨z, hz, hr⟩ := evLoad_sound (P := P) hti h.good (h.slot p) e
    refine ⟨z, ?_, hr⟩
    have hp := h.slot p
    have hptr : ∃ ad, a.tmps.getD p undef = .pointer (some ad) := by
      unfold evLoad at e
      split at e
      · split at e
        · rename_i xs hxs
          rw [hxs] at hp
          simp only [RA] at hp
          obtain ⟨ad, hp, _⟩ := hp
          exact ⟨ad, hp⟩
        · rename_i o off ho
          split at e
          · rename_i l hl
            rw [ho] at hp
            simp only [RA] at hp
            obtain ⟨b, _, hp⟩ := hp.2 l (objOf_some hl)
            exact ⟨_, hp⟩
          · cases e
        · cases e
      · cases e
    obtain ⟨ad, hptr⟩ := hptr
    show (do loadVar t (← asAddr (a.tmps.getD p undef)) : Sem Value).run P w = _
    rw [hptr] at hz ⊢
    simpa [Instr.loadAt, Instr.sureAddr, asAddr] using hz w (Keeps.refl w)
theorem resAll_sound (hti : TiOK P ti) {E : Env} {σ : St} {a : Act} {w : World} (h : Rel G N E σ a w) : ∀ (l : List ResultVar) (as : List AV), resAll ti σ l = some as → ∃ zs : List Value,
    (l.mapM (resSem a.tmps)).run P w = .ok zs w ∧ RAL E σ.r w as zs
  | [], as, e => by simp only [resAll] at e; injection e with e; subst e; exact ⟨[], by simp, by simp [RAL]⟩
  | v :: l, as, e => by
    simp only [resAll] at e
    split at e
    · rename_i x xs hx hxs
      injection e with e; subst e
      obtain ⟨z, hz, hr⟩ := resOne_sound hti h hx
      obtain ⟨zs, hzs, hrs⟩ := resAll_sound hti h l xs hxs
      refine ⟨z :: zs, ?_, by simp only [RAL]; exact ⟨z, zs, rfl, hr, hrs⟩⟩
      rw [List.mapM_cons]
      simp only [Sem.run_bind, hz, Result.andThen_ok, hzs, Sem.run_pure]
    · cases e
theorem results_sound (hti : TiOK P ti) {E : Env} {σ : St} {a : Act} {w : World} (h : Rel G N E σ a w) {fn : Func} {x : AV} (e : resA ti σ fn.results.toList = some x) : ∃ z, (results fn a.tmps).run P w = .ok z w ∧ RA E σ.r w x z := by
  simp only [resA, Option.map_eq_some_iff] at e
  obtain ⟨as, has, rfl⟩ := e
  obtain ⟨zs, hzs, hr⟩ := resAll_sound hti h _ as has
  have hl := RAL_length _ _ hr
  refine ⟨if h : zs.toArray.size = 1 then zs.toArray[0] else .tuple zs.toArray, ?_, ?_⟩
  · rw [results_eq]
    simp only [Sem.run_bind, hzs, Result.andThen_ok, Sem.run_pure]
  · by_cases h1 : zs.toArray.size = 1
    · rw [dif_pos h1]
      have h1' : zs.length = 1 := by simpa using h1
      match zs, as, h1', hl, hr with
      | [z], [x], _, _, hr =>
        simp only [RAL] at hr
        obtain ⟨v, rest, he, hv, _⟩ := hr
        injection he with he
        subst he
        exact hv
    · rw [dif_neg h1]
      have h1' : zs.length ≠ 1 := by simpa using h1
      have : resTup as = .tup as := by
        match as, hl with
        | [], _ => rfl
        | [x], hl => simp at hl; omega
        | x :: y :: l, _ => rfl
      rw [this]
      simp only [RA]
      exact ⟨_, rfl, by simpa using hr⟩
/-- What a function's end is to show. -/
def retK (ti : Ti) (res : List ResultVar) (O : AV → Rs → Prop) : Kt
  | .ret, σ => bindP (resA ti σ res) fun v => O v σ.r
  | .normal, σ => bindP (resA ti σ res) fun v => O v σ.r
  | _, _ => False
theorem init_slots {E : Env} {r : Rs} {w : World} {fn : Func} {args : List AV} {vals : Array Value} (hn : args.length ≤ fn.ntmps) (hA : RAL E r w args vals.toList) (i : Nat) : RA E r w ((initSt args r).get i) ((vals ++ Array.replicate (fn.ntmps - vals.size) undef).getD i undef) := by
    have hl := RAL_length _ _ hA
    simp only [Array.length_toList] at hl
    show RA E r w (lk (mkL 0 args) (fun _ => .top) i) _
    rw [lk_mkL]
    split
    · rename_i hi
      have hi' : i < args.length := by omega
      obtain ⟨v, hv, hr⟩ := RAL_get _ _ hA i _ (List.getElem?_eq_getElem hi')
      have hx : (vals ++ Array.replicate (fn.ntmps - vals.size) undef).getD i undef = v := by
        rw [Array.getD_eq_getD_getElem?, Array.getElem?_append_left (by omega)]
        have : vals[i]? = some v := by simpa using hv
        rw [this]; rfl
      show RA E r w _ ((vals ++ Array.replicate (fn.ntmps - vals.size) undef).getD i undef)
      rw [hx]
      simp only [Nat.sub_zero, List.getD_eq_getElem?_getD, List.getElem?_eq_getElem hi', Option.getD_some]
      exact hr
    · simp [RA]
theorem AC_intro (hti : TiOK P ti) {f : FuncId} {fn : Func} {c : Code} {args : List AV} {r : Rs} {O : AV → Rs → Prop} (hcall : ∀ (as : Array Value) (w : World), (callFunc f as).run P w = .ok (.enter f as) w) (hf : P.funcs[f]? = some fn) (hb : fn.body = some c)
    (hn : args.length ≤ fn.ntmps) (h : Holds P G fn.ntmps c (retK ti fn.results.toList O) (initSt args r)) (hro : G.ro = none := by rfl) (hn0 : G.n0 = none := by rfl) : AC P G f args r O := by
  refine ⟨hcall, fun E w vals hG hA => calls_of_wp hf hb (wpIn_wide (n := 0).1 ?_)⟩
  have hF : fcR G = Fence.wide := by rw [fcR, hro]; rfl
  rw [← hF]
  have hl := RAL_length _ _ hA
  simp only [Array.length_toList] at hl
  have hR : Rel G fn.ntmps E (initSt args r) { tmps := vals ++ Array.replicate (fn.ntmps - vals.size) undef, defers := [] } w := by
    refine ⟨by simp; omega, fun i => ?_, hG, by rw [hn0]; rfl⟩
    exact init_slots hn hA i
  refine wpIn_mono (h E r w E _ w hR (Step.refl _ _ _)) fun e a' w' hq => ?_
  obtain ⟨σ, E', hk, hR', hS⟩ := hq
  have fin : bindP (resA ti σ fn.results.toList) (fun v => O v σ.r) → a'.defers = [] ∧ ∃ v, (results fn a'.tmps).run P w' = .ok v w' ∧ ∃ v_1 x r' E', Ending.returned v = .returned x ∧ O v_1 r' ∧ RA E' r' w' v_1 x ∧ Good G E' r' w' ∧ Step E r w E' r' w' := by
    intro hb
    obtain ⟨v, hv, hO⟩ := bindP_elim hb
    obtain ⟨z, hz, hr⟩ := results_sound hti hR' hv
    have hd := hR'.defers
    rw [hn0] at hd
    exact ⟨hd, z, hz, v, z, σ.r, E', rfl, hO, hr, hR'.good, hS⟩
  cases e with
  | normal => exact fin hk
  | ret => exact fin hk
  | exit id => exact hk.elim
  | goto l => exact hk.elim
  | panic ch => exact hk.elim
  | outgrown => exact hk.elim

/-! ### A call -/
/-- Which function is called, with what. -/
def calleeOf (ρ : Operand → AV) (c : Call) : Option (FuncId × List AV) :=
  match c.callee with
  | .value x => match ρ x with
    | .fn (.func f) first cap => some (f, first ++ c.args.toList.map ρ ++ cap)
    | _ => none
  | _ => none
def WkAs : List AV → List AV → Prop
  | [], [] => True
  | a :: as, b :: bs => WeakA a b ∧ WkAs as bs
  | _, _ => False
theorem WkAs_sound {E : Env} {r : Rs} {w : World} : ∀ {as bs : List AV} {vs : List Value}, WkAs as bs → RAL E r w as vs → RAL E r w bs vs
  | [], [], vs, _, h => h
  | a :: as, b :: bs, vs, hw, h => by
    simp only [WkAs] at hw
    simp only [RAL] at h ⊢
    obtain ⟨v, rest, rfl, h1, h2⟩ := h
    exact ⟨v, rest, rfl, hw.1.sound h1, WkAs_sound hw.2 h2⟩
  | [], b :: bs, _, hw, _ => hw.elim
  | a :: as, [], _, hw, _ => hw.elim
/-- What is handed over of the call's own fits the contract. -/
def HandOK (g : Nat → Nat) (rc : Rs) : Rs → List Nat → Prop
  | [], [] => True
  | x :: r, t :: ts => (∀ y, x = some y → rc[t]? = some (some (renRes g y))) ∧ HandOK g rc r ts
  | _, _ => False
theorem HandOK_at {g : Nat → Nat} {rc : Rs} : ∀ {r : Rs} {ts : List Nat}, HandOK g rc r ts → r.length = ts.length ∧ ∀ (j : Nat) (x : Res) (t : Nat), r[j]? = some (some x) → ts[j]? = some t → rc[t]? = some (some (renRes g x))
  | [], [], _ => ⟨rfl, fun j x t h => by simp at h⟩
  | y :: r, t0 :: ts, h => by
    simp only [HandOK] at h
    obtain ⟨k1, k2⟩ := HandOK_at h.2
    refine ⟨by simp [k1], fun j x t hj ht => ?_⟩
    cases j with
    | zero => simp at hj ht; subst ht; exact h.1 x hj
    | succ j => exact k2 j x t (by simpa using hj) (by simpa using ht)
  | [], t :: ts, h => h.elim
  | x :: r, [], h => h.elim
theorem callee_run {α : Operand → Value} {ρ : Operand → AV} {E : Env} {r : Rs} {w : World} (hev : ∀ x, RA E r w (ρ x) (α x)) {o : Oper} {c : Call} (ho : o.op = .call c) {f : FuncId} {as : List AV} (e : calleeOf ρ c = some (f, as))
    (hcall : ∀ (as : Array Value) (w : World), (callFunc f as).run P w = .ok (.enter f as) w) : ∃ vals : Array Value, (execOp α o).run P w = .ok (.enter f vals) w ∧ RAL E r w as vals.toList := by
  unfold calleeOf at e
  split at e
  · rename_i x hx
    split at e
    · rename_i f' first cap hf
      simp only [Option.some.injEq, Prod.mk.injEq] at e
      obtain ⟨rfl, rfl⟩ := e
      have h := hev x
      rw [hf] at h
      simp only [RA] at h
      obtain ⟨vs, us, hp, h1, h2⟩ := h
      refine ⟨vs ++ c.args.map α ++ us, by simp [execOp, ho, resolve, hx, hp, Deferred.ofValue, invoke, hcall], ?_⟩
      simp only [Array.toList_append, Array.toList_map]
      exact RAL_append _ _ _ _ (RAL_append _ _ _ _ h1 (RAL_ev hev _)) h2
    · cases e
  · cases e
theorem wide_of {c : Code} {Q : Exit → Act → World → Prop} {a : Act} {w : World} (hro : G.ro = none) (h : c.wp P Q a w) : c.wpIn (fcR G) 0 P Q a w := by
  have hF : fcR G = Fence.wide := by rw [fcR, hro]; rfl
  rw [hF]; exact wpIn_wide.2 h
/-- What comes to a value is no deferred call. -/
theorem nd_of_run {α : Operand → Value} {o : Oper} {x : Value} {w w' : World} (h : (execOp α o).run P w = .ok (.value x) w' ∨ (execOp α o).run P w = .ok .skip w') : ∀ c, o.op ≠ .defer c := by
  intro c hc
  simp only [execOp, hc, Sem.run_bind] at h
  cases hq : (resolve α c o.type).run P w with
  | ok d w1 => rw [hq] at h; simp [Result.andThen] at h
  | halt y w1 => rw [hq] at h; simp [Result.andThen] at h
/-- A contract, seen in a round or out of one. -/
theorem callsIn_any (G : GR) {n : Nat} {f : FuncId} {args : Array Value} {w : World} {R : Ending → World → Prop} (h : Calls P f args w R) : CallsIn (fcR G) n P f args w R := (callsIn_wide (n := n)).2 h
theorem HL_call {ops : Array Oper} {o : Oper} {rest : List Oper} {K : Kt} {σ : St} {f : FuncId} {as args : List AV} {r : Rs} {O : AV → Rs → Prop} {c : Call} (ts : List Nat) (h : AC P G f args r O) (hd : dstOK N o = true) (hg : gd ops σ o = some true) (ho : o.op = .call c)
    (hc : calleeOf (σ.ev G) c = some (f, as)) (hnd : ts.Nodup) (hlt : ∀ t ∈ ts, t < σ.r.length) (hw : WkAs as (renL (nm ts σ.r.length) args)) (hwf : wfL r.length args = true) (hh : HandOK (nm ts σ.r.length) σ.r r ts) (hwr : wfRs r.length r = true)
    (hk : ∀ v r', O v r' → r.length ≤ r'.length → HL P G N ops rest K (σ.putR o.dst (ren (nm ts σ.r.length) v) (putAll (nm ts σ.r.length) σ.r ts r'))) : HL P G N ops (o :: rest) K σ := by
  intro E0 r0 w0 E a w hR hS
  unfold wpListIn
  rw [if_pos (gd_sound hR hg)]
  obtain ⟨vals, hrun, hral⟩ := callee_run (P := P) (fun x => ev_sound hR x) ho hc h.1
  refine ⟨fun f _ => fcR_fn G f, ?_⟩
  rw [Oper.semAt_eq _ _ _ (fun c hc => by rw [ho] at hc; cases hc), hrun, Oper.uponIn_enter]
  refine ⟨fun hd => (by cases hd), ?_⟩
  refine callsIn_any G ?_
  obtain ⟨hl, hh⟩ := HandOK_at hh
  refine (call_core h hnd hlt hR.good (WkAs_sound hw hral) hwf hl (fun j x hj => hh j x _ hj (nm_lt (by have := (List.getElem?_eq_some_iff.1 hj).1; omega))) hwr).mono fun e w' hq => ?_
  obtain ⟨v, x, r', E', rfl, hO, hle, hra, hgood, hst, _⟩ := hq
  have hrel := hR.putO hst hgood hd hra
  rw [putR_eq] at hrel
  exact hk v r' hO hle E0 r0 w0 E' _ w' hrel (hS.trans hst)
end
end Go.Proofs.Ythdjblfiiogmgaa
/- The frame of these proofs, part TA: what is asked of a type; regions that draw their order: which of them come to the same in whatever order. -/
set_option linter.unusedVariables false
set_option linter.unusedSimpArgs false
namespace Go.Proofs.Ythdjblfiiogmgaa
open Go

/-! ### What is asked of a type -/
inductive TK where
  | int (k : IntKind)
  | bool
  | str
  | sl (e : TypeId)
  | arr (n : Nat) (e : TypeId)
  | st
  | ptr
  | map
  | fn
  | no
def tkOf : TypeDesc → TK
  | .int k => .int k
  | .bool => .bool
  | .string => .str
  | .slice e => .sl e
  | .array n e => .arr n e
  | .struct _ => .st
  | .pointer _ => .ptr
  | .map _ _ => .map
  | .func _ _ _ => .fn
  | _ => .no
def tK (ti : Ti) (t : TypeId) : TK := match ti t with
  | some i => tkOf i.u
  | none => .no
def tS (ti : Ti) (t : TypeId) : Nat := match ti t with
  | some i => i.size
  | none => 0
def tB (ti : Ti) (t : TypeId) : Nat := match ti t with
  | some i => i.bytes
  | none => 0
def tG (ti : Ti) (t : TypeId) : Bool := match ti t with
  | some i => isAggD i.u
  | none => false
def tI (ti : Ti) (t : TypeId) : Bool := (ti t).isSome
def tZ (ti : Ti) (t : TypeId) : Option (List AV) := match ti t with
  | some i => zeroA i.zero
  | none => none
def tP (ti : Ti) (t : TypeId) : Option (List (Nat × Nat)) := match ti t with
  | some ⟨.struct fs, _, _, _⟩ => placesA ti fs.toList
  | _ => none

/-! ### Orders -/
/-- What an operation tells hangs on the values it is given, and on no memory. -/
def pureOp (ti : Ti) : Op → Bool
  | .move _ => true
  | .assign _ => true
  | .pick _ _ _ => true
  | .extract _ _ => true
  | .unOp _ _ _ => true
  | .binOp _ t _ _ _ => match tK ti t with | .int _ => true | .bool => true | .str => true | .arr _ _ => true | .st => true | _ => false
  | .convert _ d _ => match tK ti d with | .int _ => true | _ => false
  | .index t _ _ => match tK ti t with | .str => true | _ => false
  | .slice _ _ _ _ _ => true
  | .indexAddr _ _ _ => true
  | .fieldAddr _ _ _ => true
  | .field _ _ _ => true
  | .nilCheck _ => true
  | .makeFunc _ _ _ => true
  | .call c => match c.callee, c.argTypes.toList with
    | .builtin .len, [t] => match tK ti t with | .str => true | .sl _ => true | _ => false
    | _, _ => false
  | _ => false
/-- Only reads. -/
def roOp (ti : Ti) : Op → Bool
  | .box _ _ => false
  | .alloc _ => false
  | .store _ _ _ => false
  | .buildSlice _ _ _ => false
  | .makeSlice _ _ _ => false
  | .convert _ d _ => match tK ti d with | .sl _ => false | _ => true
  | .call c => match c.callee with
    | .builtin .len => true
    | .builtin .min => true
    | .builtin .max => true
    | _ => false
  | op => !stops op
def noPanic (Q : Exit → Act → World → Prop) : Exit → Act → World → Prop
  | .panic _, _, _ => False
  | e, a, w => Q e a w
/-- The kernel reckons the number first. -/
def force {α : Type} (n : Nat) (f : Nat → α) : α := match n with
  | 0 => f 0
  | m + 1 => f (m + 1)
theorem force_eq {α : Type} (n : Nat) (f : Nat → α) : force n f = f n := by cases n <;> rfl
/-- What an operation waits for, of those from 'k' on: a bit for each ('L': of those ahead of it). -/
def wmask (ops : Array Oper) (k : Nat) (L : Nat → Nat) (i : Nat) : Nat :=
  match ops[i]? with
  | some o => o.after.toList.foldl (fun acc x => if (Region.binds .any x && decide (k ≤ x.on) && decide (x.on < i)) = true then acc ||| (1 <<< (x.on - k) ||| L (x.on - k)) else acc) 0
  | none => 0
def rowOf (W S i : Nat) : Nat := (S >>> (i * W)) % 2 ^ W
def calcS (ops : Array Oper) (k W : Nat) : Nat → Nat → Nat → Nat
  | 0, _, S => S
  | n + 1, i, S => force (S ||| wmask ops k (rowOf W S) (k + i) <<< (i * W)) fun S' => force (i + 1) fun i' => calcS ops k W n i' S'

abbrev Ent := Nat × Oper × Value
def puts : List Ent → Act → Act
  | [], a => a
  | e :: l, a => puts l (a.put e.2.1.dst e.2.2)
/-- The operation comes to 'x', and leaves the world as it is. -/
def yat (P : Program) (ops : Array Oper) (w : World) (o : Oper) (x : Value) (a : Act) : Prop :=
  (Region.wanted o (yielded ops a.tmps) = true ∧ (execOp a.eval o).run P w = .ok (.value x) w) ∨ (Region.wanted o (yielded ops a.tmps) = false ∧ x = undef)
/-- What it tells stays so while memory only grows. -/
def stOp (ti : Ti) : Op → Bool
  | .load _ _ => true
  | .convert _ _ _ => true
  | .binOp _ _ _ _ _ => true
  | .call c => match c.callee with
    | .builtin .len => true
    | _ => false
  | op => pureOp ti op
/-- .. in whatever world, if it reads no memory; else while memory only grows. -/
def yatS (P : Program) (ti : Ti) (ops : Array Oper) (w : World) (o : Oper) (x : Value) (a : Act) : Prop := ∀ w', (pureOp ti o.op = true ∨ (stOp ti o.op = true ∧ Keeps w w') ∨ w' = w) → yat P ops w' o x a
def chainS (P : Program) (ti : Ti) (ops : Array Oper) (w : World) : List Ent → Act → Prop
  | [], _ => True
  | e :: l, a => yatS P ti ops w e.2.1 e.2.2 a ∧ chainS P ti ops w l (a.put e.2.1.dst e.2.2)
def lstU (ops : Array Oper) (U : List Nat) : Array Bool := Array.ofFn (n := ops.size) fun i => !U.contains i.val
def isEff (ti : Ti) (o : Oper) : Bool := !roOp ti o.op || stops o.op
/-- It leaves all memory that was there as it was: a new struct or row; a call that is handed nothing to write ('kp': those calls). -/
def keepOp : Op → Bool
  | .box _ _ => true
  | .alloc _ => true
  | .buildSlice _ _ _ => true
  | _ => false
def isKeep (kp : List Nat) (i : Nat) (o : Oper) : Bool := keepOp o.op || (stops o.op && kp.contains i)
structure PendOK (P : Program) (ti : Ti) (ops : Array Oper) (π : List Nat) (k : Nat) (rem : List Ent) (a : Act) (w : World) : Prop where
  op : ∀ e ∈ rem, ops[e.1]? = some e.2.1
  sub : (rem.map (·.1)).Sublist (π.take k)
  closed : ∀ i ∈ π.take k, i ∉ rem.map (·.1) → ∀ o, ops[i]? = some o → ∀ x ∈ o.after, Region.binds .any x = true → x.on ∉ rem.map (·.1)
  eff : ∀ e ∈ rem, isEff ti e.2.1 = false
  chain : chainS P ti ops w rem a
/-- The order 'π' speaks for every other one. -/
def scanP (ti : Ti) (ops : Array Oper) (kp : List Nat) (L : Nat → Nat) : List Nat → List Nat → Nat → Nat → Nat → Nat → Bool
  | [], _, _, _, _, _ => true
  | i :: rest, bef, seen, eff, np, ns => match ops[i]? with
    | some o => !seen.testBit i && o.after.toList.all (fun x => !Region.binds .any x || seen.testBit x.on) && (eff &&& L i) == eff && (!isEff ti o || (if isKeep kp i o = true then (ns &&& L i) == ns else (np &&& L i) == np)) &&
        bef.all (fun f => (L i).testBit f || match ops[f]? with
          | some of => of.apart ops o
          | none => false) &&
        force (seen ||| 1 <<< i) fun seen' => force (if isEff ti o = true then eff ||| 1 <<< i else eff) fun eff' => force (if pureOp ti o.op = true then np else np ||| 1 <<< i) fun np' => force (if stOp ti o.op = true then ns else ns ||| 1 <<< i) fun ns' => scanP ti ops kp L rest (i :: bef) seen' eff' np' ns'
    | none => false
def planT (ti : Ti) (N : Nat) (ops : Array Oper) (π kp : List Nat) : Bool :=
  Region.noSelect ops && ops.toList.all (dstOK N) && (List.range ops.size).all (fun i => π.contains i) && force (calcS ops 0 ops.size ops.size 0 0) fun S =>
    (List.range ops.size).all (fun i => force (rowOf ops.size S i) fun r => force (wmask ops 0 (rowOf ops.size S) i) fun m => (r ||| m) == m) && scanP ti ops kp (rowOf ops.size S) π [] 0 0 0 0
/-- What an operation waits for, of those before it in the order. -/
def wmaskS (ops : Array Oper) (seen : Nat) (L : Nat → Nat) (i : Nat) : Nat :=
  match ops[i]? with
  | some o => o.after.toList.foldl (fun acc x => if (Region.binds .any x && seen.testBit x.on) = true then acc ||| (1 <<< x.on ||| L x.on) else acc) 0
  | none => 0
def calcP (ops : Array Oper) (W : Nat) : List Nat → Nat → Nat → Nat
  | [], _, S => S
  | i :: r, seen, S => force (S ||| wmaskS ops seen (rowOf W S) i <<< (i * W)) fun S' => force (seen ||| 1 <<< i) fun seen' => calcP ops W r seen' S'
def rowsP (ops : Array Oper) (L : Nat → Nat) : List Nat → Nat → Bool
  | [], _ => true
  | i :: r, seen => force (L i) (fun q => force (wmaskS ops seen L i) fun m => (q ||| m) == m) && force (seen ||| 1 <<< i) fun seen' => rowsP ops L r seen'
def planP (ti : Ti) (N : Nat) (ops : Array Oper) (π kp : List Nat) : Bool :=
  Region.noSelect ops && ops.toList.all (dstOK N) && (List.range ops.size).all (fun i => π.contains i) && force (calcP ops ops.size π 0 0) fun S =>
    rowsP ops (rowOf ops.size S) π 0 && scanP ti ops kp (rowOf ops.size S) π [] 0 0 0 0
def planOK (ti : Ti) (N : Nat) (ops : Array Oper) (π kp : List Nat) : Bool := planT ti N ops π kp || planP ti N ops π kp
def opl (ops : Array Oper) (π : List Nat) : List Oper := π.filterMap fun i => ops[i]?
end Go.Proofs.Ythdjblfiiogmgaa
/- The frame of these proofs, part T: what simp may look into, and small words for it. -/
set_option linter.unusedVariables false
set_option linter.unusedSimpArgs false
namespace Go.Proofs.Ythdjblfiiogmgaa
open Go
attribute [congr] bindP_congr
/-- What comes behind, as data: simp doesn't look into code that isn't run yet. -/
inductive KD where
  | base (K : Kt)
  | ret (res : List ResultVar) (O : AV → Rs → Prop)
  | seq (y : Code) (K : KD)
  | block (id : Nat) (K : KD)
  | loop (L : St → Prop) (K : KD)
def loopX (L : St → Prop) (K : Kt) : Kt
  | .normal, σ => L σ
  | e, σ => K e σ
section
variable (P : Program) (ti : Ti) (G : GR) (N : Nat)
def app : KD → Kt
  | .base K => K
  | .ret res O => retK ti res O
  | .seq y K => seqK (fun σ' => run P ti G N y (app K) σ') (app K)
  | .block id K => blockK id (app K)
  | .loop L K => loopX L (app K)
def R (c : Code) (K : KD) (σ : St) : Prop := run P ti G N c (app P ti G N K) σ
def A (K : KD) (e : Exit) (σ : St) : Prop := app P ti G N K e σ
/-- A drawn region goes on behind the first 'k' operations of its order. -/
def DWp (ops : Array Oper) (π : List Nat) (k : Nat) (K : KD) (σ : St) : Prop := ∀ E0 r0 w0 E a w rem, PendOK P ti ops π k rem a w → Rel G N E σ (puts rem a) w → Step E0 r0 w0 E σ.r w →
  wpAny P .any ops (noPanic (lift G N E0 r0 w0 (app P ti G N K))) (rem.length + (π.length - k)) (lstU ops (rem.map (·.1) ++ π.drop k)) a w
/-- What comes behind a region, and whether it draws its order. -/
inductive KM where
  | plain (K : KD)
  | draw (π kp : List Nat) (K : KD)
def kOf : KM → KD
  | .plain K => K
  | .draw _ _ K => K
def HO (ops : Array Oper) (l : List Oper) (M : KM) (σ : St) : Prop := match M with
  | .plain K => HL P G N ops l (app P ti G N K) σ
  | .draw π kp K => planOK ti N ops π kp = true → l = opl ops (π.drop (π.length - l.length)) → DWp P ti G N ops π (π.length - l.length) K σ
def endM (ops : Array Oper) (M : KM) : List Oper → St → Prop
  | [], σ' => app P ti G N (kOf M) .normal σ'
  | o :: rest, σ' => HO P ti G N ops (o :: rest) M σ'
def HC (c : Code) (K : KD) (σ : St) : Prop := Holds P G N c (app P ti G N K) σ
def EV (ops : Array Oper) (l : List Oper) (M : KM) (σ : St) : Prop := evk ti G ops l σ (endM P ti G N ops M)
end
section
variable {P : Program} {ti : Ti} {G : GR} {N : Nat} {K : KD} {σ : St}
theorem HC_of_R (hti : TiOK P ti) {c : Code} (h : R P ti G N c K σ) : HC P ti G N c K σ := run_sound hti c _ σ h
theorem HO_of_EV (hti : TiOK P ti) {ops : Array Oper} {l : List Oper} (hd : l.all (dstOK N) = true) (h : EV P ti G N ops l (.plain K) σ) : HO P ti G N ops l (.plain K) σ := by
  refine evk_sound hti l σ hd (evk_mono _ _ _ _ (fun rest σ' hk => ?_) h)
  cases rest with
  | nil => exact HL_nil hk
  | cons o rest => exact hk
theorem R_skip : R P ti G N .skip K σ = A P ti G N K .normal σ := rfl
theorem R_region {id : Nat} {ops : List Oper} : R P ti G N (.region id ops.toArray false) K σ = (ops.all (dstOK N) = true ∧ EV P ti G N ops.toArray ops (.plain K) σ) := by
  show (ops.all (dstOK N) = true ∧ evk ti G ops.toArray ops σ (endK P G N ops.toArray (app P ti G N K))) = (ops.all (dstOK N) = true ∧ evk ti G ops.toArray ops σ (endM P ti G N ops.toArray (.plain K)))
  have : endK P G N ops.toArray (app P ti G N K) = endM P ti G N ops.toArray (.plain K) := by funext l s; cases l <;> rfl
  rw [this]
theorem R_draw {id : Nat} {ops : Array Oper} : R P ti G N (.region id ops true) K σ = HC P ti G N (.region id ops true) K σ := rfl
theorem R_seq {x y : Code} : R P ti G N (.seq x y) K σ = R P ti G N x (.seq y K) σ := rfl
theorem R_cond {c : Operand} {x y : Code} : R P ti G N (.cond c x y) K σ = bindP (boolOfA (σ.ev G c)) fun t => (t = true → R P ti G N x K σ) ∧ (t = false → R P ti G N y K σ) := rfl
theorem R_block {id : Nat} {c : Code} : R P ti G N (.block id c) K σ = R P ti G N c (.block id K) σ := rfl
theorem R_exit {id : Nat} : R P ti G N (.exit id) K σ = A P ti G N K (.exit id) σ := rfl
theorem R_ret : R P ti G N .ret K σ = A P ti G N K .ret σ := rfl
theorem R_loop {c : Code} : R P ti G N (.loop c) K σ = HC P ti G N (.loop c) K σ := rfl
theorem A_base {K : Kt} {e : Exit} : A P ti G N (.base K) e σ = K e σ := rfl
theorem A_ret {res : List ResultVar} {O : AV → Rs → Prop} : A P ti G N (.ret res O) .ret σ = bindP (resA ti σ res) fun v => O v σ.r := rfl
theorem A_ret_normal {res : List ResultVar} {O : AV → Rs → Prop} : A P ti G N (.ret res O) .normal σ = bindP (resA ti σ res) fun v => O v σ.r := rfl
theorem A_seq_normal {y : Code} : A P ti G N (.seq y K) .normal σ = R P ti G N y K σ := rfl
theorem A_seq_ret {y : Code} : A P ti G N (.seq y K) .ret σ = A P ti G N K .ret σ := rfl
theorem A_seq_exit {y : Code} {i : Nat} : A P ti G N (.seq y K) (.exit i) σ = A P ti G N K (.exit i) σ := rfl
theorem A_block_normal {id : Nat} : A P ti G N (.block id K) .normal σ = A P ti G N K .normal σ := rfl
theorem A_block_ret {id : Nat} : A P ti G N (.block id K) .ret σ = A P ti G N K .ret σ := rfl
theorem A_block_exit {id i : Nat} : A P ti G N (.block id K) (.exit i) σ = if i = id then A P ti G N K .normal σ else A P ti G N K (.exit i) σ := rfl
theorem A_loop_normal {L : St → Prop} : A P ti G N (.loop L K) .normal σ = L σ := rfl
theorem A_loop_ret {L : St → Prop} : A P ti G N (.loop L K) .ret σ = A P ti G N K .ret σ := rfl
theorem A_loop_exit {L : St → Prop} {i : Nat} : A P ti G N (.loop L K) (.exit i) σ = A P ti G N K (.exit i) σ := rfl
/-- The call may be handed something to write. -/
def kpFree (M : KM) (n : Nat) : Bool := match M with
  | .plain _ => true
  | .draw π kp _ => !kp.contains (π.getD (π.length - n) 0)
theorem kOf_plain : kOf (.plain K) = K := rfl
theorem kOf_draw {π kp : List Nat} : kOf (.draw π kp K) = K := rfl
variable {M : KM}
theorem EV_nil {ops : Array Oper} : EV P ti G N ops [] M σ = A P ti G N (kOf M) .normal σ := rfl
theorem EV_cons {ops : Array Oper} {o : Oper} {rest : List Oper} : EV P ti G N ops (o :: rest) M σ = bindP (gd ops σ o) fun t =>
      (t = true → if stp ti o.op = true then HO P ti G N ops (o :: rest) M σ else bindP (evA ti (σ.ev G) σ.r o.op) fun q => EV P ti G N ops rest M (σ.putR o.dst q.1 q.2)) ∧
      (t = false → EV P ti G N ops rest M (σ.putR o.dst undA σ.r)) := rfl
theorem AC_of_R (hti : TiOK P ti) {f : FuncId} {fn : Func} {c : Code} {args : List AV} {r : Rs} {O : AV → Rs → Prop} (hcall : ∀ (as : Array Value) (w : World), (callFunc f as).run P w = .ok (.enter f as) w) (hf : P.funcs[f]? = some fn) (hb : fn.body = some c)
    {N : Nat} {res : List ResultVar} (hN : fn.ntmps = N) (hres : fn.results.toList = res) (hn : args.length ≤ N) (h : R P ti G N c (.ret res O) (initSt args r)) (hro : G.ro = none := by rfl) (hn0 : G.n0 = none := by rfl) : AC P G f args r O := by
  subst hN; subst hres; exact AC_intro hti hcall hf hb hn (run_sound hti c _ _ h) hro hn0
end
theorem get_mk (b : Nat → AV) (l : List (Nat × AV)) (r : Rs) (i : Nat) : St.get ⟨b, l, r⟩ i = lk l b i := rfl
theorem putR_some (b : Nat → AV) (l : List (Nat × AV)) (r : Rs) (i : Nat) (v : AV) (r' : Rs) : St.putR ⟨b, l, r⟩ (some i) v r' = ⟨b, (i, v) :: l, r'⟩ := rfl
theorem putR_none (b : Nat → AV) (l : List (Nat × AV)) (r : Rs) (v : AV) (r' : Rs) : St.putR ⟨b, l, r⟩ none v r' = ⟨b, l, r'⟩ := rfl
theorem lk_cons (j i : Nat) (v : AV) (l : List (Nat × AV)) (b : Nat → AV) : lk ((j, v) :: l) b i = if i = j then v else lk l b i := rfl
theorem lk_nil (i : Nat) (b : Nat → AV) : lk [] b i = b i := rfl
theorem ev_tmp (σ : St) (G : GR) (t : Tmp) : σ.ev G (.tmp t) = σ.get t := rfl
theorem ev_const (σ : St) (G : GR) (v : Value) : σ.ev G (.const v) = constAV v := rfl
theorem ev_global (σ : St) (G : GR) (g : Nat) : σ.ev G (.global g) = .el (G g) := rfl
theorem ev_func (σ : St) (G : GR) (f : FuncId) : σ.ev G (.func f) = .fn (.func f) [] [] := rfl
theorem const_int (k : IntKind) (n : Int) : constAV (.int k n) = .d (.c (.int k n)) := rfl
theorem const_bool (b : Bool) : constAV (.bool b) = .d (.c (.bool b)) := rfl
theorem const_string (s : ByteArray) : constAV (.string s) = .d (.c (.string s)) := rfl
theorem const_slice (a : Option Addr) (n c : Nat) : constAV (.slice a n c) = .d (.c (.slice a n c)) := rfl
theorem const_pointer (a : Option Addr) : constAV (.pointer a) = .d (.c (.pointer a)) := rfl
theorem const_nilFunc : constAV .nilFunc = .d (.c .nilFunc) := rfl
theorem const_map (r : Option Nat) : constAV (.map r) = .d (.c (.map r)) := rfl
theorem oneC_int (k : IntKind) (n : Int) : oneC (.int k n) = some (.d (.c (.int k n))) := rfl
theorem oneC_bool (b : Bool) : oneC (.bool b) = some (.d (.c (.bool b))) := rfl
theorem oneC_string (s : ByteArray) : oneC (.string s) = some (.d (.c (.string s))) := rfl
theorem ite_bool (c : Prop) [Decidable c] (x y : Bool) : (if c then AV.d (.c (.bool x)) else AV.d (.c (.bool y))) = AV.d (.c (.bool (if c then x else y))) := by split <;> rfl

/-! ### A way that is decided -/
theorem imp_tt (p : Prop) : (true = true → p) = p := by simp
theorem imp_tf (p : Prop) : (true = false → p) = True := by simp
theorem imp_ft (p : Prop) : (false = true → p) = True := by simp
theorem imp_ff (p : Prop) : (false = false → p) = p := by simp
theorem imp_tnt (p : Prop) : (true = (!true) → p) = True := by simp
theorem imp_tnf (p : Prop) : (true = (!false) → p) = p := by simp
theorem imp_fnt (p : Prop) : (false = (!true) → p) = p := by simp
theorem imp_fnf (p : Prop) : (false = (!false) → p) = True := by simp
theorem imp_F (p : Prop) : (False → p) = True := by simp
theorem imp_T (p : Prop) : (True → p) = p := by simp

/-! ### Whole numbers whose bounds are known -/
theorem w_i64 {n : Int} (h0 : -9223372036854775808 ≤ n) (h1 : n ≤ 9223372036854775807) : IntKind.i64.wrap n = n := by rw [IntKind.wrap_i64]; omega
theorem w_u64 {n : Int} (h0 : 0 ≤ n) (h1 : n ≤ 18446744073709551615) : IntKind.u64.wrap n = n := by
  simp only [IntKind.wrap, IntKind.bits, IntKind.signed, Bool.false_and, Bool.false_eq_true, if_false]
  omega
theorem w_u8 {n : Int} (h0 : 0 ≤ n) (h1 : n ≤ 255) : IntKind.u8.wrap n = n := by
  simp only [IntKind.wrap, IntKind.bits, IntKind.signed, Bool.false_and, Bool.false_eq_true, if_false]
  omega
theorem w_u32 {n : Int} (h0 : 0 ≤ n) (h1 : n ≤ 4294967295) : IntKind.u32.wrap n = n := by
  simp only [IntKind.wrap, IntKind.bits, IntKind.signed, Bool.false_and, Bool.false_eq_true, if_false]
  omega
theorem wrap_u64 (n : Int) : IntKind.u64.wrap n = n % 18446744073709551616 := by
  simp only [IntKind.wrap, IntKind.bits, IntKind.signed, Bool.false_and, Bool.false_eq_true, if_false]
  rfl
theorem wrap_u8 (n : Int) : IntKind.u8.wrap n = n % 256 := by
  simp only [IntKind.wrap, IntKind.bits, IntKind.signed, Bool.false_and, Bool.false_eq_true, if_false]
  rfl
theorem wrap_u32 (n : Int) : IntKind.u32.wrap n = n % 4294967296 := by
  simp only [IntKind.wrap, IntKind.bits, IntKind.signed, Bool.false_and, Bool.false_eq_true, if_false]
  rfl
theorem chk_true {α : Type} (x : Option α) : chk True x = x := if_pos trivial
theorem bD_len (l : List UInt8) : (bD l).length = l.length := bD_length l
theorem bD_append (l m : List UInt8) : bD l ++ bD m = bD (l ++ m) := by simp [bD]
theorem bD_cons (b : UInt8) (l : List UInt8) : D.c (.int .u8 b.toNat) :: bD l = bD (b :: l) := rfl
theorem bD_nil : ([] : List D) = bD [] := rfl
theorem bD_drop (l : List UInt8) (k : Nat) : (bD l).drop k = bD (l.drop k) := by simp [bD]
theorem bD_take (l : List UInt8) (k : Nat) : (bD l).take k = bD (l.take k) := by simp [bD]
theorem bD_get {l : List UInt8} {k : Nat} (h : k < l.length) : (bD l)[k]? = some (.c (.int .u8 (l.getD k 0).toNat)) := by
  simp [bD, List.getElem?_eq_getElem h, List.getD_eq_getElem?_getD]
theorem bD_drop_get {l : List UInt8} {k : Nat} (h : k < l.length) : (bD (l.drop k))[0]? = some (.c (.int .u8 (l.getD k 0).toNat)) := by
  simp [bD, List.getElem?_eq_getElem h, List.getD_eq_getElem?_getD]
end Go.Proofs.Ythdjblfiiogmgaa
/- The frame of these proofs, part U: the rules by which a run is reckoned: one small equation for each operation and each form of its operands. -/
set_option linter.unusedVariables false
set_option linter.unusedSimpArgs false
namespace Go.Proofs.Ythdjblfiiogmgaa
open Go

section
variable {P : Program} {ti : Ti} {G : GR} {N : Nat} {K : KM} {σ : St} {r : Rs}
theorem bindP_map {α β : Type} (x : Option α) (f : α → β) (k : β → Prop) : bindP (x.map f) k = bindP x fun a => k (f a) := by cases x <;> rfl

/-! ### One operation -/
variable {ops : Array Oper} {rest : List Oper} {d : Option Tmp} {ty : TypeId} {ps : String} {af : Array Edge}
theorem EV_go {o : Oper} (hg : o.guard = none) (hs : stp ti o.op = false) : EV P ti G N ops (o :: rest) K σ = bindP (evA ti (σ.ev G) σ.r o.op) fun q => EV P ti G N ops rest K (σ.putR o.dst q.1 q.2) := by
  rw [EV_cons]
  unfold gd
  rw [hg]
  simp [bindP, hs]
theorem EV_pure {o : Oper} {x : Option AV} (hg : o.guard = none) (hs : stp ti o.op = false) (he : evA ti (σ.ev G) σ.r o.op = x.map fun v => (v, σ.r)) : EV P ti G N ops (o :: rest) K σ = bindP x fun v => EV P ti G N ops rest K (σ.putR o.dst v σ.r) := by
  rw [EV_go hg hs, he, bindP_map]
theorem EV0_move {x : Operand} : EV P ti G N ops (⟨d, .move x, ty, ps, af, none⟩ :: rest) K σ = EV P ti G N ops rest K (σ.putR d (σ.ev G x) σ.r) := EV_pure (x := some (σ.ev G x)) rfl rfl rfl
theorem EV0_assign {x : Operand} : EV P ti G N ops (⟨d, .assign x, ty, ps, af, none⟩ :: rest) K σ = EV P ti G N ops rest K (σ.putR d (σ.ev G x) σ.r) := EV_pure (x := some (σ.ev G x)) rfl rfl rfl
theorem EV0_pick {c a b : Operand} : EV P ti G N ops (⟨d, .pick c a b, ty, ps, af, none⟩ :: rest) K σ = bindP (evPick (σ.ev G c) (σ.ev G a) (σ.ev G b)) fun v => EV P ti G N ops rest K (σ.putR d v σ.r) := EV_pure rfl rfl rfl
theorem EV0_bin {op : BinOp} {t u : TypeId} {x y : Operand} : EV P ti G N ops (⟨d, .binOp op t x y u, ty, ps, af, none⟩ :: rest) K σ = bindP (evBin ti σ.r op t (σ.ev G x) (σ.ev G y)) fun v => EV P ti G N ops rest K (σ.putR d v σ.r) := EV_pure rfl rfl rfl
theorem EV0_un {op : UnOp} {t : TypeId} {x : Operand} : EV P ti G N ops (⟨d, .unOp op t x, ty, ps, af, none⟩ :: rest) K σ = bindP (evUn op (σ.ev G x)) fun v => EV P ti G N ops rest K (σ.putR d v σ.r) := EV_pure rfl rfl rfl
theorem EV0_nc {x : Operand} : EV P ti G N ops (⟨d, .nilCheck x, ty, ps, af, none⟩ :: rest) K σ = bindP (evNC σ.r (σ.ev G x)) fun v => EV P ti G N ops rest K (σ.putR d v σ.r) := EV_pure rfl rfl rfl
theorem EV0_ext {t : Operand} {i : Nat} : EV P ti G N ops (⟨d, .extract t i, ty, ps, af, none⟩ :: rest) K σ = bindP (evExt i (σ.ev G t)) fun v => EV P ti G N ops rest K (σ.putR d v σ.r) := EV_pure rfl rfl rfl
def sl3 (ti : Ti) (r : Rs) (t : TypeId) (x : AV) (lo hi mx : Option (Option Int)) : Option AV := match lo, hi, mx with
  | some l, some h, some m => evSlice ti r t x l h m
  | _, _, _ => none
theorem EV0_slice {t : TypeId} {x : Operand} {lo hi mx : Option Operand} : EV P ti G N ops (⟨d, .slice t x lo hi mx, ty, ps, af, none⟩ :: rest) K σ = bindP (sl3 ti σ.r t (σ.ev G x) (optI (lo.map (σ.ev G))) (optI (hi.map (σ.ev G))) (optI (mx.map (σ.ev G)))) fun v => EV P ti G N ops rest K (σ.putR d v σ.r) := EV_pure rfl rfl rfl
def ix2 (f : Int → Option AV) : AV → Option AV
  | .d (.c (.int _ n)) => f n
  | _ => none
theorem ix2_int (f : Int → Option AV) (k : IntKind) (n : Int) : ix2 f (.d (.c (.int k n))) = f n := rfl
theorem ix2_eq (f : Int → Option AV) (a : AV) : (match intOfA a with | some n => f n | none => none) = ix2 f a := by
  unfold intOfA ix2
  split
  · rename_i h; split at h
    · injection h with h; subst h; rfl
    · cases h
  · rename_i h; split at h
    · cases h
    · rename_i h1
      split
      · exact absurd rfl (h1 _ _)
      · rfl
theorem EV0_index {t : TypeId} {x i : Operand} : EV P ti G N ops (⟨d, .index t x i, ty, ps, af, none⟩ :: rest) K σ = bindP (ix2 (evIndex ti t (σ.ev G x)) (σ.ev G i)) fun v => EV P ti G N ops rest K (σ.putR d v σ.r) := EV_pure rfl rfl (by rw [← ix2_eq]; rfl)
theorem EV0_indexAddr {t : TypeId} {x i : Operand} : EV P ti G N ops (⟨d, .indexAddr t x i, ty, ps, af, none⟩ :: rest) K σ = bindP (ix2 (evIndexAddr ti σ.r t (σ.ev G x)) (σ.ev G i)) fun v => EV P ti G N ops rest K (σ.putR d v σ.r) := EV_pure rfl rfl (by rw [← ix2_eq]; rfl)
theorem EV0_fieldAddr {t : TypeId} {x : Operand} {f : Nat} : EV P ti G N ops (⟨d, .fieldAddr t x f, ty, ps, af, none⟩ :: rest) K σ = bindP (evFieldAddr ti σ.r t (σ.ev G x) f) fun v => EV P ti G N ops rest K (σ.putR d v σ.r) := EV_pure rfl rfl rfl
theorem EV0_field {t : TypeId} {x : Operand} {f : Nat} : EV P ti G N ops (⟨d, .field t x f, ty, ps, af, none⟩ :: rest) K σ = bindP (evField ti t (σ.ev G x) f) fun v => EV P ti G N ops rest K (σ.putR d v σ.r) := EV_pure rfl rfl rfl
theorem EV0_load {t : TypeId} {x : Operand} : EV P ti G N ops (⟨d, .load t x, ty, ps, af, none⟩ :: rest) K σ = bindP (evLoad ti σ.r t (σ.ev G x)) fun v => EV P ti G N ops rest K (σ.putR d v σ.r) := EV_pure rfl rfl rfl
theorem EV0_makeFunc {f : Fn} {a b : List Operand} : EV P ti G N ops (⟨d, .makeFunc f a.toArray b.toArray, ty, ps, af, none⟩ :: rest) K σ = EV P ti G N ops rest K (σ.putR d (.fn f (a.map (σ.ev G)) (b.map (σ.ev G))) σ.r) := EV_pure (x := some _) rfl rfl rfl
theorem EV0_build {t : TypeId} {parts : List (Nat × Operand)} : EV P ti G N ops (⟨d, .build t parts.toArray, ty, ps, af, none⟩ :: rest) K σ = bindP (evBuild ti σ.r t (parts.map fun p => (p.1, σ.ev G p.2))) fun v => EV P ti G N ops rest K (σ.putR d v σ.r) := EV_pure rfl rfl rfl
def lenV (o : Option Int) : Option AV := o.map fun n => .d (.c (.int .i64 n))
theorem EV0_len {x : Operand} {t : TypeId} : EV P ti G N ops (⟨d, .call ⟨.builtin .len, [x].toArray, [t].toArray⟩, ty, ps, af, none⟩ :: rest) K σ = bindP (lenV (lenAV ti σ.r t (σ.ev G x))) fun v => EV P ti G N ops rest K (σ.putR d v σ.r) := EV_pure rfl rfl rfl
theorem EV0_min {x y : Operand} {ts : Array TypeId} : EV P ti G N ops (⟨d, .call ⟨.builtin .min, [x, y].toArray, ts⟩, ty, ps, af, none⟩ :: rest) K σ = bindP (minAV false (σ.ev G x) (σ.ev G y)) fun v => EV P ti G N ops rest K (σ.putR d v σ.r) := EV_pure rfl rfl rfl
theorem EV0_max {x y : Operand} {ts : Array TypeId} : EV P ti G N ops (⟨d, .call ⟨.builtin .max, [x, y].toArray, ts⟩, ty, ps, af, none⟩ :: rest) K σ = bindP (minAV true (σ.ev G x) (σ.ev G y)) fun v => EV P ti G N ops rest K (σ.putR d v σ.r) := EV_pure rfl rfl rfl
theorem EV0_append {x y : Operand} {t u : TypeId} : EV P ti G N ops (⟨d, .call ⟨.builtin .append, [x, y].toArray, [t, u].toArray⟩, ty, ps, af, none⟩ :: rest) K σ = if ti.lit = true then HO P ti G N ops (⟨d, .call ⟨.builtin .append, [x, y].toArray, [t, u].toArray⟩, ty, ps, af, none⟩ :: rest) K σ else bindP (evApp ti σ.r t u (σ.ev G x) (σ.ev G y)) fun q => EV P ti G N ops rest K (σ.putR d q.1 q.2) := by
  cases hl : ti.lit with
  | false => rw [if_neg (by simp)]; exact EV_go rfl (by show (false || (true && ti.lit)) = false; rw [hl]; rfl)
  | true =>
    rw [if_pos rfl, EV_cons]
    have hs : stp ti (.call ⟨.builtin .append, [x, y].toArray, [t, u].toArray⟩) = true := by show (false || (true && ti.lit)) = true; rw [hl]; rfl
    show bindP (some true) _ = _
    rw [bindP_some]
    simp [hs]
def evCvt (ti : Ti) (r : Rs) (s d : TypeId) (x : AV) : Option (AV × Rs) := match evConv ti s d x with
  | some v => some (v, r)
  | none => evCB ti r s d x
theorem EV0_conv {s t : TypeId} {x : Operand} : EV P ti G N ops (⟨d, .convert s t x, ty, ps, af, none⟩ :: rest) K σ = bindP (evCvt ti σ.r s t (σ.ev G x)) fun q => EV P ti G N ops rest K (σ.putR d q.1 q.2) := EV_go rfl rfl
def evBox (r : Rs) (a : AV) : Option (AV × Rs) := match cellsAV a with
  | some cs => if liveAV r a = true then some (.ptr r.length 0, r ++ [some (.obj cs)]) else none
  | none => none
theorem EV0_box {t : TypeId} {x : Operand} : EV P ti G N ops (⟨d, .box t x, ty, ps, af, none⟩ :: rest) K σ = bindP (evBox σ.r (σ.ev G x)) fun q => EV P ti G N ops rest K (σ.putR d q.1 q.2) := EV_go rfl rfl
def evAlc (r : Rs) : Option (List AV) → Option (AV × Rs)
  | some cs => some (.ptr r.length 0, r ++ [some (.obj cs)])
  | none => none
theorem EV0_alloc {t : TypeId} : EV P ti G N ops (⟨d, .alloc t, ty, ps, af, none⟩ :: rest) K σ = bindP (evAlc σ.r (tZ ti t)) fun q => EV P ti G N ops rest K (σ.putR d q.1 q.2) := by
  rw [EV_go rfl rfl]
  have : evA ti (σ.ev G) σ.r (.alloc t) = evAlc σ.r (tZ ti t) := by
    have h : evA ti (σ.ev G) σ.r (.alloc t) = (match ti t with
      | some i => (zeroA i.zero).map fun cs => (AV.ptr σ.r.length 0, σ.r ++ [some (.obj cs)])
      | none => none) := rfl
    rw [h]
    unfold evAlc tZ
    cases ti t with
    | none => rfl
    | some i => simp only; cases zeroA i.zero <;> rfl
  rw [this]
theorem EV0_store {t : TypeId} {a x : Operand} : EV P ti G N ops (⟨d, .store t a x, ty, ps, af, none⟩ :: rest) K σ = bindP (evStore ti σ.r t (σ.ev G a) (σ.ev G x)) fun q => EV P ti G N ops rest K (σ.putR d q.1 q.2) := EV_go rfl rfl
theorem EV0_buildSlice {t : TypeId} {n : Nat} {parts : List (Nat × Operand)} : EV P ti G N ops (⟨d, .buildSlice t n parts.toArray, ty, ps, af, none⟩ :: rest) K σ = bindP (evBS ti σ.r t n (parts.map fun p => (p.1, σ.ev G p.2))) fun q => EV P ti G N ops rest K (σ.putR d q.1 q.2) := EV_go rfl rfl
theorem EV0_makeSlice {t : TypeId} {l c : Operand} : EV P ti G N ops (⟨d, .makeSlice t l c, ty, ps, af, none⟩ :: rest) K σ = bindP (evMk ti σ.r t (σ.ev G l) (σ.ev G c)) fun q => EV P ti G N ops rest K (σ.putR d q.1 q.2) := EV_go rfl rfl
theorem EV_call {x : Operand} {as : Array Operand} {ts : Array TypeId} : EV P ti G N ops (⟨d, .call ⟨.value x, as, ts⟩, ty, ps, af, none⟩ :: rest) K σ = HO P ti G N ops (⟨d, .call ⟨.value x, as, ts⟩, ty, ps, af, none⟩ :: rest) K σ := by
  rw [EV_cons]
  show bindP (some true) _ = _
  rw [bindP_some]
  simp [stp, stops, isApp]
/-- A guarded operation. -/
def wantA (want : Bool) : AV → Option Bool
  | .d (.c (.bool b)) => some b
  | .tup _ => some (!want)
  | _ => none
def gdB (ops : Array Oper) (σ : St) (j : Nat) (want : Bool) : Option Bool := match (ops[j]?).bind (·.dst) with
  | some d => wantA want (σ.get d)
  | none => none
theorem gd_eq {op : Op} {j : Nat} {want : Bool} : gd ops σ ⟨d, op, ty, ps, af, some (j, want)⟩ = (gdB ops σ j want).map (· == want) := by
  unfold gd gdB
  simp only
  cases (ops[j]?).bind (·.dst) with
  | none => rfl
  | some x =>
    simp only
    unfold wantA
    generalize σ.get x = a
    cases a with
    | d y => cases y with
      | c v => cases v <;> rfl
      | _ => rfl
    | tup l => cases want <;> rfl
    | _ => rfl
theorem EV_guard {op : Op} {j : Nat} {want : Bool} (hs : stp ti op = false) : EV P ti G N ops (⟨d, op, ty, ps, af, some (j, want)⟩ :: rest) K σ = bindP (gdB ops σ j want) fun b =>
    (b = want → EV P ti G N ops (⟨d, op, ty, ps, af, none⟩ :: rest) K σ) ∧ (b = (!want) → EV P ti G N ops rest K (σ.putR d undA σ.r)) := by
  rw [EV_cons, gd_eq, bindP_map]
  congr 1
  funext b
  rw [EV_go (o := ⟨d, op, ty, ps, af, none⟩) rfl hs]
  simp only [hs, Bool.false_eq_true, if_false]
  cases b <;> cases want <;> simp
theorem EV_guard_app {as : Array Operand} {ts : Array TypeId} {j : Nat} {want : Bool} : EV P ti G N ops (⟨d, .call ⟨.builtin .append, as, ts⟩, ty, ps, af, some (j, want)⟩ :: rest) K σ = bindP (gdB ops σ j want) fun b =>
    (b = want → if ti.lit = true then HO P ti G N ops (⟨d, .call ⟨.builtin .append, as, ts⟩, ty, ps, af, some (j, want)⟩ :: rest) K σ else EV P ti G N ops (⟨d, .call ⟨.builtin .append, as, ts⟩, ty, ps, af, none⟩ :: rest) K σ) ∧ (b = (!want) → EV P ti G N ops rest K (σ.putR d undA σ.r)) := by
  cases hl : ti.lit with
  | false =>
    have hs : stp ti (.call ⟨.builtin .append, as, ts⟩) = false := by show (false || (true && ti.lit)) = false; rw [hl]; rfl
    simp only [Bool.false_eq_true, if_false]
    exact EV_guard hs
  | true =>
    have hs : stp ti (.call ⟨.builtin .append, as, ts⟩) = true := by show (false || (true && ti.lit)) = true; rw [hl]; rfl
    simp only [if_true]
    rw [EV_cons, gd_eq, bindP_map]
    congr 1
    funext b
    simp only [hs, if_true]
    cases b <;> cases want <;> simp
theorem EV_guard_call {x : Operand} {as : Array Operand} {ts : Array TypeId} {j : Nat} {want : Bool} : EV P ti G N ops (⟨d, .call ⟨.value x, as, ts⟩, ty, ps, af, some (j, want)⟩ :: rest) K σ = bindP (gdB ops σ j want) fun b =>
    (b = want → HO P ti G N ops (⟨d, .call ⟨.value x, as, ts⟩, ty, ps, af, some (j, want)⟩ :: rest) K σ) ∧ (b = (!want) → EV P ti G N ops rest K (σ.putR d undA σ.r)) := by
  rw [EV_cons, gd_eq, bindP_map]
  congr 1
  funext b
  simp only [stp, stops, Bool.true_or, if_true]
  cases b <;> cases want <;> simp
end

/-! ### The same, for simp: what is bound is reckoned first, and nothing of what comes behind is looked at till then -/
abbrev Ph {α : Type} (k : α → Prop) : Type := (fun _ => Option α) k
def bindQ {α : Type} (k : α → Prop) (x : Ph k) : Prop := bindP (show Option α from x) k
theorem bindQ_some {α : Type} (k : α → Prop) (a : α) : bindQ k (some a) = k a := rfl
theorem bindQ_none {α : Type} (k : α → Prop) : bindQ k none = False := rfl
theorem bindQ_chk {α : Type} (k : α → Prop) (c : Prop) [Decidable c] (x : Option α) : bindQ k (chk c x) = (c ∧ bindQ k x) := bindP_chk c x k
abbrev Ph2 (k : AV → Rs → Prop) : Type := (fun _ => Option (AV × Rs)) k
def bindQ2 (k : AV → Rs → Prop) (x : Ph2 k) : Prop := bindP (show Option (AV × Rs) from x) fun q => k q.1 q.2
theorem bindQ2_some (k : AV → Rs → Prop) (v : AV) (r : Rs) : bindQ2 k (some (v, r)) = k v r := rfl
theorem bindQ2_none (k : AV → Rs → Prop) : bindQ2 k none = False := rfl
theorem bindQ2_chk (k : AV → Rs → Prop) (c : Prop) [Decidable c] (x : Option (AV × Rs)) : bindQ2 k (chk c x) = (c ∧ bindQ2 k x) := bindP_chk c x _
section
variable {P : Program} {ti : Ti} {G : GR} {N : Nat} {K : KM} {b : Nat → AV} {sl : List (Nat × AV)} {r : Rs} {ops : Array Oper} {rest : List Oper} {d : Tmp} {ty : TypeId} {ps : String} {af : Array Edge}
theorem EV_move {x : Operand} : EV P ti G N ops (⟨some d, .move x, ty, ps, af, none⟩ :: rest) K ⟨b, sl, r⟩ = bindQ (fun v => EV P ti G N ops rest K ⟨b, (d, v) :: sl, r⟩) (some ((St.mk b sl r).ev G x)) := EV0_move
theorem EVn_move {x : Operand} : EV P ti G N ops (⟨none, .move x, ty, ps, af, none⟩ :: rest) K ⟨b, sl, r⟩ = bindQ (fun v => EV P ti G N ops rest K ⟨b, sl, r⟩) (some ((St.mk b sl r).ev G x)) := EV0_move
theorem EV_assign {x : Operand} : EV P ti G N ops (⟨some d, .assign x, ty, ps, af, none⟩ :: rest) K ⟨b, sl, r⟩ = bindQ (fun v => EV P ti G N ops rest K ⟨b, (d, v) :: sl, r⟩) (some ((St.mk b sl r).ev G x)) := EV0_assign
theorem EVn_assign {x : Operand} : EV P ti G N ops (⟨none, .assign x, ty, ps, af, none⟩ :: rest) K ⟨b, sl, r⟩ = bindQ (fun v => EV P ti G N ops rest K ⟨b, sl, r⟩) (some ((St.mk b sl r).ev G x)) := EV0_assign
theorem EV_pick {x y z : Operand} : EV P ti G N ops (⟨some d, .pick x y z, ty, ps, af, none⟩ :: rest) K ⟨b, sl, r⟩ = bindQ (fun v => EV P ti G N ops rest K ⟨b, (d, v) :: sl, r⟩) (evPick ((St.mk b sl r).ev G x) ((St.mk b sl r).ev G y) ((St.mk b sl r).ev G z)) := EV0_pick
theorem EVn_pick {x y z : Operand} : EV P ti G N ops (⟨none, .pick x y z, ty, ps, af, none⟩ :: rest) K ⟨b, sl, r⟩ = bindQ (fun v => EV P ti G N ops rest K ⟨b, sl, r⟩) (evPick ((St.mk b sl r).ev G x) ((St.mk b sl r).ev G y) ((St.mk b sl r).ev G z)) := EV0_pick
theorem EV_bin {op : BinOp} {t u : TypeId} {x y : Operand} : EV P ti G N ops (⟨some d, .binOp op t x y u, ty, ps, af, none⟩ :: rest) K ⟨b, sl, r⟩ = bindQ (fun v => EV P ti G N ops rest K ⟨b, (d, v) :: sl, r⟩) (evBin ti r op t ((St.mk b sl r).ev G x) ((St.mk b sl r).ev G y)) := EV0_bin
theorem EVn_bin {op : BinOp} {t u : TypeId} {x y : Operand} : EV P ti G N ops (⟨none, .binOp op t x y u, ty, ps, af, none⟩ :: rest) K ⟨b, sl, r⟩ = bindQ (fun v => EV P ti G N ops rest K ⟨b, sl, r⟩) (evBin ti r op t ((St.mk b sl r).ev G x) ((St.mk b sl r).ev G y)) := EV0_bin
theorem EV_un {op : UnOp} {t : TypeId} {x : Operand} : EV P ti G N ops (⟨some d, .unOp op t x, ty, ps, af, none⟩ :: rest) K ⟨b, sl, r⟩ = bindQ (fun v => EV P ti G N ops rest K ⟨b, (d, v) :: sl, r⟩) (evUn op ((St.mk b sl r).ev G x)) := EV0_un
theorem EVn_un {op : UnOp} {t : TypeId} {x : Operand} : EV P ti G N ops (⟨none, .unOp op t x, ty, ps, af, none⟩ :: rest) K ⟨b, sl, r⟩ = bindQ (fun v => EV P ti G N ops rest K ⟨b, sl, r⟩) (evUn op ((St.mk b sl r).ev G x)) := EV0_un
theorem EV_nc {x : Operand} : EV P ti G N ops (⟨some d, .nilCheck x, ty, ps, af, none⟩ :: rest) K ⟨b, sl, r⟩ = bindQ (fun v => EV P ti G N ops rest K ⟨b, (d, v) :: sl, r⟩) (evNC r ((St.mk b sl r).ev G x)) := EV0_nc
theorem EVn_nc {x : Operand} : EV P ti G N ops (⟨none, .nilCheck x, ty, ps, af, none⟩ :: rest) K ⟨b, sl, r⟩ = bindQ (fun v => EV P ti G N ops rest K ⟨b, sl, r⟩) (evNC r ((St.mk b sl r).ev G x)) := EV0_nc
theorem EV_ext {t : Operand} {i : Nat} : EV P ti G N ops (⟨some d, .extract t i, ty, ps, af, none⟩ :: rest) K ⟨b, sl, r⟩ = bindQ (fun v => EV P ti G N ops rest K ⟨b, (d, v) :: sl, r⟩) (evExt i ((St.mk b sl r).ev G t)) := EV0_ext
theorem EVn_ext {t : Operand} {i : Nat} : EV P ti G N ops (⟨none, .extract t i, ty, ps, af, none⟩ :: rest) K ⟨b, sl, r⟩ = bindQ (fun v => EV P ti G N ops rest K ⟨b, sl, r⟩) (evExt i ((St.mk b sl r).ev G t)) := EV0_ext
theorem EV_slice {t : TypeId} {x : Operand} {lo hi mx : Option Operand} : EV P ti G N ops (⟨some d, .slice t x lo hi mx, ty, ps, af, none⟩ :: rest) K ⟨b, sl, r⟩ = bindQ (fun v => EV P ti G N ops rest K ⟨b, (d, v) :: sl, r⟩) (sl3 ti r t ((St.mk b sl r).ev G x) (optI (lo.map ((St.mk b sl r).ev G))) (optI (hi.map ((St.mk b sl r).ev G))) (optI (mx.map ((St.mk b sl r).ev G)))) := EV0_slice
theorem EVn_slice {t : TypeId} {x : Operand} {lo hi mx : Option Operand} : EV P ti G N ops (⟨none, .slice t x lo hi mx, ty, ps, af, none⟩ :: rest) K ⟨b, sl, r⟩ = bindQ (fun v => EV P ti G N ops rest K ⟨b, sl, r⟩) (sl3 ti r t ((St.mk b sl r).ev G x) (optI (lo.map ((St.mk b sl r).ev G))) (optI (hi.map ((St.mk b sl r).ev G))) (optI (mx.map ((St.mk b sl r).ev G)))) := EV0_slice
theorem EV_index {t : TypeId} {x i : Operand} : EV P ti G N ops (⟨some d, .index t x i, ty, ps, af, none⟩ :: rest) K ⟨b, sl, r⟩ = bindQ (fun v => EV P ti G N ops rest K ⟨b, (d, v) :: sl, r⟩) (ix2 (evIndex ti t ((St.mk b sl r).ev G x)) ((St.mk b sl r).ev G i)) := EV0_index
theorem EVn_index {t : TypeId} {x i : Operand} : EV P ti G N ops (⟨none, .index t x i, ty, ps, af, none⟩ :: rest) K ⟨b, sl, r⟩ = bindQ (fun v => EV P ti G N ops rest K ⟨b, sl, r⟩) (ix2 (evIndex ti t ((St.mk b sl r).ev G x)) ((St.mk b sl r).ev G i)) := EV0_index
theorem EV_indexAddr {t : TypeId} {x i : Operand} : EV P ti G N ops (⟨some d, .indexAddr t x i, ty, ps, af, none⟩ :: rest) K ⟨b, sl, r⟩ = bindQ (fun v => EV P ti G N ops rest K ⟨b, (d, v) :: sl, r⟩) (ix2 (evIndexAddr ti r t ((St.mk b sl r).ev G x)) ((St.mk b sl r).ev G i)) := EV0_indexAddr
theorem EVn_indexAddr {t : TypeId} {x i : Operand} : EV P ti G N ops (⟨none, .indexAddr t x i, ty, ps, af, none⟩ :: rest) K ⟨b, sl, r⟩ = bindQ (fun v => EV P ti G N ops rest K ⟨b, sl, r⟩) (ix2 (evIndexAddr ti r t ((St.mk b sl r).ev G x)) ((St.mk b sl r).ev G i)) := EV0_indexAddr
theorem EV_fieldAddr {t : TypeId} {x : Operand} {f : Nat} : EV P ti G N ops (⟨some d, .fieldAddr t x f, ty, ps, af, none⟩ :: rest) K ⟨b, sl, r⟩ = bindQ (fun v => EV P ti G N ops rest K ⟨b, (d, v) :: sl, r⟩) (evFieldAddr ti r t ((St.mk b sl r).ev G x) f) := EV0_fieldAddr
theorem EVn_fieldAddr {t : TypeId} {x : Operand} {f : Nat} : EV P ti G N ops (⟨none, .fieldAddr t x f, ty, ps, af, none⟩ :: rest) K ⟨b, sl, r⟩ = bindQ (fun v => EV P ti G N ops rest K ⟨b, sl, r⟩) (evFieldAddr ti r t ((St.mk b sl r).ev G x) f) := EV0_fieldAddr
theorem EV_field {t : TypeId} {x : Operand} {f : Nat} : EV P ti G N ops (⟨some d, .field t x f, ty, ps, af, none⟩ :: rest) K ⟨b, sl, r⟩ = bindQ (fun v => EV P ti G N ops rest K ⟨b, (d, v) :: sl, r⟩) (evField ti t ((St.mk b sl r).ev G x) f) := EV0_field
theorem EVn_field {t : TypeId} {x : Operand} {f : Nat} : EV P ti G N ops (⟨none, .field t x f, ty, ps, af, none⟩ :: rest) K ⟨b, sl, r⟩ = bindQ (fun v => EV P ti G N ops rest K ⟨b, sl, r⟩) (evField ti t ((St.mk b sl r).ev G x) f) := EV0_field
theorem EV_load {t : TypeId} {x : Operand} : EV P ti G N ops (⟨some d, .load t x, ty, ps, af, none⟩ :: rest) K ⟨b, sl, r⟩ = bindQ (fun v => EV P ti G N ops rest K ⟨b, (d, v) :: sl, r⟩) (evLoad ti r t ((St.mk b sl r).ev G x)) := EV0_load
theorem EVn_load {t : TypeId} {x : Operand} : EV P ti G N ops (⟨none, .load t x, ty, ps, af, none⟩ :: rest) K ⟨b, sl, r⟩ = bindQ (fun v => EV P ti G N ops rest K ⟨b, sl, r⟩) (evLoad ti r t ((St.mk b sl r).ev G x)) := EV0_load
theorem EV_makeFunc {f : Fn} {x y : List Operand} : EV P ti G N ops (⟨some d, .makeFunc f x.toArray y.toArray, ty, ps, af, none⟩ :: rest) K ⟨b, sl, r⟩ = bindQ (fun v => EV P ti G N ops rest K ⟨b, (d, v) :: sl, r⟩) (some (AV.fn f (x.map ((St.mk b sl r).ev G)) (y.map ((St.mk b sl r).ev G)))) := EV0_makeFunc
theorem EVn_makeFunc {f : Fn} {x y : List Operand} : EV P ti G N ops (⟨none, .makeFunc f x.toArray y.toArray, ty, ps, af, none⟩ :: rest) K ⟨b, sl, r⟩ = bindQ (fun v => EV P ti G N ops rest K ⟨b, sl, r⟩) (some (AV.fn f (x.map ((St.mk b sl r).ev G)) (y.map ((St.mk b sl r).ev G)))) := EV0_makeFunc
theorem EV_build {t : TypeId} {parts : List (Nat × Operand)} : EV P ti G N ops (⟨some d, .build t parts.toArray, ty, ps, af, none⟩ :: rest) K ⟨b, sl, r⟩ = bindQ (fun v => EV P ti G N ops rest K ⟨b, (d, v) :: sl, r⟩) (evBuild ti r t (parts.map fun p => (p.1, (St.mk b sl r).ev G p.2))) := EV0_build
theorem EVn_build {t : TypeId} {parts : List (Nat × Operand)} : EV P ti G N ops (⟨none, .build t parts.toArray, ty, ps, af, none⟩ :: rest) K ⟨b, sl, r⟩ = bindQ (fun v => EV P ti G N ops rest K ⟨b, sl, r⟩) (evBuild ti r t (parts.map fun p => (p.1, (St.mk b sl r).ev G p.2))) := EV0_build
theorem EV_len {x : Operand} {t : TypeId} : EV P ti G N ops (⟨some d, .call ⟨.builtin .len, [x].toArray, [t].toArray⟩, ty, ps, af, none⟩ :: rest) K ⟨b, sl, r⟩ = bindQ (fun v => EV P ti G N ops rest K ⟨b, (d, v) :: sl, r⟩) (lenV (lenAV ti r t ((St.mk b sl r).ev G x))) := EV0_len
theorem EVn_len {x : Operand} {t : TypeId} : EV P ti G N ops (⟨none, .call ⟨.builtin .len, [x].toArray, [t].toArray⟩, ty, ps, af, none⟩ :: rest) K ⟨b, sl, r⟩ = bindQ (fun v => EV P ti G N ops rest K ⟨b, sl, r⟩) (lenV (lenAV ti r t ((St.mk b sl r).ev G x))) := EV0_len
theorem EV_min {x y : Operand} {ts : Array TypeId} : EV P ti G N ops (⟨some d, .call ⟨.builtin .min, [x, y].toArray, ts⟩, ty, ps, af, none⟩ :: rest) K ⟨b, sl, r⟩ = bindQ (fun v => EV P ti G N ops rest K ⟨b, (d, v) :: sl, r⟩) (minAV false ((St.mk b sl r).ev G x) ((St.mk b sl r).ev G y)) := EV0_min
theorem EVn_min {x y : Operand} {ts : Array TypeId} : EV P ti G N ops (⟨none, .call ⟨.builtin .min, [x, y].toArray, ts⟩, ty, ps, af, none⟩ :: rest) K ⟨b, sl, r⟩ = bindQ (fun v => EV P ti G N ops rest K ⟨b, sl, r⟩) (minAV false ((St.mk b sl r).ev G x) ((St.mk b sl r).ev G y)) := EV0_min
theorem EV_max {x y : Operand} {ts : Array TypeId} : EV P ti G N ops (⟨some d, .call ⟨.builtin .max, [x, y].toArray, ts⟩, ty, ps, af, none⟩ :: rest) K ⟨b, sl, r⟩ = bindQ (fun v => EV P ti G N ops rest K ⟨b, (d, v) :: sl, r⟩) (minAV true ((St.mk b sl r).ev G x) ((St.mk b sl r).ev G y)) := EV0_max
theorem EVn_max {x y : Operand} {ts : Array TypeId} : EV P ti G N ops (⟨none, .call ⟨.builtin .max, [x, y].toArray, ts⟩, ty, ps, af, none⟩ :: rest) K ⟨b, sl, r⟩ = bindQ (fun v => EV P ti G N ops rest K ⟨b, sl, r⟩) (minAV true ((St.mk b sl r).ev G x) ((St.mk b sl r).ev G y)) := EV0_max
theorem EV_append {x y : Operand} {t u : TypeId} : EV P ti G N ops (⟨some d, .call ⟨.builtin .append, [x, y].toArray, [t, u].toArray⟩, ty, ps, af, none⟩ :: rest) K ⟨b, sl, r⟩ = if ti.lit = true then HO P ti G N ops (⟨some d, .call ⟨.builtin .append, [x, y].toArray, [t, u].toArray⟩, ty, ps, af, none⟩ :: rest) K ⟨b, sl, r⟩ else bindQ2 (fun v r' => EV P ti G N ops rest K ⟨b, (d, v) :: sl, r'⟩) (evApp ti r t u ((St.mk b sl r).ev G x) ((St.mk b sl r).ev G y)) := EV0_append
theorem EVn_append {x y : Operand} {t u : TypeId} : EV P ti G N ops (⟨none, .call ⟨.builtin .append, [x, y].toArray, [t, u].toArray⟩, ty, ps, af, none⟩ :: rest) K ⟨b, sl, r⟩ = if ti.lit = true then HO P ti G N ops (⟨none, .call ⟨.builtin .append, [x, y].toArray, [t, u].toArray⟩, ty, ps, af, none⟩ :: rest) K ⟨b, sl, r⟩ else bindQ2 (fun v r' => EV P ti G N ops rest K ⟨b, sl, r'⟩) (evApp ti r t u ((St.mk b sl r).ev G x) ((St.mk b sl r).ev G y)) := EV0_append
theorem EV_conv {s t : TypeId} {x : Operand} : EV P ti G N ops (⟨some d, .convert s t x, ty, ps, af, none⟩ :: rest) K ⟨b, sl, r⟩ = bindQ2 (fun v r' => EV P ti G N ops rest K ⟨b, (d, v) :: sl, r'⟩) (evCvt ti r s t ((St.mk b sl r).ev G x)) := EV0_conv
theorem EVn_conv {s t : TypeId} {x : Operand} : EV P ti G N ops (⟨none, .convert s t x, ty, ps, af, none⟩ :: rest) K ⟨b, sl, r⟩ = bindQ2 (fun v r' => EV P ti G N ops rest K ⟨b, sl, r'⟩) (evCvt ti r s t ((St.mk b sl r).ev G x)) := EV0_conv
theorem EV_box {t : TypeId} {x : Operand} : EV P ti G N ops (⟨some d, .box t x, ty, ps, af, none⟩ :: rest) K ⟨b, sl, r⟩ = bindQ2 (fun v r' => EV P ti G N ops rest K ⟨b, (d, v) :: sl, r'⟩) (evBox r ((St.mk b sl r).ev G x)) := EV0_box
theorem EVn_box {t : TypeId} {x : Operand} : EV P ti G N ops (⟨none, .box t x, ty, ps, af, none⟩ :: rest) K ⟨b, sl, r⟩ = bindQ2 (fun v r' => EV P ti G N ops rest K ⟨b, sl, r'⟩) (evBox r ((St.mk b sl r).ev G x)) := EV0_box
theorem EV_alloc {t : TypeId} : EV P ti G N ops (⟨some d, .alloc t, ty, ps, af, none⟩ :: rest) K ⟨b, sl, r⟩ = bindQ2 (fun v r' => EV P ti G N ops rest K ⟨b, (d, v) :: sl, r'⟩) (evAlc r (tZ ti t)) := EV0_alloc
theorem EVn_alloc {t : TypeId} : EV P ti G N ops (⟨none, .alloc t, ty, ps, af, none⟩ :: rest) K ⟨b, sl, r⟩ = bindQ2 (fun v r' => EV P ti G N ops rest K ⟨b, sl, r'⟩) (evAlc r (tZ ti t)) := EV0_alloc
theorem EV_store {t : TypeId} {a x : Operand} : EV P ti G N ops (⟨some d, .store t a x, ty, ps, af, none⟩ :: rest) K ⟨b, sl, r⟩ = bindQ2 (fun v r' => EV P ti G N ops rest K ⟨b, (d, v) :: sl, r'⟩) (evStore ti r t ((St.mk b sl r).ev G a) ((St.mk b sl r).ev G x)) := EV0_store
theorem EVn_store {t : TypeId} {a x : Operand} : EV P ti G N ops (⟨none, .store t a x, ty, ps, af, none⟩ :: rest) K ⟨b, sl, r⟩ = bindQ2 (fun v r' => EV P ti G N ops rest K ⟨b, sl, r'⟩) (evStore ti r t ((St.mk b sl r).ev G a) ((St.mk b sl r).ev G x)) := EV0_store
theorem EV_buildSlice {t : TypeId} {n : Nat} {parts : List (Nat × Operand)} : EV P ti G N ops (⟨some d, .buildSlice t n parts.toArray, ty, ps, af, none⟩ :: rest) K ⟨b, sl, r⟩ = bindQ2 (fun v r' => EV P ti G N ops rest K ⟨b, (d, v) :: sl, r'⟩) (evBS ti r t n (parts.map fun p => (p.1, (St.mk b sl r).ev G p.2))) := EV0_buildSlice
theorem EVn_buildSlice {t : TypeId} {n : Nat} {parts : List (Nat × Operand)} : EV P ti G N ops (⟨none, .buildSlice t n parts.toArray, ty, ps, af, none⟩ :: rest) K ⟨b, sl, r⟩ = bindQ2 (fun v r' => EV P ti G N ops rest K ⟨b, sl, r'⟩) (evBS ti r t n (parts.map fun p => (p.1, (St.mk b sl r).ev G p.2))) := EV0_buildSlice
theorem EV_makeSlice {t : TypeId} {l c : Operand} : EV P ti G N ops (⟨some d, .makeSlice t l c, ty, ps, af, none⟩ :: rest) K ⟨b, sl, r⟩ = bindQ2 (fun v r' => EV P ti G N ops rest K ⟨b, (d, v) :: sl, r'⟩) (evMk ti r t ((St.mk b sl r).ev G l) ((St.mk b sl r).ev G c)) := EV0_makeSlice
theorem EVn_makeSlice {t : TypeId} {l c : Operand} : EV P ti G N ops (⟨none, .makeSlice t l c, ty, ps, af, none⟩ :: rest) K ⟨b, sl, r⟩ = bindQ2 (fun v r' => EV P ti G N ops rest K ⟨b, sl, r'⟩) (evMk ti r t ((St.mk b sl r).ev G l) ((St.mk b sl r).ev G c)) := EV0_makeSlice
theorem EV_g_move {x : Operand} {j : Nat} {want : Bool} : EV P ti G N ops (⟨some d, .move x, ty, ps, af, some (j, want)⟩ :: rest) K ⟨b, sl, r⟩ = bindQ (fun q0 => (q0 = want → EV P ti G N ops (⟨some d, .move x, ty, ps, af, none⟩ :: rest) K ⟨b, sl, r⟩) ∧ (q0 = (!want) → EV P ti G N ops rest K ⟨b, (d, undA) :: sl, r⟩)) (gdB ops ⟨b, sl, r⟩ j want) := EV_guard rfl
theorem EVn_g_move {x : Operand} {j : Nat} {want : Bool} : EV P ti G N ops (⟨none, .move x, ty, ps, af, some (j, want)⟩ :: rest) K ⟨b, sl, r⟩ = bindQ (fun q0 => (q0 = want → EV P ti G N ops (⟨none, .move x, ty, ps, af, none⟩ :: rest) K ⟨b, sl, r⟩) ∧ (q0 = (!want) → EV P ti G N ops rest K ⟨b, sl, r⟩)) (gdB ops ⟨b, sl, r⟩ j want) := EV_guard rfl
theorem EV_g_assign {x : Operand} {j : Nat} {want : Bool} : EV P ti G N ops (⟨some d, .assign x, ty, ps, af, some (j, want)⟩ :: rest) K ⟨b, sl, r⟩ = bindQ (fun q0 => (q0 = want → EV P ti G N ops (⟨some d, .assign x, ty, ps, af, none⟩ :: rest) K ⟨b, sl, r⟩) ∧ (q0 = (!want) → EV P ti G N ops rest K ⟨b, (d, undA) :: sl, r⟩)) (gdB ops ⟨b, sl, r⟩ j want) := EV_guard rfl
theorem EVn_g_assign {x : Operand} {j : Nat} {want : Bool} : EV P ti G N ops (⟨none, .assign x, ty, ps, af, some (j, want)⟩ :: rest) K ⟨b, sl, r⟩ = bindQ (fun q0 => (q0 = want → EV P ti G N ops (⟨none, .assign x, ty, ps, af, none⟩ :: rest) K ⟨b, sl, r⟩) ∧ (q0 = (!want) → EV P ti G N ops rest K ⟨b, sl, r⟩)) (gdB ops ⟨b, sl, r⟩ j want) := EV_guard rfl
theorem EV_g_pick {x y z : Operand} {j : Nat} {want : Bool} : EV P ti G N ops (⟨some d, .pick x y z, ty, ps, af, some (j, want)⟩ :: rest) K ⟨b, sl, r⟩ = bindQ (fun q0 => (q0 = want → EV P ti G N ops (⟨some d, .pick x y z, ty, ps, af, none⟩ :: rest) K ⟨b, sl, r⟩) ∧ (q0 = (!want) → EV P ti G N ops rest K ⟨b, (d, undA) :: sl, r⟩)) (gdB ops ⟨b, sl, r⟩ j want) := EV_guard rfl
theorem EVn_g_pick {x y z : Operand} {j : Nat} {want : Bool} : EV P ti G N ops (⟨none, .pick x y z, ty, ps, af, some (j, want)⟩ :: rest) K ⟨b, sl, r⟩ = bindQ (fun q0 => (q0 = want → EV P ti G N ops (⟨none, .pick x y z, ty, ps, af, none⟩ :: rest) K ⟨b, sl, r⟩) ∧ (q0 = (!want) → EV P ti G N ops rest K ⟨b, sl, r⟩)) (gdB ops ⟨b, sl, r⟩ j want) := EV_guard rfl
theorem EV_g_bin {op : BinOp} {t u : TypeId} {x y : Operand} {j : Nat} {want : Bool} : EV P ti G N ops (⟨some d, .binOp op t x y u, ty, ps, af, some (j, want)⟩ :: rest) K ⟨b, sl, r⟩ = bindQ (fun q0 => (q0 = want → EV P ti G N ops (⟨some d, .binOp op t x y u, ty, ps, af, none⟩ :: rest) K ⟨b, sl, r⟩) ∧ (q0 = (!want) → EV P ti G N ops rest K ⟨b, (d, undA) :: sl, r⟩)) (gdB ops ⟨b, sl, r⟩ j want) := EV_guard rfl
theorem EVn_g_bin {op : BinOp} {t u : TypeId} {x y : Operand} {j : Nat} {want : Bool} : EV P ti G N ops (⟨none, .binOp op t x y u, ty, ps, af, some (j, want)⟩ :: rest) K ⟨b, sl, r⟩ = bindQ (fun q0 => (q0 = want → EV P ti G N ops (⟨none, .binOp op t x y u, ty, ps, af, none⟩ :: rest) K ⟨b, sl, r⟩) ∧ (q0 = (!want) → EV P ti G N ops rest K ⟨b, sl, r⟩)) (gdB ops ⟨b, sl, r⟩ j want) := EV_guard rfl
theorem EV_g_un {op : UnOp} {t : TypeId} {x : Operand} {j : Nat} {want : Bool} : EV P ti G N ops (⟨some d, .unOp op t x, ty, ps, af, some (j, want)⟩ :: rest) K ⟨b, sl, r⟩ = bindQ (fun q0 => (q0 = want → EV P ti G N ops (⟨some d, .unOp op t x, ty, ps, af, none⟩ :: rest) K ⟨b, sl, r⟩) ∧ (q0 = (!want) → EV P ti G N ops rest K ⟨b, (d, undA) :: sl, r⟩)) (gdB ops ⟨b, sl, r⟩ j want) := EV_guard rfl
theorem EVn_g_un {op : UnOp} {t : TypeId} {x : Operand} {j : Nat} {want : Bool} : EV P ti G N ops (⟨none, .unOp op t x, ty, ps, af, some (j, want)⟩ :: rest) K ⟨b, sl, r⟩ = bindQ (fun q0 => (q0 = want → EV P ti G N ops (⟨none, .unOp op t x, ty, ps, af, none⟩ :: rest) K ⟨b, sl, r⟩) ∧ (q0 = (!want) → EV P ti G N ops rest K ⟨b, sl, r⟩)) (gdB ops ⟨b, sl, r⟩ j want) := EV_guard rfl
theorem EV_g_nc {x : Operand} {j : Nat} {want : Bool} : EV P ti G N ops (⟨some d, .nilCheck x, ty, ps, af, some (j, want)⟩ :: rest) K ⟨b, sl, r⟩ = bindQ (fun q0 => (q0 = want → EV P ti G N ops (⟨some d, .nilCheck x, ty, ps, af, none⟩ :: rest) K ⟨b, sl, r⟩) ∧ (q0 = (!want) → EV P ti G N ops rest K ⟨b, (d, undA) :: sl, r⟩)) (gdB ops ⟨b, sl, r⟩ j want) := EV_guard rfl
theorem EVn_g_nc {x : Operand} {j : Nat} {want : Bool} : EV P ti G N ops (⟨none, .nilCheck x, ty, ps, af, some (j, want)⟩ :: rest) K ⟨b, sl, r⟩ = bindQ (fun q0 => (q0 = want → EV P ti G N ops (⟨none, .nilCheck x, ty, ps, af, none⟩ :: rest) K ⟨b, sl, r⟩) ∧ (q0 = (!want) → EV P ti G N ops rest K ⟨b, sl, r⟩)) (gdB ops ⟨b, sl, r⟩ j want) := EV_guard rfl
theorem EV_g_ext {t : Operand} {i : Nat} {j : Nat} {want : Bool} : EV P ti G N ops (⟨some d, .extract t i, ty, ps, af, some (j, want)⟩ :: rest) K ⟨b, sl, r⟩ = bindQ (fun q0 => (q0 = want → EV P ti G N ops (⟨some d, .extract t i, ty, ps, af, none⟩ :: rest) K ⟨b, sl, r⟩) ∧ (q0 = (!want) → EV P ti G N ops rest K ⟨b, (d, undA) :: sl, r⟩)) (gdB ops ⟨b, sl, r⟩ j want) := EV_guard rfl
theorem EVn_g_ext {t : Operand} {i : Nat} {j : Nat} {want : Bool} : EV P ti G N ops (⟨none, .extract t i, ty, ps, af, some (j, want)⟩ :: rest) K ⟨b, sl, r⟩ = bindQ (fun q0 => (q0 = want → EV P ti G N ops (⟨none, .extract t i, ty, ps, af, none⟩ :: rest) K ⟨b, sl, r⟩) ∧ (q0 = (!want) → EV P ti G N ops rest K ⟨b, sl, r⟩)) (gdB ops ⟨b, sl, r⟩ j want) := EV_guard rfl
theorem EV_g_slice {t : TypeId} {x : Operand} {lo hi mx : Option Operand} {j : Nat} {want : Bool} : EV P ti G N ops (⟨some d, .slice t x lo hi mx, ty, ps, af, some (j, want)⟩ :: rest) K ⟨b, sl, r⟩ = bindQ (fun q0 => (q0 = want → EV P ti G N ops (⟨some d, .slice t x lo hi mx, ty, ps, af, none⟩ :: rest) K ⟨b, sl, r⟩) ∧ (q0 = (!want) → EV P ti G N ops rest K ⟨b, (d, undA) :: sl, r⟩)) (gdB ops ⟨b, sl, r⟩ j want) := EV_guard rfl
theorem EVn_g_slice {t : TypeId} {x : Operand} {lo hi mx : Option Operand} {j : Nat} {want : Bool} : EV P ti G N ops (⟨none, .slice t x lo hi mx, ty, ps, af, some (j, want)⟩ :: rest) K ⟨b, sl, r⟩ = bindQ (fun q0 => (q0 = want → EV P ti G N ops (⟨none, .slice t x lo hi mx, ty, ps, af, none⟩ :: rest) K ⟨b, sl, r⟩) ∧ (q0 = (!want) → EV P ti G N ops rest K ⟨b, sl, r⟩)) (gdB ops ⟨b, sl, r⟩ j want) := EV_guard rfl
theorem EV_g_index {t : TypeId} {x i : Operand} {j : Nat} {want : Bool} : EV P ti G N ops (⟨some d, .index t x i, ty, ps, af, some (j, want)⟩ :: rest) K ⟨b, sl, r⟩ = bindQ (fun q0 => (q0 = want → EV P ti G N ops (⟨some d, .index t x i, ty, ps, af, none⟩ :: rest) K ⟨b, sl, r⟩) ∧ (q0 = (!want) → EV P ti G N ops rest K ⟨b, (d, undA) :: sl, r⟩)) (gdB ops ⟨b, sl, r⟩ j want) := EV_guard rfl
theorem EVn_g_index {t : TypeId} {x i : Operand} {j : Nat} {want : Bool} : EV P ti G N ops (⟨none, .index t x i, ty, ps, af, some (j, want)⟩ :: rest) K ⟨b, sl, r⟩ = bindQ (fun q0 => (q0 = want → EV P ti G N ops (⟨none, .index t x i, ty, ps, af, none⟩ :: rest) K ⟨b, sl, r⟩) ∧ (q0 = (!want) → EV P ti G N ops rest K ⟨b, sl, r⟩)) (gdB ops ⟨b, sl, r⟩ j want) := EV_guard rfl
theorem EV_g_indexAddr {t : TypeId} {x i : Operand} {j : Nat} {want : Bool} : EV P ti G N ops (⟨some d, .indexAddr t x i, ty, ps, af, some (j, want)⟩ :: rest) K ⟨b, sl, r⟩ = bindQ (fun q0 => (q0 = want → EV P ti G N ops (⟨some d, .indexAddr t x i, ty, ps, af, none⟩ :: rest) K ⟨b, sl, r⟩) ∧ (q0 = (!want) → EV P ti G N ops rest K ⟨b, (d, undA) :: sl, r⟩)) (gdB ops ⟨b, sl, r⟩ j want) := EV_guard rfl
theorem EVn_g_indexAddr {t : TypeId} {x i : Operand} {j : Nat} {want : Bool} : EV P ti G N ops (⟨none, .indexAddr t x i, ty, ps, af, some (j, want)⟩ :: rest) K ⟨b, sl, r⟩ = bindQ (fun q0 => (q0 = want → EV P ti G N ops (⟨none, .indexAddr t x i, ty, ps, af, none⟩ :: rest) K ⟨b, sl, r⟩) ∧ (q0 = (!want) → EV P ti G N ops rest K ⟨b, sl, r⟩)) (gdB ops ⟨b, sl, r⟩ j want) := EV_guard rfl
theorem EV_g_fieldAddr {t : TypeId} {x : Operand} {f : Nat} {j : Nat} {want : Bool} : EV P ti G N ops (⟨some d, .fieldAddr t x f, ty, ps, af, some (j, want)⟩ :: rest) K ⟨b, sl, r⟩ = bindQ (fun q0 => (q0 = want → EV P ti G N ops (⟨some d, .fieldAddr t x f, ty, ps, af, none⟩ :: rest) K ⟨b, sl, r⟩) ∧ (q0 = (!want) → EV P ti G N ops rest K ⟨b, (d, undA) :: sl, r⟩)) (gdB ops ⟨b, sl, r⟩ j want) := EV_guard rfl
theorem EVn_g_fieldAddr {t : TypeId} {x : Operand} {f : Nat} {j : Nat} {want : Bool} : EV P ti G N ops (⟨none, .fieldAddr t x f, ty, ps, af, some (j, want)⟩ :: rest) K ⟨b, sl, r⟩ = bindQ (fun q0 => (q0 = want → EV P ti G N ops (⟨none, .fieldAddr t x f, ty, ps, af, none⟩ :: rest) K ⟨b, sl, r⟩) ∧ (q0 = (!want) → EV P ti G N ops rest K ⟨b, sl, r⟩)) (gdB ops ⟨b, sl, r⟩ j want) := EV_guard rfl
theorem EV_g_field {t : TypeId} {x : Operand} {f : Nat} {j : Nat} {want : Bool} : EV P ti G N ops (⟨some d, .field t x f, ty, ps, af, some (j, want)⟩ :: rest) K ⟨b, sl, r⟩ = bindQ (fun q0 => (q0 = want → EV P ti G N ops (⟨some d, .field t x f, ty, ps, af, none⟩ :: rest) K ⟨b, sl, r⟩) ∧ (q0 = (!want) → EV P ti G N ops rest K ⟨b, (d, undA) :: sl, r⟩)) (gdB ops ⟨b, sl, r⟩ j want) := EV_guard rfl
theorem EVn_g_field {t : TypeId} {x : Operand} {f : Nat} {j : Nat} {want : Bool} : EV P ti G N ops (⟨none, .field t x f, ty, ps, af, some (j, want)⟩ :: rest) K ⟨b, sl, r⟩ = bindQ (fun q0 => (q0 = want → EV P ti G N ops (⟨none, .field t x f, ty, ps, af, none⟩ :: rest) K ⟨b, sl, r⟩) ∧ (q0 = (!want) → EV P ti G N ops rest K ⟨b, sl, r⟩)) (gdB ops ⟨b, sl, r⟩ j want) := EV_guard rfl
theorem EV_g_load {t : TypeId} {x : Operand} {j : Nat} {want : Bool} : EV P ti G N ops (⟨some d, .load t x, ty, ps, af, some (j, want)⟩ :: rest) K ⟨b, sl, r⟩ = bindQ (fun q0 => (q0 = want → EV P ti G N ops (⟨some d, .load t x, ty, ps, af, none⟩ :: rest) K ⟨b, sl, r⟩) ∧ (q0 = (!want) → EV P ti G N ops rest K ⟨b, (d, undA) :: sl, r⟩)) (gdB ops ⟨b, sl, r⟩ j want) := EV_guard rfl
theorem EVn_g_load {t : TypeId} {x : Operand} {j : Nat} {want : Bool} : EV P ti G N ops (⟨none, .load t x, ty, ps, af, some (j, want)⟩ :: rest) K ⟨b, sl, r⟩ = bindQ (fun q0 => (q0 = want → EV P ti G N ops (⟨none, .load t x, ty, ps, af, none⟩ :: rest) K ⟨b, sl, r⟩) ∧ (q0 = (!want) → EV P ti G N ops rest K ⟨b, sl, r⟩)) (gdB ops ⟨b, sl, r⟩ j want) := EV_guard rfl
theorem EV_g_build {t : TypeId} {parts : Array (Nat × Operand)} {j : Nat} {want : Bool} : EV P ti G N ops (⟨some d, .build t parts, ty, ps, af, some (j, want)⟩ :: rest) K ⟨b, sl, r⟩ = bindQ (fun q0 => (q0 = want → EV P ti G N ops (⟨some d, .build t parts, ty, ps, af, none⟩ :: rest) K ⟨b, sl, r⟩) ∧ (q0 = (!want) → EV P ti G N ops rest K ⟨b, (d, undA) :: sl, r⟩)) (gdB ops ⟨b, sl, r⟩ j want) := EV_guard rfl
theorem EVn_g_build {t : TypeId} {parts : Array (Nat × Operand)} {j : Nat} {want : Bool} : EV P ti G N ops (⟨none, .build t parts, ty, ps, af, some (j, want)⟩ :: rest) K ⟨b, sl, r⟩ = bindQ (fun q0 => (q0 = want → EV P ti G N ops (⟨none, .build t parts, ty, ps, af, none⟩ :: rest) K ⟨b, sl, r⟩) ∧ (q0 = (!want) → EV P ti G N ops rest K ⟨b, sl, r⟩)) (gdB ops ⟨b, sl, r⟩ j want) := EV_guard rfl
theorem EV_g_len {as : Array Operand} {ts : Array TypeId} {j : Nat} {want : Bool} : EV P ti G N ops (⟨some d, .call ⟨.builtin .len, as, ts⟩, ty, ps, af, some (j, want)⟩ :: rest) K ⟨b, sl, r⟩ = bindQ (fun q0 => (q0 = want → EV P ti G N ops (⟨some d, .call ⟨.builtin .len, as, ts⟩, ty, ps, af, none⟩ :: rest) K ⟨b, sl, r⟩) ∧ (q0 = (!want) → EV P ti G N ops rest K ⟨b, (d, undA) :: sl, r⟩)) (gdB ops ⟨b, sl, r⟩ j want) := EV_guard rfl
theorem EVn_g_len {as : Array Operand} {ts : Array TypeId} {j : Nat} {want : Bool} : EV P ti G N ops (⟨none, .call ⟨.builtin .len, as, ts⟩, ty, ps, af, some (j, want)⟩ :: rest) K ⟨b, sl, r⟩ = bindQ (fun q0 => (q0 = want → EV P ti G N ops (⟨none, .call ⟨.builtin .len, as, ts⟩, ty, ps, af, none⟩ :: rest) K ⟨b, sl, r⟩) ∧ (q0 = (!want) → EV P ti G N ops rest K ⟨b, sl, r⟩)) (gdB ops ⟨b, sl, r⟩ j want) := EV_guard rfl
theorem EV_g_min {as : Array Operand} {ts : Array TypeId} {j : Nat} {want : Bool} : EV P ti G N ops (⟨some d, .call ⟨.builtin .min, as, ts⟩, ty, ps, af, some (j, want)⟩ :: rest) K ⟨b, sl, r⟩ = bindQ (fun q0 => (q0 = want → EV P ti G N ops (⟨some d, .call ⟨.builtin .min, as, ts⟩, ty, ps, af, none⟩ :: rest) K ⟨b, sl, r⟩) ∧ (q0 = (!want) → EV P ti G N ops rest K ⟨b, (d, undA) :: sl, r⟩)) (gdB ops ⟨b, sl, r⟩ j want) := EV_guard rfl
theorem EVn_g_min {as : Array Operand} {ts : Array TypeId} {j : Nat} {want : Bool} : EV P ti G N ops (⟨none, .call ⟨.builtin .min, as, ts⟩, ty, ps, af, some (j, want)⟩ :: rest) K ⟨b, sl, r⟩ = bindQ (fun q0 => (q0 = want → EV P ti G N ops (⟨none, .call ⟨.builtin .min, as, ts⟩, ty, ps, af, none⟩ :: rest) K ⟨b, sl, r⟩) ∧ (q0 = (!want) → EV P ti G N ops rest K ⟨b, sl, r⟩)) (gdB ops ⟨b, sl, r⟩ j want) := EV_guard rfl
theorem EV_g_max {as : Array Operand} {ts : Array TypeId} {j : Nat} {want : Bool} : EV P ti G N ops (⟨some d, .call ⟨.builtin .max, as, ts⟩, ty, ps, af, some (j, want)⟩ :: rest) K ⟨b, sl, r⟩ = bindQ (fun q0 => (q0 = want → EV P ti G N ops (⟨some d, .call ⟨.builtin .max, as, ts⟩, ty, ps, af, none⟩ :: rest) K ⟨b, sl, r⟩) ∧ (q0 = (!want) → EV P ti G N ops rest K ⟨b, (d, undA) :: sl, r⟩)) (gdB ops ⟨b, sl, r⟩ j want) := EV_guard rfl
theorem EVn_g_max {as : Array Operand} {ts : Array TypeId} {j : Nat} {want : Bool} : EV P ti G N ops (⟨none, .call ⟨.builtin .max, as, ts⟩, ty, ps, af, some (j, want)⟩ :: rest) K ⟨b, sl, r⟩ = bindQ (fun q0 => (q0 = want → EV P ti G N ops (⟨none, .call ⟨.builtin .max, as, ts⟩, ty, ps, af, none⟩ :: rest) K ⟨b, sl, r⟩) ∧ (q0 = (!want) → EV P ti G N ops rest K ⟨b, sl, r⟩)) (gdB ops ⟨b, sl, r⟩ j want) := EV_guard rfl
theorem EV_g_append {as : Array Operand} {ts : Array TypeId} {j : Nat} {want : Bool} : EV P ti G N ops (⟨some d, .call ⟨.builtin .append, as, ts⟩, ty, ps, af, some (j, want)⟩ :: rest) K ⟨b, sl, r⟩ = bindQ (fun q0 => (q0 = want → if ti.lit = true then HO P ti G N ops (⟨some d, .call ⟨.builtin .append, as, ts⟩, ty, ps, af, some (j, want)⟩ :: rest) K ⟨b, sl, r⟩ else EV P ti G N ops (⟨some d, .call ⟨.builtin .append, as, ts⟩, ty, ps, af, none⟩ :: rest) K ⟨b, sl, r⟩) ∧ (q0 = (!want) → EV P ti G N ops rest K ⟨b, (d, undA) :: sl, r⟩)) (gdB ops ⟨b, sl, r⟩ j want) := EV_guard_app
theorem EVn_g_append {as : Array Operand} {ts : Array TypeId} {j : Nat} {want : Bool} : EV P ti G N ops (⟨none, .call ⟨.builtin .append, as, ts⟩, ty, ps, af, some (j, want)⟩ :: rest) K ⟨b, sl, r⟩ = bindQ (fun q0 => (q0 = want → if ti.lit = true then HO P ti G N ops (⟨none, .call ⟨.builtin .append, as, ts⟩, ty, ps, af, some (j, want)⟩ :: rest) K ⟨b, sl, r⟩ else EV P ti G N ops (⟨none, .call ⟨.builtin .append, as, ts⟩, ty, ps, af, none⟩ :: rest) K ⟨b, sl, r⟩) ∧ (q0 = (!want) → EV P ti G N ops rest K ⟨b, sl, r⟩)) (gdB ops ⟨b, sl, r⟩ j want) := EV_guard_app
theorem EV_g_conv {s t : TypeId} {x : Operand} {j : Nat} {want : Bool} : EV P ti G N ops (⟨some d, .convert s t x, ty, ps, af, some (j, want)⟩ :: rest) K ⟨b, sl, r⟩ = bindQ (fun q0 => (q0 = want → EV P ti G N ops (⟨some d, .convert s t x, ty, ps, af, none⟩ :: rest) K ⟨b, sl, r⟩) ∧ (q0 = (!want) → EV P ti G N ops rest K ⟨b, (d, undA) :: sl, r⟩)) (gdB ops ⟨b, sl, r⟩ j want) := EV_guard rfl
theorem EVn_g_conv {s t : TypeId} {x : Operand} {j : Nat} {want : Bool} : EV P ti G N ops (⟨none, .convert s t x, ty, ps, af, some (j, want)⟩ :: rest) K ⟨b, sl, r⟩ = bindQ (fun q0 => (q0 = want → EV P ti G N ops (⟨none, .convert s t x, ty, ps, af, none⟩ :: rest) K ⟨b, sl, r⟩) ∧ (q0 = (!want) → EV P ti G N ops rest K ⟨b, sl, r⟩)) (gdB ops ⟨b, sl, r⟩ j want) := EV_guard rfl
theorem EV_g_box {t : TypeId} {x : Operand} {j : Nat} {want : Bool} : EV P ti G N ops (⟨some d, .box t x, ty, ps, af, some (j, want)⟩ :: rest) K ⟨b, sl, r⟩ = bindQ (fun q0 => (q0 = want → EV P ti G N ops (⟨some d, .box t x, ty, ps, af, none⟩ :: rest) K ⟨b, sl, r⟩) ∧ (q0 = (!want) → EV P ti G N ops rest K ⟨b, (d, undA) :: sl, r⟩)) (gdB ops ⟨b, sl, r⟩ j want) := EV_guard rfl
theorem EVn_g_box {t : TypeId} {x : Operand} {j : Nat} {want : Bool} : EV P ti G N ops (⟨none, .box t x, ty, ps, af, some (j, want)⟩ :: rest) K ⟨b, sl, r⟩ = bindQ (fun q0 => (q0 = want → EV P ti G N ops (⟨none, .box t x, ty, ps, af, none⟩ :: rest) K ⟨b, sl, r⟩) ∧ (q0 = (!want) → EV P ti G N ops rest K ⟨b, sl, r⟩)) (gdB ops ⟨b, sl, r⟩ j want) := EV_guard rfl
theorem EV_g_alloc {t : TypeId} {j : Nat} {want : Bool} : EV P ti G N ops (⟨some d, .alloc t, ty, ps, af, some (j, want)⟩ :: rest) K ⟨b, sl, r⟩ = bindQ (fun q0 => (q0 = want → EV P ti G N ops (⟨some d, .alloc t, ty, ps, af, none⟩ :: rest) K ⟨b, sl, r⟩) ∧ (q0 = (!want) → EV P ti G N ops rest K ⟨b, (d, undA) :: sl, r⟩)) (gdB ops ⟨b, sl, r⟩ j want) := EV_guard rfl
theorem EVn_g_alloc {t : TypeId} {j : Nat} {want : Bool} : EV P ti G N ops (⟨none, .alloc t, ty, ps, af, some (j, want)⟩ :: rest) K ⟨b, sl, r⟩ = bindQ (fun q0 => (q0 = want → EV P ti G N ops (⟨none, .alloc t, ty, ps, af, none⟩ :: rest) K ⟨b, sl, r⟩) ∧ (q0 = (!want) → EV P ti G N ops rest K ⟨b, sl, r⟩)) (gdB ops ⟨b, sl, r⟩ j want) := EV_guard rfl
theorem EV_g_store {t : TypeId} {a x : Operand} {j : Nat} {want : Bool} : EV P ti G N ops (⟨some d, .store t a x, ty, ps, af, some (j, want)⟩ :: rest) K ⟨b, sl, r⟩ = bindQ (fun q0 => (q0 = want → EV P ti G N ops (⟨some d, .store t a x, ty, ps, af, none⟩ :: rest) K ⟨b, sl, r⟩) ∧ (q0 = (!want) → EV P ti G N ops rest K ⟨b, (d, undA) :: sl, r⟩)) (gdB ops ⟨b, sl, r⟩ j want) := EV_guard rfl
theorem EVn_g_store {t : TypeId} {a x : Operand} {j : Nat} {want : Bool} : EV P ti G N ops (⟨none, .store t a x, ty, ps, af, some (j, want)⟩ :: rest) K ⟨b, sl, r⟩ = bindQ (fun q0 => (q0 = want → EV P ti G N ops (⟨none, .store t a x, ty, ps, af, none⟩ :: rest) K ⟨b, sl, r⟩) ∧ (q0 = (!want) → EV P ti G N ops rest K ⟨b, sl, r⟩)) (gdB ops ⟨b, sl, r⟩ j want) := EV_guard rfl
theorem EV_g_buildSlice {t : TypeId} {n : Nat} {parts : Array (Nat × Operand)} {j : Nat} {want : Bool} : EV P ti G N ops (⟨some d, .buildSlice t n parts, ty, ps, af, some (j, want)⟩ :: rest) K ⟨b, sl, r⟩ = bindQ (fun q0 => (q0 = want → EV P ti G N ops (⟨some d, .buildSlice t n parts, ty, ps, af, none⟩ :: rest) K ⟨b, sl, r⟩) ∧ (q0 = (!want) → EV P ti G N ops rest K ⟨b, (d, undA) :: sl, r⟩)) (gdB ops ⟨b, sl, r⟩ j want) := EV_guard rfl
theorem EVn_g_buildSlice {t : TypeId} {n : Nat} {parts : Array (Nat × Operand)} {j : Nat} {want : Bool} : EV P ti G N ops (⟨none, .buildSlice t n parts, ty, ps, af, some (j, want)⟩ :: rest) K ⟨b, sl, r⟩ = bindQ (fun q0 => (q0 = want → EV P ti G N ops (⟨none, .buildSlice t n parts, ty, ps, af, none⟩ :: rest) K ⟨b, sl, r⟩) ∧ (q0 = (!want) → EV P ti G N ops rest K ⟨b, sl, r⟩)) (gdB ops ⟨b, sl, r⟩ j want) := EV_guard rfl
theorem EV_g_makeSlice {t : TypeId} {l c : Operand} {j : Nat} {want : Bool} : EV P ti G N ops (⟨some d, .makeSlice t l c, ty, ps, af, some (j, want)⟩ :: rest) K ⟨b, sl, r⟩ = bindQ (fun q0 => (q0 = want → EV P ti G N ops (⟨some d, .makeSlice t l c, ty, ps, af, none⟩ :: rest) K ⟨b, sl, r⟩) ∧ (q0 = (!want) → EV P ti G N ops rest K ⟨b, (d, undA) :: sl, r⟩)) (gdB ops ⟨b, sl, r⟩ j want) := EV_guard rfl
theorem EVn_g_makeSlice {t : TypeId} {l c : Operand} {j : Nat} {want : Bool} : EV P ti G N ops (⟨none, .makeSlice t l c, ty, ps, af, some (j, want)⟩ :: rest) K ⟨b, sl, r⟩ = bindQ (fun q0 => (q0 = want → EV P ti G N ops (⟨none, .makeSlice t l c, ty, ps, af, none⟩ :: rest) K ⟨b, sl, r⟩) ∧ (q0 = (!want) → EV P ti G N ops rest K ⟨b, sl, r⟩)) (gdB ops ⟨b, sl, r⟩ j want) := EV_guard rfl
theorem EV_gcall {x : Operand} {as : Array Operand} {ts : Array TypeId} {d : Option Tmp} {j : Nat} {want : Bool} : EV P ti G N ops (⟨d, .call ⟨.value x, as, ts⟩, ty, ps, af, some (j, want)⟩ :: rest) K ⟨b, sl, r⟩ = bindQ (fun q0 =>
    (q0 = want → HO P ti G N ops (⟨d, .call ⟨.value x, as, ts⟩, ty, ps, af, some (j, want)⟩ :: rest) K ⟨b, sl, r⟩) ∧ (q0 = (!want) → EV P ti G N ops rest K (St.putR ⟨b, sl, r⟩ d undA r))) (gdB ops ⟨b, sl, r⟩ j want) := EV_guard_call
theorem R_if {K : KD} {c : Operand} {x y : Code} {σ : St} : R P ti G N (.cond c x y) K σ = bindQ (fun t => (t = true → R P ti G N x K σ) ∧ (t = false → R P ti G N y K σ)) (boolOfA (σ.ev G c)) := R_cond
theorem A_rets {res : List ResultVar} {O : AV → Rs → Prop} {σ : St} : A P ti G N (.ret res O) .ret σ = bindQ (fun v => O v σ.r) (resA ti σ res) := A_ret
theorem A_rets_normal {res : List ResultVar} {O : AV → Rs → Prop} {σ : St} : A P ti G N (.ret res O) .normal σ = bindQ (fun v => O v σ.r) (resA ti σ res) := A_ret_normal
end
end Go.Proofs.Ythdjblfiiogmgaa
/- The frame of these proofs, part V: the rules for the operands' forms. -/
set_option linter.unusedVariables false
set_option linter.unusedSimpArgs false
namespace Go.Proofs.Ythdjblfiiogmgaa
open Go
section
variable {ti : Ti} {r : Rs} {t u s d e : TypeId} {k k' j : IntKind} {a b n m : Int} {A B : ByteArray}

theorem wantA_bool {q w : Bool} : wantA w (.d (.c (.bool q))) = some q := rfl
theorem wantA_und_t {l : List AV} : wantA true (.tup l) = some false := rfl
theorem wantA_und_f {l : List AV} : wantA false (.tup l) = some true := rfl
theorem boolOfA_bool {q : Bool} : boolOfA (.d (.c (.bool q))) = some q := rfl
theorem evPick_bool {q : Bool} {x y : AV} : evPick (.d (.c (.bool q))) x y = some (if q = true then x else y) := rfl
theorem evUn_not {q : Bool} : evUn .not (.d (.c (.bool q))) = some (.d (.c (.bool !q))) := rfl
theorem evUn_neg : evUn .neg (.d (.c (.int k n))) = some (.d (.c (.int k (k.wrap (0 - n))))) := rfl
theorem evUn_xor : evUn .xor (.d (.c (.int k n))) = some (.d (.c (.int k (ibits .xor k (if k.signed then -1 else k.max) n)))) := rfl

/-! ### Sums and tests -/
theorem bin_add : evBin ti r .add t (.d (.c (.int k a))) (.d (.c (.int k b))) = some (.d (.c (.int k (k.wrap (a + b))))) := by simp [evBin, vBin, vAdd, oneC, chk, Value.oneCell']
theorem bin_sub : evBin ti r .sub t (.d (.c (.int k a))) (.d (.c (.int k b))) = some (.d (.c (.int k (k.wrap (a - b))))) := by simp [evBin, vBin, vAr, oneC, chk, Value.oneCell']
theorem bin_mul : evBin ti r .mul t (.d (.c (.int k a))) (.d (.c (.int k b))) = some (.d (.c (.int k (k.wrap (a * b))))) := by simp [evBin, vBin, vAr, oneC, chk, Value.oneCell']
theorem bin_quo (h : b ≠ 0) : evBin ti r .quo t (.d (.c (.int k a))) (.d (.c (.int k b))) = some (.d (.c (.int k (k.wrap (a.tdiv b))))) := by simp [evBin, vBin, vDiv, oneC, chk, Value.oneCell', h]
theorem bin_rem (h : b ≠ 0) : evBin ti r .rem t (.d (.c (.int k a))) (.d (.c (.int k b))) = some (.d (.c (.int k (a.tmod b)))) := by simp [evBin, vBin, vDiv, oneC, chk, Value.oneCell', h]
theorem bin_and : evBin ti r .and t (.d (.c (.int k a))) (.d (.c (.int k b))) = some (.d (.c (.int k (ibits .and k a b)))) := by simp [evBin, vBin, vBits, oneC, chk, Value.oneCell']
theorem bin_or : evBin ti r .or t (.d (.c (.int k a))) (.d (.c (.int k b))) = some (.d (.c (.int k (ibits .or k a b)))) := by simp [evBin, vBin, vBits, oneC, chk, Value.oneCell']
theorem bin_xor : evBin ti r .xor t (.d (.c (.int k a))) (.d (.c (.int k b))) = some (.d (.c (.int k (ibits .xor k a b)))) := by simp [evBin, vBin, vBits, oneC, chk, Value.oneCell']
theorem bin_andNot : evBin ti r .andNot t (.d (.c (.int k a))) (.d (.c (.int k b))) = some (.d (.c (.int k (ibits .andNot k a b)))) := by simp [evBin, vBin, vBits, oneC, chk, Value.oneCell']
theorem bin_shl (h : 0 ≤ b) : evBin ti r .shl t (.d (.c (.int k a))) (.d (.c (.int j b))) = some (.d (.c (.int k (ishl k a b)))) := by simp [evBin, vBin, vSh, oneC, chk, Value.oneCell', h]
theorem bin_shr (h : 0 ≤ b) : evBin ti r .shr t (.d (.c (.int k a))) (.d (.c (.int j b))) = some (.d (.c (.int k (ishr k a b)))) := by simp [evBin, vBin, vSh, oneC, chk, Value.oneCell', h]
theorem bin_lss : evBin ti r .lss t (.d (.c (.int k a))) (.d (.c (.int k b))) = some (.d (.c (.bool (decide (a < b))))) := by simp [evBin, vBin, vCmp, oneC, chk, Value.oneCell']
theorem bin_leq : evBin ti r .leq t (.d (.c (.int k a))) (.d (.c (.int k b))) = some (.d (.c (.bool (decide (a ≤ b))))) := by simp [evBin, vBin, vCmp, oneC, chk, Value.oneCell']
theorem bin_gtr : evBin ti r .gtr t (.d (.c (.int k a))) (.d (.c (.int k b))) = some (.d (.c (.bool (decide (b < a))))) := by simp [evBin, vBin, vCmp, oneC, chk, Value.oneCell']
theorem bin_geq : evBin ti r .geq t (.d (.c (.int k a))) (.d (.c (.int k b))) = some (.d (.c (.bool (decide (b ≤ a))))) := by simp [evBin, vBin, vCmp, oneC, chk, Value.oneCell']
theorem bin_eql : evBin ti r .eql t (.d (.c (.int k a))) (.d (.c (.int k b))) = some (.d (.c (.bool (decide (a = b))))) := by simp [evBin, vBin, vEq, oneC, chk, Value.oneCell']; rfl
theorem bin_neq : evBin ti r .neq t (.d (.c (.int k a))) (.d (.c (.int k b))) = some (.d (.c (.bool (!decide (a = b))))) := by simp [evBin, vBin, vEq, oneC, chk, Value.oneCell']; rfl
theorem sEq (A B : ByteArray) : (A.toList == B.toList) = decide (A = B) := by
  have h : A.toList = B.toList ↔ A = B := by
    rw [Go.ByteArray.toList_eq, Go.ByteArray.toList_eq]
    constructor
    · intro h; exact ByteArray.ext (Array.ext' h)
    · rintro rfl; rfl
  rw [Bool.eq_iff_iff]
  simp [h]
theorem bin_seql : evBin ti r .eql t (.d (.c (.string A))) (.d (.c (.string B))) = some (.d (.c (.bool (decide (A = B))))) := by simp [evBin, vBin, vEq, oneC, chk, Value.oneCell', sEq]
theorem bin_sneq : evBin ti r .neq t (.d (.c (.string A))) (.d (.c (.string B))) = some (.d (.c (.bool (!decide (A = B))))) := by simp [evBin, vBin, vEq, oneC, chk, Value.oneCell', sEq]
theorem bin_slss : evBin ti r .lss t (.d (.c (.string A))) (.d (.c (.string B))) = some (.d (.c (.bool (Op.bytesLess A.toList B.toList)))) := by simp [evBin, vBin, vCmp, oneC, chk, Value.oneCell']
theorem bin_sgtr : evBin ti r .gtr t (.d (.c (.string A))) (.d (.c (.string B))) = some (.d (.c (.bool (!(Op.bytesLess A.toList B.toList || decide (A = B)))))) := by simp [evBin, vBin, vCmp, oneC, chk, Value.oneCell', sEq]
theorem bin_sadd : evBin ti r .add t (.d (.c (.string A))) (.d (.c (.string B))) = chk (A.size + B.size ≤ 9223372036854775807) (some (.d (.c (.string (A ++ B))))) := by
  by_cases h : A.size + B.size ≤ 9223372036854775807
  · simp [evBin, vBin, vAdd, chk, h, oneC, Value.oneCell']
  · simp [evBin, vBin, vAdd, chk, h, evNilOp]
def bB : TK → Bool → Option AV
  | .bool, q => some (.d (.c (.bool q)))
  | _, _ => none
theorem bB_bool {q : Bool} : bB .bool q = some (.d (.c (.bool q))) := rfl
theorem isBool_eq : isBool ti t = match tK ti t with | .bool => true | _ => false := by
  unfold isBool tK
  cases ti t with
  | none => rfl
  | some i =>
    obtain ⟨u, _, _, _⟩ := i
    cases u <;> rfl
theorem absNil_bool {q : Bool} : absNil r (.d (.c (.bool q))) = none := rfl
theorem bin_beql {x y : Bool} : evBin ti r .eql t (.d (.c (.bool x))) (.d (.c (.bool y))) = bB (tK ti t) (x == y) := by
  have hn : evNil ti r t false (.d (.c (.bool x))) (.d (.c (.bool y))) = none := by unfold evNil; cases ti t <;> rfl
  unfold evBin vBin vEq bB
  simp only [isBool_eq]
  cases tK ti t <;> simp [oneC, chk, Value.oneCell', evNilOp, hn, evEqA]
theorem bin_bneq {x y : Bool} : evBin ti r .neq t (.d (.c (.bool x))) (.d (.c (.bool y))) = bB (tK ti t) (!(x == y)) := by
  have hn : evNil ti r t true (.d (.c (.bool x))) (.d (.c (.bool y))) = none := by unfold evNil; cases ti t <;> rfl
  unfold evBin vBin vEq bB
  simp only [isBool_eq]
  cases tK ti t <;> simp [oneC, chk, Value.oneCell', evNilOp, hn, evEqA]
/-- Against nil. -/
def nlK : TK → NK → Option (List AV) → Bool → Option AV
  | .ptr, .ptr, some _, q => some (.d (.c (.bool q)))
  | .map, .map, some _, q => some (.d (.c (.bool q)))
  | .fn, .fn, some _, q => some (.d (.c (.bool q)))
  | _, _, _, _ => none
/-- Is a name a map's? -/
def mapOf (r : Rs) (i : Nat) : Option (List AV) := match r[i]? with
  | some (some (.mpx (.m _))) => some []
  | _ => none
theorem mapOf_some {i : Nat} {l : List (D × D)} (h : r[i]? = some (some (.map l))) : mapOf r i = some [] := by unfold mapOf; rw [h]
theorem mapOf_zero {rs : Rs} {l : List (D × D)} : mapOf (some (.map l) :: rs) 0 = some [] := rfl
theorem mapOf_succ {rs : Rs} {o : Option Res} {i : Nat} : mapOf (o :: rs) (i + 1) = mapOf rs i := rfl
/-- A slice against nil, where its cells tell. -/
def nlS : TK → Bool → Bool → Option AV
  | .sl _, true, q => some (.d (.c (.bool q)))
  | _, _, _ => none
theorem nlS_sl {e : TypeId} {q : Bool} : nlS (.sl e) true q = some (.d (.c (.bool q))) := rfl
theorem nlK_ptr {l : List AV} {q : Bool} : nlK .ptr .ptr (some l) q = some (.d (.c (.bool q))) := rfl
theorem nlK_map {l : List AV} {q : Bool} : nlK .map .map (some l) q = some (.d (.c (.bool q))) := rfl
theorem nlK_fn {l : List AV} {q : Bool} : nlK .fn .fn (some l) q = some (.d (.c (.bool q))) := rfl
theorem evNil_ptr {i off : Nat} {neg : Bool} : evNil ti r t neg (.ptr i off) (.d (.c (.pointer none))) = nlK (tK ti t) .ptr (objOf r i) neg := by
  unfold evNil tK nlK
  cases ti t with
  | none => rfl
  | some i' =>
    obtain ⟨u, _, _, _⟩ := i'
    simp only [absNil]
    cases objOf r i <;> cases u <;> cases neg <;> simp [tkOf, kdOf]
theorem bin_ptr_eql {i off : Nat} : evBin ti r .eql t (.ptr i off) (.d (.c (.pointer none))) = nlK (tK ti t) .ptr (objOf r i) false := (Option.or_none).trans evNil_ptr
theorem bin_ptr_neq {i off : Nat} : evBin ti r .neq t (.ptr i off) (.d (.c (.pointer none))) = nlK (tK ti t) .ptr (objOf r i) true := (Option.or_none).trans evNil_ptr
theorem bin_el_eql {xs : List D} : evBin ti r .eql t (.el xs) (.d (.c (.pointer none))) = nlK (tK ti t) .ptr (some []) false := by
  refine (Option.or_none (o := evNil ti r t false _ _)).trans ?_
  unfold evNil tK nlK
  cases ti t with
  | none => rfl
  | some i' => obtain ⟨u, _, _, _⟩ := i'; cases u <;> simp [tkOf, kdOf, absNil]
theorem bin_el_neq {xs : List D} : evBin ti r .neq t (.el xs) (.d (.c (.pointer none))) = nlK (tK ti t) .ptr (some []) true := by
  refine (Option.or_none (o := evNil ti r t true _ _)).trans ?_
  unfold evNil tK nlK
  cases ti t with
  | none => rfl
  | some i' => obtain ⟨u, _, _, _⟩ := i'; cases u <;> simp [tkOf, kdOf, absNil]
theorem bin_dp_eql {xs : List D} : evBin ti r .eql t (.d (.p xs)) (.d (.c (.pointer none))) = nlK (tK ti t) .ptr (some []) false := by
  refine (Option.or_none (o := evNil ti r t false _ _)).trans ?_
  unfold evNil tK nlK
  cases ti t with
  | none => rfl
  | some i' => obtain ⟨u, _, _, _⟩ := i'; cases u <;> simp [tkOf, kdOf, absNil]
theorem bin_dp_neq {xs : List D} : evBin ti r .neq t (.d (.p xs)) (.d (.c (.pointer none))) = nlK (tK ti t) .ptr (some []) true := by
  refine (Option.or_none (o := evNil ti r t true _ _)).trans ?_
  unfold evNil tK nlK
  cases ti t with
  | none => rfl
  | some i' => obtain ⟨u, _, _, _⟩ := i'; cases u <;> simp [tkOf, kdOf, absNil]
theorem bin_nil_eql : evBin ti r .eql t (.d (.c (.pointer none))) (.d (.c (.pointer none))) = nlK (tK ti t) .ptr (some []) true := by
  refine (Option.or_none (o := evNil ti r t false _ _)).trans ?_
  unfold evNil tK nlK
  cases ti t with
  | none => rfl
  | some i' => obtain ⟨u, _, _, _⟩ := i'; cases u <;> simp [tkOf, kdOf, absNil]
theorem bin_nil_neq : evBin ti r .neq t (.d (.c (.pointer none))) (.d (.c (.pointer none))) = nlK (tK ti t) .ptr (some []) false := by
  refine (Option.or_none (o := evNil ti r t true _ _)).trans ?_
  unfold evNil tK nlK
  cases ti t with
  | none => rfl
  | some i' => obtain ⟨u, _, _, _⟩ := i'; cases u <;> simp [tkOf, kdOf, absNil]
theorem bin_fn_eql {f : Fn} {x y : List AV} : evBin ti r .eql t (.fn f x y) (.d (.c .nilFunc)) = nlK (tK ti t) .fn (some []) false := by
  refine (Option.or_none (o := evNil ti r t false _ _)).trans ?_
  unfold evNil tK nlK
  cases ti t with
  | none => rfl
  | some i' => obtain ⟨u, _, _, _⟩ := i'; cases u <;> simp [tkOf, kdOf, absNil]

theorem absNil_mp {i : Nat} : absNil r (.mp i) = (mapOf r i).map fun _ => (NK.map, false) := by
  simp only [absNil, mapOf]
  generalize r[i]? = q
  rcases q with _ | _ | x <;> first | rfl | (cases x <;> first | rfl | (rename_i y; cases y <;> rfl))
theorem bin_mp_eql {i : Nat} : evBin ti r .eql t (.mp i) (.d (.c (.map none))) = nlK (tK ti t) .map (mapOf r i) false := by
  refine (Option.or_none (o := evNil ti r t false _ _)).trans ?_
  unfold evNil tK nlK
  rw [absNil_mp]
  cases ti t with
  | none => rfl
  | some i' =>
    obtain ⟨u, _, _, _⟩ := i'
    cases mapOf r i <;> cases u <;> simp [tkOf, kdOf, absNil]
theorem bin_mp_neq {i : Nat} : evBin ti r .neq t (.mp i) (.d (.c (.map none))) = nlK (tK ti t) .map (mapOf r i) true := by
  refine (Option.or_none (o := evNil ti r t true _ _)).trans ?_
  unfold evNil tK nlK
  rw [absNil_mp]
  cases ti t with
  | none => rfl
  | some i' =>
    obtain ⟨u, _, _, _⟩ := i'
    cases mapOf r i <;> cases u <;> simp [tkOf, kdOf, absNil]
theorem bin_mnil_eql : evBin ti r .eql t (.d (.c (.map none))) (.d (.c (.map none))) = nlK (tK ti t) .map (some []) true := by
  refine (Option.or_none (o := evNil ti r t false _ _)).trans ?_
  unfold evNil tK nlK
  cases ti t with
  | none => rfl
  | some i' => obtain ⟨u, _, _, _⟩ := i'; cases u <;> simp [tkOf, kdOf, absNil]
theorem bin_csn_eql {n c : Nat} : evBin ti r .eql t (.d (.c (.slice none n c))) (.d (.c (.slice none 0 0))) = nlS (tK ti t) true true := by
  refine (Option.or_none (o := evNil ti r t false _ _)).trans ?_
  unfold evNil tK nlS
  cases ti t with
  | none => rfl
  | some i' => obtain ⟨u, _, _, _⟩ := i'; cases u <;> simp [tkOf, kdOf, absNil]
theorem bin_css_eql {a : Addr} {n c : Nat} : evBin ti r .eql t (.d (.c (.slice (some a) n c))) (.d (.c (.slice none 0 0))) = nlS (tK ti t) true false := by
  refine (Option.or_none (o := evNil ti r t false _ _)).trans ?_
  unfold evNil tK nlS
  cases ti t with
  | none => rfl
  | some i' => obtain ⟨u, _, _, _⟩ := i'; cases u <;> simp [tkOf, kdOf, absNil]
theorem bin_dsl_eql {sz n : Nat} {xs : List D} : evBin ti r .eql t (.d (.sl sz n xs)) (.d (.c (.slice none 0 0))) = nlS (tK ti t) (decide (0 < xs.length)) false := by
  refine (Option.or_none (o := evNil ti r t false _ _)).trans ?_
  unfold evNil tK nlS
  cases ti t with
  | none => rfl
  | some i' => obtain ⟨u, _, _, _⟩ := i'; by_cases h : 0 < xs.length <;> cases u <;> simp [tkOf, kdOf, absNil, h]
theorem bin_dsl_neq {sz n : Nat} {xs : List D} : evBin ti r .neq t (.d (.sl sz n xs)) (.d (.c (.slice none 0 0))) = nlS (tK ti t) (decide (0 < xs.length)) true := by
  refine (Option.or_none (o := evNil ti r t true _ _)).trans ?_
  unfold evNil tK nlS
  cases ti t with
  | none => rfl
  | some i' => obtain ⟨u, _, _, _⟩ := i'; by_cases h : 0 < xs.length <;> cases u <;> simp [tkOf, kdOf, absNil, h]
theorem bin_sl_eql {m : Mo} {sz n : Nat} {xs : List D} : evBin ti r .eql t (.sl m sz n xs) (.d (.c (.slice none 0 0))) = nlS (tK ti t) (decide (0 < xs.length)) false := by
  refine (Option.or_none (o := evNil ti r t false _ _)).trans ?_
  unfold evNil tK nlS
  cases ti t with
  | none => rfl
  | some i' => obtain ⟨u, _, _, _⟩ := i'; by_cases h : 0 < xs.length <;> cases u <;> simp [tkOf, kdOf, absNil, h]
theorem bin_sl_neq {m : Mo} {sz n : Nat} {xs : List D} : evBin ti r .neq t (.sl m sz n xs) (.d (.c (.slice none 0 0))) = nlS (tK ti t) (decide (0 < xs.length)) true := by
  refine (Option.or_none (o := evNil ti r t true _ _)).trans ?_
  unfold evNil tK nlS
  cases ti t with
  | none => rfl
  | some i' => obtain ⟨u, _, _, _⟩ := i'; by_cases h : 0 < xs.length <;> cases u <;> simp [tkOf, kdOf, absNil, h]

/-! ### Arrays and structs -/
theorem aggB_eq : aggB ti t = tG ti t := rfl
theorem bin_aeql {xs ys : List D} : evBin ti r .eql t (.d (.agg xs)) (.d (.agg ys)) = eqAgg (tF ti t) (tG ti t) false xs ys := by
  show (evNil ti r t false _ _).or (evEqA ti t false _ _) = _
  have : evNil ti r t false (.d (.agg xs)) (.d (.agg ys)) = none := by unfold evNil; cases ti t <;> rfl
  rw [this]; rfl
theorem bin_aneq {xs ys : List D} : evBin ti r .neq t (.d (.agg xs)) (.d (.agg ys)) = eqAgg (tF ti t) (tG ti t) true xs ys := by
  show (evNil ti r t true _ _).or (evEqA ti t true _ _) = _
  have : evNil ti r t true (.d (.agg xs)) (.d (.agg ys)) = none := by unfold evNil; cases ti t <;> rfl
  rw [this]; rfl
theorem eqAgg_some {ks : List CK} {xs ys : List D} {q : Bool} : eqAgg (some ks) true q xs ys = (eqD ks xs ys).map fun b => .d (.c (.bool (if q then !b else b))) := rfl
theorem eqD_nil : eqD [] [] [] = some true := rfl
theorem eqD_cons {k : CK} {ks : List CK} {x y : D} {xs ys : List D} : eqD (k :: ks) (x :: xs) (y :: ys) = and2 (ckD k x y) (eqD ks xs ys) := rfl
theorem ckD_int {k : IntKind} {a b : Int} : ckD .int (.c (.int k a)) (.c (.int k b)) = some (decide (a = b)) := if_pos rfl
theorem ckD_bool {a b : Bool} : ckD .bool (.c (.bool a)) (.c (.bool b)) = some (decide (a = b)) := rfl
theorem ckD_str {a b : ByteArray} : ckD .str (.c (.string a)) (.c (.string b)) = some (decide (a = b)) := rfl
theorem and2_ss {a b : Bool} : and2 (some a) (some b) = some (a && b) := rfl
theorem eqD_bytes : ∀ {n : Nat} {l m : List UInt8}, l.length = n → m.length = n → eqD (List.replicate n .int) (bD l) (bD m) = some (decide (l = m))
  | 0, [], [], _, _ => by simp [bD, eqD]
  | n + 1, a :: l, b :: m, h1, h2 => by
    rw [List.replicate_succ, ← bD_cons, ← bD_cons, eqD_cons, ckD_int, eqD_bytes (by simpa using h1) (by simpa using h2), and2_ss]
    congr 1
    have : ((a.toNat : Int) = b.toNat) ↔ a = b := by
      constructor
      · intro h; exact UInt8.toNat_inj.1 (by omega)
      · rintro rfl; rfl
    rw [Bool.eq_iff_iff]
    simp [this]
  | 0, _ :: _, _, h, _ => by simp at h
  | 0, [], _ :: _, _, h => by simp at h
  | n + 1, [], _, h, _ => by simp at h
  | n + 1, _ :: _, [], _, h => by simp at h

/-! ### What is owned -/
def obX : Option Res → Option (List AV)
  | some (.obj l) => some l
  | _ => none
theorem objOf_zero {x : Option Res} : objOf (x :: r) 0 = obX x := by
  unfold objOf obX
  rw [List.getElem?_cons_zero]
  cases x with
  | none => rfl
  | some x => cases x <;> rfl
theorem objOf_succ {x : Option Res} {i : Nat} : objOf (x :: r) (i + 1) = objOf r i := by
  unfold objOf
  rw [List.getElem?_cons_succ]
theorem obX_obj {l : List AV} : obX (some (.obj l)) = some l := rfl
def lvO (o : Option (List AV)) (a : AV) : Option AV := o.map fun _ => a
theorem lvO_some {l : List AV} {a : AV} : lvO (some l) a = some a := rfl
theorem nc_ptr {i off : Nat} : evNC r (.ptr i off) = lvO (objOf r i) (.ptr i off) := rfl
theorem nc_dp {xs : List D} : evNC r (.d (.p xs)) = some (.el xs) := rfl
theorem nc_el {xs : List D} : evNC r (.el xs) = some (.el xs) := rfl
theorem nc_fn {f : FuncId} {x y : List AV} : evNC r (.fn (.func f) x y) = some (.fn (.func f) x y) := rfl
theorem ext_tup {i : Nat} {l : List AV} : evExt i (.tup l) = l[i]? := rfl

/-! ### Conversions -/
theorem evCB_d {y : D} : evCB ti r s d (.d y) = (evSB ti s d (.d y)).map fun v => (v, r) := by
  have : evFz ti r s d (.d y) = none := by
    unfold evFz
    split
    · rename_i h; cases h
    · rfl
  unfold evCB
  rw [this]
  cases evSB ti s d (.d y) <;> rfl
theorem evCB_sl {m : Mo} {sz q : Nat} {xs : List D} : evCB ti r s d (.sl m sz q xs) = (evSB ti s d (.sl m sz q xs)).map fun v => (v, r) := by
  have : evFz ti r s d (.sl m sz q xs) = none := by
    unfold evFz
    split
    · rename_i h; cases h
    · rfl
  unfold evCB
  rw [this]
  cases evSB ti s d (.sl m sz q xs) <;> rfl
def cvI (r : Rs) : Bool → TK → Int → Option (AV × Rs)
  | true, .int k, n => some (.d (.c (.int k (k.wrap n))), r)
  | _, _, _ => none
theorem cvI_int : cvI r true (.int k) n = some (.d (.c (.int k (k.wrap n))), r) := rfl
theorem cvt_int : evCvt ti r s d (.d (.c (.int k n))) = cvI r (tI ti s) (tK ti d) n := by
  unfold evCvt; rw [evCB_d]; unfold evConv evSB tI tK
  cases ti s with
  | none => cases ti d <;> rfl
  | some i =>
    cases ti d with
    | none => rfl
    | some i' =>
      obtain ⟨u, _, _, _⟩ := i
      obtain ⟨u', _, _, _⟩ := i'
      cases u' <;> simp [tkOf, cvI]
      · cases u <;> simp [slOf] <;> split <;> simp_all
def cvS (ti : Ti) (r : Rs) : Bool → TK → ByteArray → Option (AV × Rs)
  | true, .str, s => some (.d (.c (.string s)), r)
  | true, .sl e, s => match tK ti e with
    | .int .u8 => some (.d (.sl 1 s.size (bD s.toList)), r)
    | _ => none
  | _, _, _ => none
theorem cvS_str : cvS ti r true .str A = some (.d (.c (.string A)), r) := rfl
def cvS2 (r : Rs) (A : ByteArray) : TK → Option (AV × Rs)
  | .int .u8 => some (.d (.sl 1 A.size (bD A.toList)), r)
  | _ => none
theorem cvS_sl : cvS ti r true (.sl e) A = cvS2 r A (tK ti e) := rfl
theorem cvS2_u8 : cvS2 r A (.int .u8) = some (.d (.sl 1 A.size (bD A.toList)), r) := rfl
theorem cvt_str : evCvt ti r s d (.d (.c (.string A))) = cvS ti r (tI ti s) (tK ti d) A := by
  unfold evCvt; rw [evCB_d]; unfold evConv evSB tI tK
  cases hs : ti s with
  | none => cases ti d <;> rfl
  | some i =>
    cases hd : ti d with
    | none => rfl
    | some i' =>
      obtain ⟨u, _, _, _⟩ := i
      obtain ⟨u', _, _, _⟩ := i'
      cases u' <;> simp [tkOf, cvS]
      · rename_i e
        unfold tK
        cases he : ti e with
        | none => rfl
        | some ie =>
          obtain ⟨ue, _, _, _⟩ := ie
          cases ue <;> simp [tkOf]
          rename_i k
          cases k <;> rfl
def cvL (ti : Ti) (r : Rs) : TK → TK → Option (List D) → Option (AV × Rs)
  | .sl e, .str, some xs => match tK ti e with
    | .int .u8 => (toBytes xs).map fun l => (.d (.c (.string ⟨l.toArray⟩)), r)
    | _ => none
  | _, _, _ => none
def cvL2 (r : Rs) (xs : List D) : TK → Option (AV × Rs)
  | .int .u8 => (toBytes xs).map fun l => (.d (.c (.string ⟨l.toArray⟩)), r)
  | _ => none
theorem cvL_sl {xs : List D} : cvL ti r (.sl e) .str (some xs) = cvL2 r xs (tK ti e) := rfl
theorem cvL2_u8 {xs : List D} : cvL2 r xs (.int .u8) = (toBytes xs).map fun l => (.d (.c (.string ⟨l.toArray⟩)), r) := rfl
theorem cvt_red (x : AV) (hx : (∃ sz q xs, x = .d (.sl sz q xs)) ∨ (∃ m sz q xs, x = .sl m sz q xs) ∨ x = .d (.c (.slice none 0 0))) : evCvt ti r s d x = match ti s, ti d with
    | some i, some i' => (match i'.u with
      | .string => (match i.u with
        | .slice e => (match ti e, slOf 1 x with
          | some ⟨.int .u8, _, _, _⟩, some (_, n, xs) => ((toBytes xs).map fun l => (AV.d (.c (.string ⟨l.toArray⟩)), r))
          | _, _ => none)
        | _ => none)
      | _ => none)
    | _, _ => none := by
  rcases hx with ⟨sz, q, xs, rfl⟩ | ⟨m, sz, q, xs, rfl⟩ | rfl
  all_goals
    unfold evCvt; (first | rw [evCB_d] | rw [evCB_sl]); unfold evConv evSB
    cases hs : ti s with
    | none => cases ti d <;> rfl
    | some i =>
      cases hd : ti d with
      | none => rfl
      | some i' =>
        obtain ⟨u, _, _, _⟩ := i
        obtain ⟨u', _, _, _⟩ := i'
        cases u' <;> try rfl
        cases u <;> try rfl
        rename_i e
        cases hte : ti e with
        | none => simp [hte]
        | some ie =>
          obtain ⟨ue, _, _, _⟩ := ie
          cases ue <;> try (simp [hte]; done)
          rename_i k
          cases k <;> try (simp [hte]; done)
          simp only [hte]
          cases hq : slOf 1 _ with
          | none => simp [hq]
          | some q => simp only [hq]; cases toBytes q.2.2 <;> rfl
theorem cvt_aux (x : AV) (q : Option Mo × Nat × List D) (hq : slOf 1 x = some q) (hx : (∃ n xs, x = .d (.sl 1 n xs)) ∨ (∃ m n xs, x = .sl m 1 n xs) ∨ x = .d (.c (.slice none 0 0))) : evCvt ti r s d x = cvL ti r (tK ti s) (tK ti d) (some q.2.2) := by
  rw [cvt_red x (by rcases hx with ⟨n, xs, h⟩ | ⟨m, n, xs, h⟩ | h
                    · exact .inl ⟨_, _, _, h⟩
                    · exact .inr (.inl ⟨_, _, _, _, h⟩)
                    · exact .inr (.inr h)), hq]
  unfold tK cvL
  cases ti s with
  | none => cases ti d <;> rfl
  | some i =>
    obtain ⟨u, _, _, _⟩ := i
    cases ti d with
    | none => cases u <;> rfl
    | some i' =>
      obtain ⟨u', _, _, _⟩ := i'
      cases u' <;> cases u <;> try rfl
      rename_i e
      simp only [tkOf]
      unfold tK
      cases ti e with
      | none => rfl
      | some ie =>
        obtain ⟨ue, _, _, _⟩ := ie
        cases ue <;> try rfl
        rename_i k
        cases k <;> rfl
theorem cvt_aux2 (x : AV) (hq : slOf 1 x = none) (hx : (∃ sz n xs, x = .d (.sl sz n xs)) ∨ (∃ m sz n xs, x = .sl m sz n xs)) : evCvt ti r s d x = cvL ti r (tK ti s) (tK ti d) none := by
  rw [cvt_red x (by rcases hx with h | h
                    · exact .inl h
                    · exact .inr (.inl h)), hq]
  unfold tK cvL
  cases ti s with
  | none => cases ti d <;> rfl
  | some i =>
    obtain ⟨u, _, _, _⟩ := i
    cases ti d with
    | none => cases u <;> rfl
    | some i' =>
      obtain ⟨u', _, _, _⟩ := i'
      cases u' <;> cases u <;> try rfl
      rename_i e
      simp only [tkOf]
      cases ti e with
      | none => rfl
      | some ie =>
        obtain ⟨ue, _, _, _⟩ := ie
        cases ue <;> try rfl
        rename_i k
        cases k <;> rfl
theorem cvt_dsl {sz q : Nat} {xs : List D} : evCvt ti r s d (.d (.sl sz q xs)) = cvL ti r (tK ti s) (tK ti d) (if sz = 1 then some xs else none) := by
  by_cases hz : sz = 1
  · subst hz
    exact cvt_aux (.d (.sl 1 q xs)) (none, q, xs) rfl (.inl ⟨_, _, rfl⟩)
  · rw [if_neg hz]
    exact cvt_aux2 (.d (.sl sz q xs)) (by simp [slOf, hz]) (.inl ⟨_, _, _, rfl⟩)
theorem cvt_sl {m : Mo} {sz q : Nat} {xs : List D} : evCvt ti r s d (.sl m sz q xs) = cvL ti r (tK ti s) (tK ti d) (if sz = 1 then some xs else none) := by
  by_cases hz : sz = 1
  · subst hz
    exact cvt_aux (.sl m 1 q xs) (some m, q, xs) rfl (.inr (.inl ⟨_, _, _, rfl⟩))
  · rw [if_neg hz]
    exact cvt_aux2 (.sl m sz q xs) (by simp [slOf, hz]) (.inr ⟨_, _, _, _, rfl⟩)
/-- Bytes of the call's own, as a text's bytes. -/
def cvO2 (r : Rs) (i n : Nat) (l : List AV) : TK → Option (List D) → Option (AV × Rs)
  | .int .u8, some ds => chk (0 < n ∧ n = l.length) (some (.d (.sl 1 n ds), r.set i none))
  | _, _ => none
def cvO (ti : Ti) (r : Rs) (i n : Nat) : TK → Option (List AV) → Option (AV × Rs)
  | .sl e, some l => cvO2 r i n l (tK ti e) (allD l)
  | _, _ => none
theorem cvO_sl {i n : Nat} {e : TypeId} {l : List AV} : cvO ti r i n (.sl e) (some l) = cvO2 r i n l (tK ti e) (allD l) := rfl
theorem cvO2_u8 {i n : Nat} {l : List AV} {ds : List D} : cvO2 r i n l (.int .u8) (some ds) = chk (0 < n ∧ n = l.length) (some (.d (.sl 1 n ds), r.set i none)) := rfl
theorem cvt_osl {i n : Nat} : evCvt ti r s s (.osl i 0 1 n) = cvO ti r i n (tK ti s) (objOf r i) := by
  unfold evCvt evConv evCB evSB evFz cvO tK
  cases ti s with
  | none => rfl
  | some i' =>
    obtain ⟨u, _, _, _⟩ := i'
    cases u <;> try rfl
    rename_i e
    simp only [tkOf, if_true]
    cases objOf r i with
    | none =>
      cases ti e with
      | none => rfl
      | some ie =>
        obtain ⟨ue, _, _, _⟩ := ie
        cases ue <;> try rfl
        rename_i k
        cases k <;> rfl
    | some l =>
      simp only
      cases ti e with
      | none => cases allD l <;> rfl
      | some ie =>
        obtain ⟨ue, _, _, _⟩ := ie
        cases ue <;> try rfl
        all_goals first
          | (cases allD l <;> rfl; done)
          | (rename_i k; cases h : allD l <;> cases k <;> simp [cvO2, tkOf, h])
theorem cvt_nil : evCvt ti r s d (.d (.c (.slice none 0 0))) = cvL ti r (tK ti s) (tK ti d) (some []) := cvt_aux (.d (.c (.slice none 0 0))) (some .full, 0, []) rfl (.inr (.inr rfl))
end
end Go.Proofs.Ythdjblfiiogmgaa
