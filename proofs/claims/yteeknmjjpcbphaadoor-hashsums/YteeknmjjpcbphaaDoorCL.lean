/- The frame of these proofs, part L: operations that make memory or write the call's own. -/
import Derived.Test.YteeknmjjpcbphaaDoorCK
set_option linter.unusedVariables false
set_option linter.unusedSimpArgs false
namespace Go.Proofs.YteeknmjjpcbphaaDoor
open Go

/-- What an operation comes to. -/
def Res1 (P : Program) (G : Nat → List D) (E : Env) (r : Rs) (w : World) (s : Sem Value) (v : AV) (r' : Rs) : Prop :=
  ∃ x w' E', s.run P w = .ok x w' ∧ RA E' r' w' v x ∧ Good G E' r' w' ∧ Step E r w E' r' w'

variable {P : Program} {ti : Ti} {G : Nat → List D} {E : Env} {r : Rs} {w : World}

/-! ### A struct, array or number of the call's own -/
theorem box_sound (hG : Good G E r w) {cs : List AV} {x : Value} (hc : RAL E r w cs x.cells.toList) (h1 : ∀ u ∈ x.cells.toList, u.oneCell' = true) (e : TypeId) :
    Res1 P G E r w (Instr.box e x) (.ptr r.length 0) (r ++ [some (.obj cs)]) := by
  have hs := step_push hG (.cells x.cells e) 0 (some (.obj cs))
  refine ⟨.pointer (some ⟨w.heap.size, 0, none⟩), w.alloc (.cells x.cells e), ⟨updN E.T w.heap.size 0, updN E.bl r.length (some w.heap.size)⟩, by simp [Instr.box, newVar, newRow, newObj]; rfl, ?_, ?_, hs⟩
  · simp only [RA]
    exact ⟨by simp, fun l hl => ⟨w.heap.size, updN_same _ _ _, rfl⟩⟩
  · refine good_push hG _ _ _ ⟨fun k hk => (by cases hk), fun l hl => ?_, fun l hl => (by cases hl)⟩
    injection hl with hl; subst hl
    exact ⟨updN_same _ _ _, x.cells, e, heap_alloc_new w _, hc.step hs, h1⟩
theorem alloc_sound (hti : TiOK P ti) (hG : Good G E r w) {t : TypeId} {i : TI} (hi : ti t = some i) {cs : List AV} (hz : zeroA i.zero = some cs) :
    Res1 P G E r w (Instr.alloc t true (.tuple #[])) (.ptr r.length 0) (r ++ [some (.obj cs)]) := by
  obtain ⟨k1, k2⟩ := zeroA_sound (E := E) (r := r) (w := w) hz
  obtain ⟨x, w', E', h1, h2⟩ := box_sound (P := P) hG (x := i.zero) k1 k2 t
  refine ⟨x, w', E', ?_, h2⟩
  have hzr := ti_zero hti hi w
  simp only [Instr.box, Sem.run_bind] at h1
  simp only [Instr.alloc, Sem.run_bind, hzr, Result.andThen_ok]
  exact h1
theorem store_sound (hti : TiOK P ti) (hG : Good G E r w) {t : TypeId} {i : TI} (hi : ti t = some i) {o off : Nat} {l cs : List AV} (ho : objOf r o = some l) {x y : Value} (hx : RA E r w (.ptr o off) x) (hc : RAL E r w cs y.cells.toList)
    (h1 : ∀ u ∈ y.cells.toList, u.oneCell' = true) (hsz : cs.length = i.size) (hfit : off + cs.length ≤ l.length) :
    ∃ w' E', (Instr.storeAt t x y).run P w = .ok () w' ∧ Good G E' (r.set o (some (.obj (l.take off ++ cs ++ l.drop (off + cs.length))))) w' ∧ Step E r w E' (r.set o (some (.obj (l.take off ++ cs ++ l.drop (off + cs.length))))) w' := by
  simp only [RA] at hx
  obtain ⟨b, hb, rfl⟩ := hx.2 l (objOf_some ho)
  obtain ⟨b', vs, el, hb', hh, hral, hone, hcell⟩ := obj_cell hG ho
  rw [hb] at hb'; injection hb' with hb'; subst hb'
  have hT : E.T b = 0 := by
    obtain ⟨b', hb2, hT, _⟩ := hG.obj o l (objOf_some ho)
    rw [hb] at hb2; injection hb2 with hb2; subst hb2; exact hT
  have hl := RAL_length l _ hral
  have hcl := RAL_length cs _ hc
  have hsize := ti_size hti hi w
  have hst := run_storeCells_at P b off el y.cells.toList 0 vs w hh (by simp only [Array.length_toList] at hl; rw [hcl]; omega) h1
  simp only [Nat.add_zero] at hst
  have hlen : (l.take off ++ cs ++ l.drop (off + cs.length)).length = l.length := by
    simp only [List.length_append, List.length_take, List.length_drop]; omega
  have hsz2 : (vs.toList.take off ++ y.cells.toList ++ vs.toList.drop (off + y.cells.toList.length)).toArray.size = vs.size := by
    simp only [List.size_toArray, List.length_append, List.length_take, List.length_drop, Array.length_toList]
    simp only [Array.length_toList] at hl hcl
    omega
  have hs := step_setRow hG (x' := .obj (l.take off ++ cs ++ l.drop (off + cs.length))) (t' := 0) (objOf_some ho) hb hh hsz2 (by omega) (by intro j hj; omega) (.inr ⟨_, _, rfl, rfl, hlen.symm⟩)
  refine ⟨_, ⟨updN E.T b 0, E.bl⟩, ?_, ?_, hs⟩
  · simp only [Instr.storeAt, Instr.sureAddr, storeVar, Sem.run_bind, Sem.run_pure, Result.andThen_ok, hsize]
    rw [if_neg (by simp only [Array.length_toList] at hcl; omega)]
    exact hst
  · refine good_setRow hG (objOf_some ho) hb hh hsz2 (by omega) (by intro j hj; omega) (.inr ⟨_, _, rfl, rfl, hlen.symm, rfl, ?_, ?_⟩)
    · intro u hu
      simp only [List.mem_append] at hu
      rcases hu with (hu | hu) | hu
      · exact hone u (List.mem_of_mem_take hu)
      · exact h1 u hu
      · exact hone u (List.mem_of_mem_drop hu)
    · show RAL _ _ _ _ (_ ++ _ ++ _)
      rw [← hcl] at hs ⊢
      exact RAL_append _ _ _ _ (RAL_append _ _ _ _ (RAL_take _ _ (hral.step hs) _) (hc.step hs)) (RAL_drop _ _ (hral.step hs) _)

/-! ### A row that is laid -/
theorem row_sound (hG : Good G E r w) {ds : List D} {vs : Array Value} (hr : RL E.T w ds vs.toList) (e : TypeId) :
    ∃ E', E'.bl = E.bl ∧ RM E'.T (w.alloc (.cells vs e)) ds ⟨w.heap.size, 0, none⟩ ∧ Good G E' r (w.alloc (.cells vs e)) ∧ Step E r w E' r (w.alloc (.cells vs e)) := by
  have hs := step_alloc hG (.cells vs e) ds.length
  refine ⟨⟨updN E.T w.heap.size ds.length, E.bl⟩, rfl, ?_, good_alloc hG _ _, hs⟩
  refine RM_of_values ds _ vs.toList (RL.lasts hs.lasts _ _ hr) (fun j u hu => ?_) (by simp [updN_same])
  rw [addr_plain, cell_of_row _ w.heap.size _ vs e (0, 0) (heap_alloc_new w _)]
  simpa using hu
theorem buildSlice_run {t e : TypeId} {n size : Nat} {pv : Array (Nat × Value)} {cells : Array Value} {z : Value} (ht : (underlying t).run P w = .ok (.slice e) w) (hs : (sizeOf e).run P w = .ok size w) (hz : (zeroValue e).run P w = .ok z w) (hle : n * size ≤ 16777216)
    (hf : Instr.fill (fun i => some (i * size, size)) ((Array.range (n * size)).map fun i => (z.cells[i % z.cells.size]!)) pv.toList = some cells) (hpos : 0 < n * size) :
    (Instr.buildSlice t n pv).run P w = .ok (.slice (some ⟨w.heap.size, 0, none⟩) n n) (w.alloc (.cells cells e)) := by
  have h1 : ¬ (n * size > 2 ^ 24) := by omega
  have h2 : ¬ (n * size = 0) := by omega
  simp only [Instr.buildSlice, Sem.run_bind, ht, hs, Result.andThen_ok, if_neg h1, if_neg h2, hz, Sem.run_pure, hf]
  simp [newRow, newObj]
  rfl

/-! ### Appending -/
def Src (d : TypeDesc) : Prop := (∃ e, d = .slice e) ∨ d = .string
theorem app_zero {t u ty e : TypeId} {d : TypeDesc} {i : TypeInfo} (ht : P.underlying t = some (.slice e)) (hu : P.underlying u = some d) (hd : Src d) (hi : P.info? e = some i) {A : Option Addr} {n c : Nat} (hnc : n ≤ c) {x : Value}
    (hl : (Builtin.lenOf x).run P w = .ok 0 w) (hf : (Builtin.firstCells i.size 0 x).run P w = .ok #[] w) : (Builtin.append_ #[t, u] ty #[.slice A n c, x]).run P w = .ok (.slice A n c) w := by
  rcases hd with ⟨e', rfl⟩ | rfl <;> cases A <;> simp [Builtin.append_, run_underlying ht, run_underlying hu, sizeOf, typeInfo, hi, hl, hf, hnc, storeCells]
theorem app_room {t u ty e e2 : TypeId} {d : TypeDesc} {i : TypeInfo} (ht : P.underlying t = some (.slice e)) (hu : P.underlying u = some d) (hd : Src d) (hi : P.info? e = some i) {g n c m : Nat} {cur : Array Value}
    (hg : w.heap[g]? = some (.cells cur e2 (0, 0))) {x : Value} {news : List Value} (hl : (Builtin.lenOf x).run P w = .ok m w) (hf : (Builtin.firstCells i.size m x).run P w = .ok news.toArray w) (h1 : ∀ u ∈ news, u.oneCell' = true)
    (hroom : n + m ≤ c) (hfit : n * i.size + news.length ≤ cur.size) :
    (Builtin.append_ #[t, u] ty #[.slice (some ⟨g, 0, none⟩) n c, x]).run P w = .ok (.slice (some ⟨g, 0, none⟩) (n + m) c) (w.setRow g (cur.toList.take (n * i.size) ++ news ++ cur.toList.drop (n * i.size + news.length)).toArray) := by
  have hst := run_storeCells_at P g (n * i.size) e2 news 0 cur w hg (by simpa using hfit) h1
  simp only [Nat.add_zero] at hst
  have ha : (⟨g, 0, none⟩ : Addr).add (n * i.size) = ⟨g, n * i.size, none⟩ := by rw [addr_plain, Nat.zero_add]
  rcases hd with ⟨e', rfl⟩ | rfl <;> simp [Builtin.append_, run_underlying ht, run_underlying hu, sizeOf, typeInfo, hi, hl, hf, hroom, ha, hst]
theorem app_grow {t u ty e : TypeId} {d : TypeDesc} {i : TypeInfo} {z : Value} (ht : P.underlying t = some (.slice e)) (hu : P.underlying u = some d) (hd : Src d) (hi : P.info? e = some i) (hz : i.zero = some z) {A : Option Addr} {n c m : Nat} {x : Value}
    {olds news : List Value} (ho : (Builtin.firstCells i.size n (.slice A n c)).run P w.drew = .ok olds.toArray w.drew) (hl : (Builtin.lenOf x).run P w = .ok m w) (hf : (Builtin.firstCells i.size m x).run P w.drew = .ok news.toArray w.drew)
    (hg : c < n + m) (h63 : n + m ≤ 9223372036854775807) (hb : Builtin.nextslicecap (n + m) c * i.bytes ≤ 281474976710656) :
    (Builtin.append_ #[t, u] ty #[.slice A n c, x]).run P w =
      .ok (.slice (some ⟨w.heap.size, 0, none⟩) (n + m) (grownCap w (n + m) c e)) (w.drew.alloc (.cells (olds.toArray ++ news.toArray ++ Builtin.zeroCells z.cells (grownCap w (n + m) c e - (n + m))) e)) := by
  have hn : ¬ (n + m ≤ c) := by omega
  have h1 : ¬ ((9223372036854775807 : Int) < ((n : Int) + (m : Int))) := by omega
  have h2 : ¬ (281474976710656 < Builtin.nextslicecap (n + m) c * i.bytes) := by omega
  rcases hd with ⟨e', rfl⟩ | rfl
  · simp [Builtin.append_, run_underlying ht, run_underlying hu, sizeOf, typeInfo, zeroValue, hi, hz, hl, hn, h1, h2, Question.forced, hf, ho, newRow, grownCap]
    congr 2
    apply Array.ext'
    simp [List.append_assoc]
  · simp [Builtin.append_, run_underlying ht, run_underlying hu, sizeOf, typeInfo, zeroValue, hi, hz, hl, hn, h1, h2, Question.forced, hf, ho, newRow, grownCap]
    congr 2
    apply Array.ext'
    simp [List.append_assoc]
end Go.Proofs.YteeknmjjpcbphaaDoor
