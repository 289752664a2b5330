/- The frame of these proofs, part N: an operation that makes memory or writes the call's own, in one word. -/
import Derived.Test.YteeknmjjpcbphaaDoorCM
import Derived.Laws.MakeOwn
import Derived.Lib.ConvBytes
set_option linter.unusedVariables false
set_option linter.unusedSimpArgs false
namespace Go.Proofs.YteeknmjjpcbphaaDoor
open Go
variable {P : Program} {ti : Ti} {G : Nat → List D} {E : Env} {r : Rs} {w : World}

/-- A part of a list put in another's place. -/
def splice (l : List AV) (off : Nat) : List AV → List AV
  | [a] => l.set off a
  | cs => l.take off ++ cs ++ l.drop (off + cs.length)
theorem splice_eq {l : List AV} {off : Nat} : ∀ {cs : List AV}, off + cs.length ≤ l.length → splice l off cs = l.take off ++ cs ++ l.drop (off + cs.length)
  | [], _ => rfl
  | [a], h => by
    simp only [List.length_cons, List.length_nil] at h
    simp only [splice, List.length_cons, List.length_nil]
    rw [List.set_eq_take_append_cons_drop, if_pos (by omega)]
    simp
  | _ :: _ :: _, _ => rfl
def repA (zl : List AV) : Nat → List AV
  | 0 => []
  | n + 1 => zl ++ repA zl n
theorem repA_length (zl : List AV) (n : Nat) : (repA zl n).length = n * zl.length := by
  induction n with
  | zero => simp [repA]
  | succ n ih => simp [repA, ih, Nat.succ_mul, Nat.add_comm]
theorem repA_get (zl : List AV) (hz : 0 < zl.length) : ∀ (n j : Nat), j < n * zl.length → (repA zl n)[j]? = zl[j % zl.length]?
  | 0, j, h => by omega
  | n + 1, j, h => by
    simp only [repA]
    by_cases hj : j < zl.length
    · rw [List.getElem?_append_left hj, Nat.mod_eq_of_lt hj]
    · rw [List.getElem?_append_right (by omega), repA_get zl hz n _ (by rw [Nat.succ_mul] at h; omega)]
      rw [Nat.mod_eq_sub_mod (a := j) (by omega)]
theorem zeros_sound {z : Value} {zl : List AV} (h : zeroA z = some zl) {n sz : Nat} (hs : z.cells.size = sz) (hp : 0 < sz) : RAL E r w (repA zl n) ((Array.range (n * sz)).map fun i => (z.cells[i % z.cells.size]!)).toList ∧
    ∀ u ∈ ((Array.range (n * sz)).map fun i => (z.cells[i % z.cells.size]!)).toList, u.oneCell' = true := by
  obtain ⟨k1, k2⟩ := zeroA_sound (E := E) (r := r) (w := w) h
  have hl := RAL_length _ _ k1
  simp only [Array.length_toList] at hl
  have hlz : zl.length = sz := by omega
  constructor
  · refine RAL_of_get _ _ (by simp [repA_length, hlz]) fun j a ha => ?_
    have hj : j < n * sz := by
      have := (List.getElem?_eq_some_iff.1 ha).1
      rw [repA_length, hlz] at this; exact this
    rw [repA_get zl (by omega) n j (by rw [hlz]; exact hj), hlz] at ha
    obtain ⟨v, hv, hra⟩ := RAL_get _ _ k1 _ _ ha
    refine ⟨v, ?_, hra⟩
    have hm : j % sz < z.cells.size := by rw [hs]; exact Nat.mod_lt _ hp
    rw [Array.getElem?_toList] at hv
    simp only [Array.getElem?_toList, Array.getElem?_map, Array.getElem?_range, hj, if_true, Option.map_some, hs]
    rw [getElem!_pos z.cells (j % sz) hm]
    rw [Array.getElem?_eq_getElem hm] at hv
    exact hv
  · intro u hu
    simp only [Array.toList_map, List.mem_map] at hu
    obtain ⟨i, _, rfl⟩ := hu
    have hm : i % z.cells.size < z.cells.size := Nat.mod_lt _ (by omega)
    rw [getElem!_pos z.cells _ hm]
    exact k2 _ (by simp)

/-! ### Slices made of parts -/
def litO (q : Bool) (o : Option (List D)) : Option (List D) := if q = true then none else o
theorem litO_some {ti : Bool} {o : Option (List D)} {d : List D} (h : litO ti o = some d) : o = some d := by
  unfold litO at h; split at h
  · cases h
  · exact h
def evBS (ti : Ti) (r : Rs) (t : TypeId) (n : Nat) (parts : List (Nat × AV)) : Option (AV × Rs) :=
  match ti t with
  | some ⟨.slice e, _, _, _⟩ => match ti e with
    | some ie => match n with
      | 0 => if parts = [] then some (.sl .full ie.size 0 [], r) else none
      | n + 1 => match zeroA ie.zero with
        | some zl => if parts.all (fun p => liveAV r p.2) = true ∧ 0 < ie.size ∧ (n + 1) * ie.size ≤ 16777216 then
            match fillA (fun i => some (i * ie.size, ie.size)) (repA zl (n + 1)) parts with
            | some out => match litO ti.lit (allD out) with
              | some ds => some (.sl .full ie.size (n + 1) ds, r)
              | none => some (.osl r.length 0 ie.size (n + 1), r ++ [some (.obj out)])
            | none => none
          else none
        | none => none
    | none => none
  | _ => none
theorem fillA_length (place : Nat → Option (Nat × Nat)) : ∀ (pa : List (Nat × AV)) (ca out : List AV), fillA place ca pa = some out → out.length = ca.length
  | [], ca, out, e => by simp only [fillA] at e; injection e with e; subst e; rfl
  | (i, a) :: pa, ca, out, e => by
    simp only [fillA] at e
    split at e
    · split at e
      · rename_i h
        rw [fillA_length place pa _ out e]
        simp only [List.length_append, List.length_take, List.length_drop]
        omega
      · cases e
    · cases e
theorem evBS_sound (hti : TiOK P ti) (hG : Good G E r w) {t : TypeId} {n : Nat} {pa : List (Nat × AV)} {pv : Array (Nat × Value)} {v : AV} {r' : Rs} (hp : RP E r w pa pv.toList) (e : evBS ti r t n pa = some (v, r')) :
    Res1 P G E r w (Instr.buildSlice t n pv) v r' := by
  unfold evBS at e
  split at e
  · rename_i el _ _ _ hte
    have hut := ti_run hti hte w
    split at e
    · rename_i ie hie
      have hsz := ti_size hti hie w
      have hzr := ti_zero hti hie w
      obtain ⟨_, _, _, _, _, _, hzs, _⟩ := hti _ _ hie
      split at e
      · split at e
        · rename_i hpe
          subst hpe
          simp only [Option.some.injEq, Prod.mk.injEq] at e
          obtain ⟨rfl, rfl⟩ := e
          simp only [RP] at hp
          obtain ⟨E', hbl, h1, h2, h3⟩ := row_sound hG (ds := []) (vs := #[]) (by simp [RL]) el
          refine ⟨.slice (some ⟨w.heap.size, 0, none⟩) 0 0, w.alloc (.cells #[] el), E', ?_, ?_, h2, h3⟩
          · have hr0 : Array.range 0 = #[] := rfl
            simp [Instr.buildSlice, hut, hsz, hp, Instr.fill, newRow, newObj, hr0]
            rfl
          · simp only [RA]
            exact ⟨by simp, _, _, rfl, Nat.le_refl _, .inl trivial, rfl⟩
        · cases e
      · rename_i n
        split at e
        · rename_i zl hzl
          split at e
          · rename_i hc
            obtain ⟨hall, hpos, hle⟩ := hc
            split at e
            · rename_i out hout
              obtain ⟨z1, z2⟩ := zeros_sound (E := E) (r := r) (w := w) hzl (n := n + 1) hzs hpos
              obtain ⟨ov, ho1, ho2, ho3⟩ := fillA_sound hG _ pa pv.toList _ _ out hp hall z1 z2 hout
              have hnp : 0 < (n + 1) * ie.size := Nat.mul_pos (by omega) hpos
              have hrun := buildSlice_run (P := P) hut hsz hzr hle ho1 hnp
              have hlen := fillA_length _ _ _ _ hout
              rw [repA_length] at hlen
              have hzl2 : zl.length = ie.size := by
                have := RAL_length _ _ (zeroA_sound (E := E) (r := r) (w := w) hzl).1
                simp only [Array.length_toList] at this; omega
              rw [hzl2] at hlen
              split at e
              · rename_i ds hds
                simp only [Option.some.injEq, Prod.mk.injEq] at e
                obtain ⟨rfl, rfl⟩ := e
                have hrl := allD_sound out _ ds ho2 (litO_some hds) ho3
                have hdl := RL_length _ _ hrl
                have hol := RAL_length _ _ ho2
                obtain ⟨E', hbl, h1, h2, h3⟩ := row_sound hG hrl el
                refine ⟨_, _, E', hrun, ?_, h2, h3⟩
                simp only [RA]
                exact ⟨by omega, _, _, rfl, Nat.le_refl _, .inr ⟨_, rfl, h1⟩, rfl⟩
              · simp only [Option.some.injEq, Prod.mk.injEq] at e
                obtain ⟨rfl, rfl⟩ := e
                have hs := step_push hG (.cells ov el) 0 (some (.obj out))
                refine ⟨_, _, _, hrun, ?_, good_push hG (.cells ov el) 0 (.obj out) ⟨fun k hk => (by cases hk), fun l hl => ?_, fun l hl => (by cases hl)⟩, hs⟩
                · simp only [RA]
                  refine ⟨by simp, _, _, rfl, Nat.le_refl _, fun l hl => ?_⟩
                  simp at hl
                  subst hl
                  exact ⟨by omega, fun _ => ⟨_, updN_same _ _ _, rfl⟩⟩
                · injection hl with hl; subst hl
                  exact ⟨updN_same _ _ _, ov, el, heap_alloc_new w _, ho2.step hs, ho3⟩
            · cases e
          · cases e
        · cases e
    · cases e
  · cases e

/-! ### A row with room, none of it used -/
def evMk (ti : Ti) (r : Rs) (t : TypeId) (l c : AV) : Option (AV × Rs) :=
  match ti t with
  | some ⟨.slice e, _, _, _⟩ => match ti e, intOfA l, intOfA c with
    | some ie, some n, some k => chk (n = 0 ∧ 0 ≤ k ∧ (ie.bytes : Int) * k ≤ 281474976710656 ∧ k ≤ 9223372036854775807) (some (.sl (.own r.length) ie.size 0 [], r ++ [some (.tok 0)]))
    | _, _, _ => none
  | _ => none
theorem evMk_sound (hti : TiOK P ti) (hG : Good G E r w) {t : TypeId} {l c v : AV} {x y : Value} {r' : Rs} (hl : RA E r w l x) (hc : RA E r w c y) (e : evMk ti r t l c = some (v, r')) :
    Res1 P G E r w (Instr.makeSlice t x y) v r' := by
  unfold evMk at e
  split at e
  · rename_i el _ _ _ hte
    split at e
    · rename_i ie n k hie hn hk
      obtain ⟨⟨h0, h1, h2, h3⟩, e⟩ := chk_some e
      simp only [Option.some.injEq, Prod.mk.injEq] at e
      obtain ⟨rfl, rfl⟩ := e
      subst h0
      obtain ⟨kl, rfl⟩ := intOfA_sound hl hn
      obtain ⟨kc, rfl⟩ := intOfA_sound hc hk
      obtain ⟨hut, _⟩ := hti _ _ hte
      obtain ⟨_, fe, hfe, hfs, hfb, hfz, hzs, _⟩ := hti _ _ hie
      have hrun := run_make (P := P) w t el fe ie.zero hut hfe hfz kl kc 0 k (Int.le_refl _) h1 (by rw [hfb]; exact h2) h3
      have hs := step_push hG (.cells (madeCells ie.zero.cells (k.toNat * fe.size)) el) 0 (some (.tok 0))
      refine ⟨_, _, _, hrun, ?_, good_push hG _ 0 (.tok 0) ⟨fun q hq => ?_, fun q hq => (by cases hq), fun q hq => (by cases hq)⟩, hs⟩
      · simp only [RA]
        refine ⟨by simp, _, _, rfl, Nat.zero_le _, .inl trivial, by simp, fun q hq => ?_⟩
        simp at hq
        refine ⟨Nat.zero_le _, fun _ => ?_⟩
        have hbl : (Env.mk (updN E.T w.heap.size 0) (updN E.bl r.length (some w.heap.size))).bl r.length = some w.heap.size := updN_same _ _ _
        rw [hbl]
        refine ⟨rfl, el, ?_⟩
        unfold World.shape?
        rw [heap_alloc_new w _]
        simp only [size_madeCells, hfs]
      · injection hq with hq; subst hq
        exact ⟨updN_same _ _ _, _, el, heap_alloc_new w _, Nat.zero_le _⟩
    · cases e
  · cases e

/-! ### A text as bytes -/
def evSB (ti : Ti) (src dst : TypeId) (x : AV) : Option AV :=
  match ti src, ti dst, x with
  | some _, some ⟨.slice e, _, _, _⟩, .d (.c (.string s)) => match ti e with
    | some ⟨.int .u8, _, _, _⟩ => some (.d (.sl 1 s.size (bD s.toList)))
    | _ => none
  | _, _, _ => none
theorem evSB_sound (hti : TiOK P ti) (hG : Good G E r w) {src dst : TypeId} {x v : AV} {y : Value} (hx : RA E r w x y) (e : evSB ti src dst x = some v) : Res1 P G E r w (convert src dst y) v r := by
  unfold evSB at e
  split at e
  · rename_i _ _ is el _ _ _ s hs hte
    split at e
    · rename_i hel
      injection e with e; subst e
      simp only [RA, RD] at hx
      obtain ⟨rfl, _⟩ := hx
      have hrun := Lib.run_convert_string_bytes (P := P) w src dst el s (ti_u hti hs) (ti_u hti hte) (ti_u hti hel)
      have hL : Lasts E.T w (updN E.T w.heap.size s.size) (Lib.bytesWorld w el s) := by
        refine ⟨fun b => ?_, fun a ha => Lib.bytesWorld_old w el s a (hG.pub_lt ha)⟩
        by_cases hb : b = w.heap.size
        · subst hb; have := hG.fresh _ (Nat.le_refl _); omega
        · rw [updN_ne _ _ _ hb]; exact Nat.le_refl _
      have hst : Step E r w ⟨updN E.T w.heap.size s.size, E.bl⟩ r (Lib.bytesWorld w el s) := by
        refine ⟨rfl, rfl, rfl, by rw [Lib.bytesWorld_size]; omega, fun b hb _ => ⟨Lib.bytesWorld_at_old w el s b hb, updN_ne _ _ _ (by omega)⟩, fun b hb => .inl hb, hL, fun b q hq => ?_, ?_⟩
        · have hb : b < w.heap.size := by
            unfold World.shape? at hq
            rcases Nat.lt_or_ge b w.heap.size with h | h
            · exact h
            · simp [Array.getElem?_eq_none h] at hq
          unfold World.shape? at hq ⊢
          rw [Lib.bytesWorld_at_old w el s b hb]
          exact hq
        · exact ⟨Nat.le_refl _, fun i k' _ h => ⟨k', h, Nat.le_refl _, fun _ => rfl⟩, fun i l' _ h => ⟨l', h, rfl, rfl⟩, fun i l' _ h => ⟨l', h, rfl⟩⟩
      refine ⟨_, _, _, hrun, ?_, ?_, hst⟩
      · simp only [RA, RD]
        refine ⟨by rw [bD_length, toList_size]; omega, _, _, rfl, grownCap_ge w s.size 0 el, .inr ⟨_, rfl, ?_⟩⟩
        refine RM_of_values _ _ _ (RL_bD _ _ _) (fun j u hu => ?_) (by rw [bD_length, toList_size]; simp [updN_same])
        have hj := (List.getElem?_eq_some_iff.1 hu).1
        simp only [List.length_map] at hj
        rw [toList_size] at hj
        rw [addr_plain, Nat.zero_add, Lib.bytesWorld_cell w el s j hj]
        rw [List.getElem?_map, Go.ByteArray.toList_eq] at hu
        have hjl : j < s.data.toList.length := by simpa using hj
        rw [List.getElem?_eq_getElem hjl] at hu
        simp only [Option.map_some, Option.some.injEq] at hu
        rw [← hu, List.getD_eq_getElem?_getD, List.getElem?_eq_getElem hjl]
        rfl
      · refine ⟨fun i k b hi hb => ?_, fun i l hi => ?_, fun i l hi => ?_, hG.one, fun b hb => ?_, fun g => RM.lasts hL _ _ (hG.glob g)⟩
        · obtain ⟨h1, cur, e', h2, h3⟩ := hG.tok i k b hi hb
          have hlt := hG.lt hi hb
          exact ⟨(updN_ne _ _ _ (by omega)).trans h1, cur, e', (Lib.bytesWorld_at_old w el s b hlt).trans h2, h3⟩
        · obtain ⟨b, hb, h1, vs, e', h2, h3, h4⟩ := hG.obj i l hi
          have hlt := hG.lt hi hb
          exact ⟨b, hb, (updN_ne _ _ _ (by omega)).trans h1, vs, e', (Lib.bytesWorld_at_old w el s b hlt).trans h2, h3.step hst, h4⟩
        · obtain ⟨b, hb, h1, h2⟩ := hG.map i l hi
          have hlt := hG.lt hi hb
          exact ⟨b, hb, (updN_ne _ _ _ (by omega)).trans h1, h2.lasts (T' := E.T) (Lib.bytesWorld_at_old w el s b hlt) hL⟩
        · rw [Lib.bytesWorld_size] at hb
          show updN E.T w.heap.size s.size b = 0
          rw [updN_ne _ _ _ (by omega)]
          exact hG.fresh b (by omega)
    · cases e
  · cases e

/-! ### All of them -/
def evStore (ti : Ti) (r : Rs) (t : TypeId) (a x : AV) : Option (AV × Rs) :=
  match ti t, a, cellsAV x with
  | some i, .ptr o off, some cs => match objOf r o with
    | some l => if liveAV r x = true then chk (cs.length = i.size ∧ off + cs.length ≤ l.length) (some (.top, r.set o (some (.obj (splice l off cs))))) else none
    | none => none
  | _, _, _ => none
def evApp (ti : Ti) (r : Rs) (t u : TypeId) (s x : AV) : Option (AV × Rs) :=
  match ti t, ti u with
  | some ⟨.slice e, _, _, _⟩, some iu => match ti e with
    | some ie => match slOf ie.size s, srcOf ie.size x with
      | some (some mo, n, xs), some (m, ys) => match appRes r xs.length ys.length mo with
        | some (i, r') => match iu.u with
          | .slice _ => chk (0 < ie.size ∧ n + m ≤ 9223372036854775807 ∧ (n + m) * ie.bytes ≤ 140737488355328) (some (.sl (.own i) ie.size (n + m) (xs ++ ys), r'))
          | .string => chk (0 < ie.size ∧ n + m ≤ 9223372036854775807 ∧ (n + m) * ie.bytes ≤ 140737488355328) (some (.sl (.own i) ie.size (n + m) (xs ++ ys), r'))
          | _ => none
        | none => none
      | _, _ => none
    | none => none
  | _, _ => none
/-! ### Bytes of the call's own, marked as a text's -/
def evFz (ti : Ti) (r : Rs) (src dst : TypeId) (x : AV) : Option (AV × Rs) :=
  match ti src, x with
  | some ⟨.slice e, _, _, _⟩, .osl i 0 1 n => if src = dst then (match ti e, objOf r i with
    | some ⟨.int .u8, _, _, _⟩, some l => match allD l with
      | some ds => chk (0 < n ∧ n = l.length) (some (.d (.sl 1 n ds), r.set i none))
      | none => none
    | _, _ => none) else none
  | _, _ => none
theorem freeze_heap {w : World} {b : Nat} {vs : Array Value} {e : TypeId} (h : w.heap[b]? = some (.cells vs e (0, 0))) (k : Nat) : (w.freeze ⟨b, k, none⟩ 1).heap[b]? = some (.cells vs e (k, k + 1)) := by
  unfold World.freeze
  rw [if_neg (by decide)]
  show (w.heap.modify b _)[b]? = _
  rw [Array.getElem?_modify, if_pos rfl, h]
  rfl
theorem freeze_other {w : World} {b c k : Nat} (h : c ≠ b) : (w.freeze ⟨b, k, none⟩ 1).heap[c]? = w.heap[c]? := by
  unfold World.freeze
  rw [if_neg (by decide)]
  show (w.heap.modify b _)[c]? = _
  rw [Array.getElem?_modify, if_neg (Ne.symm h)]
theorem freeze_size {w : World} {b k : Nat} : (w.freeze ⟨b, k, none⟩ 1).heap.size = w.heap.size := by
  unfold World.freeze
  rw [if_neg (by decide)]
  show (w.heap.modify b _).size = _
  rw [Array.size_modify]
theorem freeze_shape {w : World} {b k : Nat} {vs : Array Value} {e : TypeId} (h : w.heap[b]? = some (.cells vs e (0, 0))) (c : Nat) : (w.freeze ⟨b, k, none⟩ 1).shape? c = w.shape? c := by
  unfold World.shape?
  by_cases hc : c = b
  · subst hc; rw [freeze_heap h, h]
  · rw [freeze_other hc]
theorem freeze_cell {w : World} {b k : Nat} {vs : Array Value} {e : TypeId} (h : w.heap[b]? = some (.cells vs e (0, 0))) (a : Addr) : (w.freeze ⟨b, k, none⟩ 1).cell? a = w.cell? a := by
  unfold World.cell?
  by_cases hc : a.block = b
  · rw [hc, freeze_heap h, h]
  · rw [freeze_other hc]
theorem getElem?_setnone {r : Rs} {i j : Nat} {x : Res} (h : (r.set i none)[j]? = some (some x)) : j ≠ i ∧ r[j]? = some (some x) := by
  rcases getElem?_set_cases h with ⟨_, h2⟩ | h2
  · cases h2
  · exact h2
theorem evFz_sound (hti : TiOK P ti) (hG : Good G E r w) {src dst : TypeId} {x v : AV} {y : Value} {r' : Rs} (hx : RA E r w x y) (e : evFz ti r src dst x = some (v, r')) : Res1 P G E r w (convert src dst y) v r' := by
  unfold evFz at e
  split at e
  · rename_i el _ _ _ i n hsrc
    split at e
    · rename_i hsd
      subst hsd
      split at e
      · rename_i l hel hl
        split at e
        · rename_i ds hds
          obtain ⟨⟨hn, hnl⟩, e⟩ := chk_some e
          simp only [Option.some.injEq, Prod.mk.injEq] at e
          obtain ⟨rfl, rfl⟩ := e
          simp only [RA] at hx
          obtain ⟨hir, A, c, rfl, hnc, hx⟩ := hx
          obtain ⟨hfit, hx⟩ := hx l (objOf_some hl)
          obtain ⟨b, hb, rfl⟩ := hx hn
          obtain ⟨b2, hb2, hT, vs, e2, hh, hral, hone⟩ := hG.obj i l (objOf_some hl)
          rw [hb] at hb2; injection hb2 with hb2; subst hb2
          have hvl := RAL_length _ _ hral
          have hrl := allD_sound l _ ds hral hds hone
          have hdl := RL_length _ _ hrl
          have hlt : b < w.heap.size := hG.lt (objOf_some hl) hb
          have hsh : w.shape? b = some (e2, vs.size) := by unfold World.shape?; rw [hh]
          have hrun : (convert src src (.slice (some ⟨b, 0, none⟩) n c)).run P w = .ok (.slice (some ⟨b, 0, none⟩) n c) (w.freeze ⟨b, vs.size, none⟩ 1) := by
            simp [convert, run_underlying (ti_u hti hsrc), run_underlying (ti_u hti hel), markStringish, hsh]
          have hL : Lasts E.T w (updN E.T b vs.size) (w.freeze ⟨b, vs.size, none⟩ 1) := by
            refine ⟨fun q => ?_, fun a _ => freeze_cell hh a⟩
            by_cases hq : q = b
            · subst hq; rw [updN_same, hT]; omega
            · rw [updN_ne _ _ _ hq]; exact Nat.le_refl _
          have hne : ∀ {j : Nat} {x : Res}, (r.set i none)[j]? = some (some x) → r[j]? = some (some x) ∧ E.bl j ≠ some b := by
            intro j x hj
            obtain ⟨hji, hj⟩ := getElem?_setnone hj
            exact ⟨hj, fun hbj => hji (hG.one j i x _ b hj (objOf_some hl) hbj hb)⟩
          have hS : Step E r w ⟨updN E.T b vs.size, E.bl⟩ (r.set i none) (w.freeze ⟨b, vs.size, none⟩ 1) := by
            refine ⟨?_, ?_, ?_, by rw [freeze_size]; exact Nat.le_refl _, fun q hq hno => ?_, fun q ⟨j, x, hj, hbj⟩ => .inl ⟨j, x, (hne hj).1, hbj⟩, hL, fun q s hs => (freeze_shape hh q).trans hs, ⟨by simp, fun j k _ hj => ?_, fun j k _ hj => ?_, fun j k _ hj => ?_⟩⟩
            · unfold World.freeze; split <;> rfl
            · unfold World.freeze; split <;> rfl
            · unfold World.freeze; split <;> rfl
            · have hqb : q ≠ b := fun h => hno ⟨i, _, objOf_some hl, h ▸ hb⟩
              exact ⟨freeze_other hqb, updN_ne _ _ _ hqb⟩
            · exact ⟨k, (hne hj).1, Nat.le_refl _, fun _ => rfl⟩
            · exact ⟨k, (hne hj).1, rfl, rfl⟩
            · exact ⟨k, (hne hj).1, rfl⟩
          refine ⟨_, _, ⟨updN E.T b vs.size, E.bl⟩, hrun, ?_, ?_, hS⟩
          · simp only [RA, RD]
            simp only [Array.length_toList] at hvl hdl
            refine ⟨by omega, _, _, rfl, hnc, .inr ⟨_, rfl, ?_⟩⟩
            refine RM_of_values _ _ vs.toList (RL.lasts hL _ _ hrl) (fun j u hj => ?_) (by simp [updN_same]; omega)
            rw [addr_plain, freeze_cell hh, cell_of_row w b _ vs e2 (0, 0) hh]
            simpa using hj
          · refine ⟨fun j k q hj hq => ?_, fun j k hj => ?_, fun j k hj => ?_, fun j k x y q hj hk hbj hbk => hG.one j k x y q (hne hj).1 (hne hk).1 hbj hbk, fun q hq => ?_, fun g => RM.lasts hL _ _ (hG.glob g)⟩
            · obtain ⟨hj, hjb⟩ := hne hj
              have hqb : q ≠ b := fun h => hjb (h ▸ hq)
              obtain ⟨h1, cur, e3, h2, h3⟩ := hG.tok j k q hj hq
              exact ⟨(updN_ne _ _ _ hqb).trans h1, cur, e3, (freeze_other hqb).trans h2, h3⟩
            · obtain ⟨hj, hjb⟩ := hne hj
              obtain ⟨q, hq, h1, vs3, e3, h2, h3, h4⟩ := hG.obj j k hj
              have hqb : q ≠ b := fun h => hjb (h ▸ hq)
              exact ⟨q, hq, (updN_ne _ _ _ hqb).trans h1, vs3, e3, (freeze_other hqb).trans h2, h3.step hS, h4⟩
            · obtain ⟨hj, hjb⟩ := hne hj
              obtain ⟨q, hq, h1, h2⟩ := hG.map j k hj
              have hqb : q ≠ b := fun h => hjb (h ▸ hq)
              exact ⟨q, hq, (updN_ne _ _ _ hqb).trans h1, h2.lasts (T' := E.T) (freeze_other hqb) hL⟩
            · rw [freeze_size] at hq
              show updN E.T b vs.size q = 0
              rw [updN_ne _ _ _ (by omega)]
              exact hG.fresh q hq
        · cases e
      · cases e
    · cases e
  · cases e
def evCB (ti : Ti) (r : Rs) (src dst : TypeId) (x : AV) : Option (AV × Rs) := match evSB ti src dst x with
  | some v => some (v, r)
  | none => evFz ti r src dst x
theorem evCB_no {ti : Ti} {r r' : Rs} {src dst : TypeId} {x v : AV} (h : ∀ e s b z, ti dst ≠ some ⟨.slice e, s, b, z⟩) : evCB ti r src dst x ≠ some (v, r') := by
  intro e
  unfold evCB at e
  split at e
  · rename_i u hu
    unfold evSB at hu
    split at hu
    · rename_i hd; exact h _ _ _ _ hd
    · cases hu
  · unfold evFz at e
    split at e
    · split at e
      · rename_i hsd
        subst hsd
        exact h _ _ _ _ (by assumption)
      · cases e
    · cases e
theorem evCB_sound (hti : TiOK P ti) (hG : Good G E r w) {src dst : TypeId} {x v : AV} {y : Value} {r' : Rs} (hx : RA E r w x y) (e : evCB ti r src dst x = some (v, r')) : Res1 P G E r w (convert src dst y) v r' := by
  unfold evCB at e
  split at e
  · rename_i u hu
    simp only [Option.some.injEq, Prod.mk.injEq] at e
    obtain ⟨rfl, rfl⟩ := e
    exact evSB_sound hti hG hx hu
  · exact evFz_sound hti hG hx e
def evR (ti : Ti) (ρ : Operand → AV) (r : Rs) : Op → Option (AV × Rs)
  | .box _ x => match cellsAV (ρ x) with
    | some cs => if liveAV r (ρ x) = true then some (.ptr r.length 0, r ++ [some (.obj cs)]) else none
    | none => none
  | .alloc e => match ti e with
    | some i => (zeroA i.zero).map fun cs => (.ptr r.length 0, r ++ [some (.obj cs)])
    | none => none
  | .store t a x => evStore ti r t (ρ a) (ρ x)
  | .buildSlice t n parts => evBS ti r t n (parts.toList.map fun p => (p.1, ρ p.2))
  | .makeSlice t l c => evMk ti r t (ρ l) (ρ c)
  | .convert s d x => evCB ti r s d (ρ x)
  | .call c => match c.callee with
    | .builtin .append => match c.args.toList, c.argTypes.toList with
      | [s, x], [t, u] => evApp ti r t u (ρ s) (ρ x)
      | _, _ => none
    | _ => none
  | _ => none
/-- What an operation comes to, as the machine sees it. -/
def Res2 (P : Program) (G : Nat → List D) (E : Env) (r : Rs) (w : World) (s : Sem Next) (v : AV) (r' : Rs) : Prop :=
  ∃ x w' E', (s.run P w = .ok (.value x) w' ∨ (s.run P w = .ok .skip w' ∧ x = undef)) ∧ RA E' r' w' v x ∧ Good G E' r' w' ∧ Step E r w E' r' w'
theorem Res1.two {s : Sem Value} {v : AV} {r' : Rs} (h : Res1 P G E r w s v r') {s' : Sem Next} (hs : ∀ x w', s.run P w = .ok x w' → s'.run P w = .ok (.value x) w') : Res2 P G E r w s' v r' := by
  obtain ⟨x, w', E', h1, h2⟩ := h
  exact ⟨x, w', E', .inl (hs x w' h1), h2⟩
theorem evR_sound (hti : TiOK P ti) (hG : Good G E r w) {ρ : Operand → AV} {α : Operand → Value} (hev : ∀ x, RA E r w (ρ x) (α x))
    {o : Oper} {v : AV} {r' : Rs} (e : evR ti ρ r o.op = some (v, r')) : Res2 P G E r w (execOp α o) v r' := by
  cases ho : o.op <;> rw [ho] at e <;> simp only [evR, reduceCtorEq] at e
  case box t x =>
    split at e
    · rename_i cs hcs
      split at e
      · rename_i hlv
        simp only [Option.some.injEq, Prod.mk.injEq] at e
        obtain ⟨rfl, rfl⟩ := e
        obtain ⟨k1, k2⟩ := cellsAV_sound hG (hev x) hcs (liveAV_sound (hev x) hlv)
        exact (box_sound (P := P) hG k1 k2 t).two fun x w' h => by simp [execOp, ho, h]
      · cases e
    · cases e
  case alloc t =>
    split at e
    · rename_i i hi
      simp only [Option.map_eq_some_iff, Prod.mk.injEq] at e
      obtain ⟨cs, hcs, rfl, rfl⟩ := e
      exact (alloc_sound hti hG hi hcs).two fun x w' h => by simp [execOp, ho, h]
    · cases e
  case store t a x =>
    unfold evStore at e
    split at e
    · rename_i i o' off cs hi ha hcs
      split at e
      · rename_i l hl
        split at e
        · rename_i hlv
          obtain ⟨⟨h1, h2⟩, e⟩ := chk_some e
          simp only [Option.some.injEq, Prod.mk.injEq] at e
          obtain ⟨rfl, rfl⟩ := e
          obtain ⟨k1, k2⟩ := cellsAV_sound hG (hev x) hcs (liveAV_sound (hev x) hlv)
          have hav := hev a
          rw [ha] at hav
          obtain ⟨w', E', h3, h4, h5⟩ := store_sound (P := P) hti hG hi hl hav k1 k2 h1 h2
          rw [splice_eq h2]
          exact ⟨undef, w', E', .inr ⟨by simp [execOp, ho, h3], rfl⟩, by simp [RA], h4, h5⟩
        · cases e
      · cases e
    · cases e
  case buildSlice t n parts =>
    exact (evBS_sound (P := P) hti hG (pv := parts.map fun p => (p.1, α p.2)) (by simpa using RP_ev hev parts.toList) e).two fun x w' h => by simp [execOp, ho, h]
  case makeSlice t l c =>
    exact (evMk_sound (P := P) hti hG (hev l) (hev c) e).two fun x w' h => by simp [execOp, ho, h]
  case convert s d x =>
    exact (evCB_sound (P := P) hti hG (hev x) e).two fun x w' h => by simp [execOp, ho, h]
  case call c =>
    split at e
    · rename_i hc
      split at e
      · rename_i s x t u hx ht
        unfold evApp at e
        split at e
        · rename_i el _ _ _ iu hte hue
          split at e
          · rename_i ie hie
            split at e
            · rename_i mo n xs m ys hsl hsr
              split at e
              · rename_i i r2 hap
                have fin : Src iu.u → (0 < ie.size ∧ n + m ≤ 9223372036854775807 ∧ (n + m) * ie.bytes ≤ 140737488355328) → v = .sl (.own i) ie.size (n + m) (xs ++ ys) → r' = r2 → Res2 P G E r w (execOp α o) v r' := by
                  rintro hsrc ⟨h1, h2, h3⟩ rfl rfl
                  refine (append_sound (P := P) (ty := o.type) hti hG hte hie hue hsrc h1 (hev s) (hev x) hsl hsr h2 h3 hap).two fun z w' h => ?_
                  simp [execOp, ho, resolve, hc, toList_two hx, toList_two ht, invoke, builtin, h]
                split at e
                · rename_i hiu
                  obtain ⟨h1, e⟩ := chk_some e
                  simp only [Option.some.injEq, Prod.mk.injEq] at e
                  exact fin (.inl ⟨_, hiu⟩) h1 e.1.symm e.2.symm
                · rename_i hiu
                  obtain ⟨h1, e⟩ := chk_some e
                  simp only [Option.some.injEq, Prod.mk.injEq] at e
                  exact fin (.inr hiu) h1 e.1.symm e.2.symm
                · cases e
              · cases e
            · cases e
          · cases e
        · cases e
      · cases e
    · cases e
end Go.Proofs.YteeknmjjpcbphaaDoor
