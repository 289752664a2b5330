/- The frame of these proofs, part M: appending. -/
import Derived.Test.YteeknmjjpcbphaaDoorCL
set_option linter.unusedVariables false
set_option linter.unusedSimpArgs false
namespace Go.Proofs.YteeknmjjpcbphaaDoor
open Go
variable {P : Program} {ti : Ti} {G : Nat → List D} {E : Env} {r : Rs} {w : World}

/-- A growing row that moves to a new block. -/
theorem names_move {i k k' : Nat} (hi : r[i]? = some (some (.tok k))) (hk : k < k') (T' : Nat → Nat) (v : Option Nat) : Names E r ⟨T', updN E.bl i v⟩ (r.set i (some (.tok k'))) := by
  refine ⟨by simp, fun j k2 _ hj => ?_, fun j l _ hj => ?_, fun j l _ hj => ?_⟩
  · rcases getElem?_set_cases hj with ⟨rfl, hy⟩ | ⟨hne, hj⟩
    · injection hy with hy; injection hy with hy; subst hy
      exact ⟨k, hi, by omega, fun h => by omega⟩
    · exact ⟨k2, hj, Nat.le_refl _, fun _ => updN_ne _ _ _ hne⟩
  · rcases getElem?_set_cases hj with ⟨rfl, hy⟩ | ⟨hne, hj⟩
    · injection hy with hy; cases hy
    · exact ⟨l, hj, rfl, updN_ne _ _ _ hne⟩
  · rcases getElem?_set_cases hj with ⟨rfl, hy⟩ | ⟨hne, hj⟩
    · injection hy with hy; cases hy
    · exact ⟨l, hj, updN_ne _ _ _ hne⟩
theorem step_move (hG : Good G E r w) {i k k' : Nat} (hi : r[i]? = some (some (.tok k))) (hk : k < k') (o : Obj) (t : Nat) :
    Step E r w ⟨updN E.T w.heap.size t, updN E.bl i (some w.heap.size)⟩ (r.set i (some (.tok k'))) (w.alloc o) := by
  refine ⟨rfl, rfl, rfl, by simp, fun b hb _ => ⟨heap_alloc_old w o b hb, updN_ne _ _ _ (by omega)⟩, fun b hb => ?_, lasts_alloc hG o t, shape_alloc w o, names_move hi hk _ _⟩
  obtain ⟨j, y, hj, hbj⟩ := hb
  rcases getElem?_set_cases hj with ⟨rfl, _⟩ | ⟨hne, hj⟩
  · rw [show (Env.bl _ j) = _ from updN_same _ _ _] at hbj
    injection hbj with hbj
    right; omega
  · rw [show (Env.bl _ j) = _ from updN_ne _ _ _ hne] at hbj
    exact .inl ⟨j, y, hj, hbj⟩
theorem good_move (hG : Good G E r w) {i k k' : Nat} (hi : r[i]? = some (some (.tok k))) (hk : k < k') {cs : Array Value} {e : TypeId} (hsz : k' ≤ cs.size) :
    Good G ⟨updN E.T w.heap.size k', updN E.bl i (some w.heap.size)⟩ (r.set i (some (.tok k'))) (w.alloc (.cells cs e)) := by
  have hs := step_move hG hi hk (.cells cs e) k'
  refine ⟨fun j k2 b hj hb => ?_, fun j l hj => ?_, fun j l hj => ?_, fun j j2 y z b hj hj2 hbj hbj2 => ?_, fun b hb => ?_, fun g => RM.lasts hs.lasts _ _ (hG.glob g)⟩
  · rcases getElem?_set_cases hj with ⟨rfl, hy⟩ | ⟨hne, hj⟩
    · injection hy with hy; injection hy with hy; subst hy
      rw [show (Env.bl _ j) = _ from updN_same _ _ _] at hb
      injection hb with hb; subst hb
      exact ⟨updN_same _ _ _, cs, e, heap_alloc_new w _, hsz⟩
    · rw [show (Env.bl _ j) = _ from updN_ne _ _ _ hne] at hb
      obtain ⟨h1, cur, e', h2, h3⟩ := hG.tok j k2 b hj hb
      have hlt := hG.lt hj hb
      exact ⟨(updN_ne _ _ _ (by omega)).trans h1, cur, e', (heap_alloc_old w _ b hlt).trans h2, h3⟩
  · rcases getElem?_set_cases hj with ⟨rfl, hy⟩ | ⟨hne, hj⟩
    · injection hy with hy; cases hy
    · obtain ⟨b, hb, h1, vs, e', h2, h3, h4⟩ := hG.obj j l hj
      have hlt := hG.lt hj hb
      exact ⟨b, (updN_ne _ _ _ hne).trans hb, (updN_ne _ _ _ (by omega)).trans h1, vs, e', (heap_alloc_old w _ b hlt).trans h2, h3.step hs, h4⟩
  · rcases getElem?_set_cases hj with ⟨rfl, hy⟩ | ⟨hne, hj⟩
    · injection hy with hy; cases hy
    · obtain ⟨b, hb, h1, h2⟩ := hG.map j l hj
      have hlt := hG.lt hj hb
      exact ⟨b, (updN_ne _ _ _ hne).trans hb, (updN_ne _ _ _ (by omega)).trans h1, h2.lasts (T' := E.T) (heap_alloc_old w _ b hlt) hs.lasts⟩
  · rcases getElem?_set_cases hj with ⟨h1, hy⟩ | ⟨hne, hj1⟩ <;> rcases getElem?_set_cases hj2 with ⟨h2, hy2⟩ | ⟨hne2, hj3⟩
    · exact h1.trans h2.symm
    · subst h1
      rw [show (Env.bl _ j) = _ from updN_same _ _ _] at hbj
      rw [show (Env.bl _ j2) = _ from updN_ne _ _ _ hne2] at hbj2
      injection hbj with hbj
      have := hG.lt hj3 hbj2; omega
    · subst h2
      rw [show (Env.bl _ j2) = _ from updN_same _ _ _] at hbj2
      rw [show (Env.bl _ j) = _ from updN_ne _ _ _ hne] at hbj
      injection hbj2 with hbj2
      have := hG.lt hj1 hbj; omega
    · rw [show (Env.bl _ j) = _ from updN_ne _ _ _ hne] at hbj
      rw [show (Env.bl _ j2) = _ from updN_ne _ _ _ hne2] at hbj2
      exact hG.one j j2 y z b hj1 hj3 hbj hbj2
  · have : b ≠ w.heap.size := by simp at hb; omega
    show updN E.T w.heap.size k' b = 0
    rw [updN_ne _ _ _ this]
    exact hG.fresh b (by simp at hb; omega)

/-- What is appended: a slice's elements, or a text's bytes. -/
def srcOf (sz : Nat) (y : AV) : Option (Nat × List D) :=
  match y with
  | .d (.c (.string s)) => if sz = 1 then some (s.size, bD s.toList) else none
  | y => match slOf sz y with
    | some (_, m, ys) => some (m, ys)
    | none => none
theorem bD_length (l : List UInt8) : (bD l).length = l.length := by simp [bD]
theorem RL_bD (T : Nat → Nat) (w : World) (l : List UInt8) : RL T w (bD l) (l.map fun b => Value.int .u8 b.toNat) := by
  induction l with
  | nil => simp [bD, RL]
  | cons b l ih =>
    simp only [bD, List.map_cons, RL]
    exact ⟨_, _, rfl, rfl, by simp [RD, Value.oneCell'], ih⟩
theorem toList_size (s : ByteArray) : s.toList.length = s.size := by rw [Go.ByteArray.toList_eq, Array.length_toList]; rfl
theorem srcOf_sound {sz m : Nat} {y : AV} {x : Value} {ys : List D} (h : RA E r w y x) (e : srcOf sz y = some (m, ys)) : ys.length = m * sz ∧ (Builtin.lenOf x).run P w = .ok m w ∧ ∃ news, RL E.T w ys news ∧
    (Builtin.firstCells sz m x).run P w = .ok news.toArray w ∧ (Builtin.firstCells sz m x).run P w.drew = .ok news.toArray w.drew := by
  unfold srcOf at e
  split at e
  · rename_i s
    split at e
    · rename_i hsz; subst hsz
      simp only [Option.some.injEq, Prod.mk.injEq] at e
      obtain ⟨rfl, rfl⟩ := e
      simp only [RA, RD] at h
      obtain ⟨rfl, _⟩ := h
      refine ⟨by rw [bD_length, toList_size]; omega, by simp [Builtin.lenOf], s.toList.map (fun b => Value.int .u8 b.toNat), RL_bD _ _ _, ?_⟩
      have hx : s.extract 0 s.size = s := by
        apply ByteArray.ext
        rw [ByteArray.data_extract]
        show s.data.extract 0 s.data.size = _
        simp
      have hd : (Array.map (fun b : UInt8 => Value.int .u8 b.toNat) s.data) = (s.toList.map (fun b => Value.int .u8 b.toNat)).toArray := by
        apply Array.ext'
        simp [Go.ByteArray.toList_eq]
      constructor <;> simp only [Builtin.firstCells, hx, Sem.run_pure, hd]
    · cases e
  · split at e
    · rename_i m' ys' hs
      simp only [Option.some.injEq, Prod.mk.injEq] at e
      obtain ⟨rfl, rfl⟩ := e
      obtain ⟨hl, A, c, rfl, hc, hr, _⟩ := slOf_sound h hs
      refine ⟨hl, by simp [Builtin.lenOf], ?_⟩
      rcases A with _ | ad
      · have hx : ys' = [] := by
          rcases hr with h0 | ⟨ad, h0, _⟩
          · exact h0
          · cases h0
        subst hx
        exact ⟨[], by simp [RL], by simp [Builtin.firstCells], by simp [Builtin.firstCells]⟩
      · have hm : RM E.T w ys' ad := by
          rcases hr with h0 | ⟨ad', h0, hm⟩
          · subst h0; simp [RM]
          · injection h0 with h0; subst h0; exact hm
        obtain ⟨us, hus, hcell⟩ := RM_values _ ad hm
        have hul := RL_length _ us hus
        exact ⟨us, hus, run_firstCells_some (P := P) w sz _ ad _ c us (by rw [hul, hl]) hcell, run_firstCells_some (P := P) w.drew sz _ ad _ c us (by rw [hul, hl]) (by simpa using hcell)⟩
    · cases e

def appRes (r : Rs) (lx ly : Nat) : Mo → Option (Nat × Rs)
  | .full => some (r.length, r ++ [some (.tok (lx + ly))])
  | .own i => match r[i]? with
    | some (some (.tok k)) => if k = lx then some (i, r.set i (some (.tok (lx + ly)))) else none
    | _ => none
  | .sp _ => none
theorem set_self {i : Nat} {x : Option Res} (h : r[i]? = some x) : r.set i x = r := by
  apply List.ext_getElem?
  intro j
  by_cases hj : i = j
  · subst hj
    have hlt := (List.getElem?_eq_some_iff.1 h).1
    simp [List.getElem?_set, hlt]
    rw [List.getElem?_eq_getElem hlt] at h
    injection h with h
    exact h.symm
  · simp [List.getElem?_set, hj]
/-- The row in a new block. -/
theorem grown_row {T' : Nat → Nat} {w' : World} {e : TypeId} {z : Value} {xs ys : List D} {olds news : List Value} {k : Nat} {w0 : World} (hw : w' = w0.alloc (.cells (olds.toArray ++ news.toArray ++ Builtin.zeroCells z.cells k) e))
    (hx : RL T' w' xs olds) (hy : RL T' w' ys news) (hT : T' w0.heap.size = xs.length + ys.length) : RM T' w' (xs ++ ys) ⟨w0.heap.size, 0, none⟩ := by
  refine RM_of_values _ _ (olds ++ news) (RL_append _ _ _ _ hx hy) (fun j u hu => ?_) (by simp [hT])
  subst hw
  rw [addr_plain, cell_of_row _ w0.heap.size _ _ e (0, 0) (heap_alloc_new w0 _)]
  have hj : j < (olds ++ news).length := (List.getElem?_eq_some_iff.1 hu).1
  rw [Nat.zero_add, Array.getElem?_append_left (by simpa using hj)]
  simpa using hu
theorem append_sound (hti : TiOK P ti) (hG : Good G E r w) {t u ty e : TypeId} {s0 b0 : Nat} {z0 : Value} {ie iu : TI} (hte : ti t = some ⟨.slice e, s0, b0, z0⟩) (hee : ti e = some ie) (hue : ti u = some iu) (hsrc : Src iu.u) (hpos : 0 < ie.size)
    {s x : AV} {sv xv : Value} (hs : RA E r w s sv) (hx : RA E r w x xv) {mo : Mo} {n m : Nat} {xs ys : List D} (hsl : slOf ie.size s = some (some mo, n, xs)) (hsr : srcOf ie.size x = some (m, ys))
    (h63 : n + m ≤ 9223372036854775807) (hb : (n + m) * ie.bytes ≤ 140737488355328) {i : Nat} {r' : Rs} (ha : appRes r xs.length ys.length mo = some (i, r')) :
    Res1 P G E r w (Builtin.append_ #[t, u] ty #[sv, xv]) (.sl (.own i) ie.size (n + m) (xs ++ ys)) r' := by
  obtain ⟨hut, _⟩ := hti _ _ hte
  obtain ⟨_, fe, hfe, hfs, hfb, hfz, hzs, _⟩ := hti _ _ hee
  obtain ⟨huu, _⟩ := hti _ _ hue
  obtain ⟨hlx, A, c, rfl, hnc, hrx, hmo⟩ := slOf_sound hs hsl
  obtain ⟨hly, hlen, news, hnews, hf1, hf2⟩ := srcOf_sound (P := P) hx hsr
  rw [← hfs] at hf1 hf2
  have hnl := RL_length _ _ hnews
  by_cases hm : m = 0
  · subst hm
    have hy0 : ys = [] := List.eq_nil_of_length_eq_zero (by simpa using hly)
    subst hy0
    have hn0 : news = [] := List.eq_nil_of_length_eq_zero (by simpa using hnl)
    subst hn0
    have hrun := app_zero (P := P) (w := w) (ty := ty) hut huu hsrc hfe hnc hlen (by simpa using hf1) (A := A)
    cases mo with
    | full =>
      simp only [appRes, Option.some.injEq, Prod.mk.injEq] at ha
      obtain ⟨rfl, rfl⟩ := ha
      have hst := step_push_none hG (some (.tok (xs.length + 0)))
      refine ⟨_, w, _, hrun, ?_, good_push_none hG _ (fun y hy => ⟨_, by injection hy with hy; exact hy.symm⟩), hst⟩
      simp only [RA, List.append_nil, Nat.add_zero]
      refine ⟨hlx, A, c, rfl, hnc, ?_, by simp, fun k hk => ?_⟩
      · rcases hrx with h0 | ⟨ad, h0, hrm⟩
        · exact .inl h0
        · exact .inr ⟨ad, h0, RM.lasts hst.lasts _ _ hrm⟩
      · simp at hk
        refine ⟨by omega, fun _ => ?_⟩
        have hbl : (Env.mk E.T (updN E.bl r.length none)).bl r.length = none := updN_same _ _ _
        rw [hbl]
        exact hmo
    | sp ys => simp [appRes] at ha
    | own j =>
      simp only [appRes] at ha
      split at ha
      · rename_i k hk
        split at ha
        · rename_i hkx
          simp only [Option.some.injEq, Prod.mk.injEq] at ha
          obtain ⟨rfl, rfl⟩ := ha
          subst hkx
          simp only [List.length_nil, Nat.add_zero, List.append_nil]
          rw [set_self hk]
          refine ⟨_, w, E, hrun, ?_, hG, Step.refl _ _ _⟩
          simp only [RA]
          exact ⟨hlx, A, c, rfl, hnc, hrx, hmo⟩
        · cases ha
      · cases ha
  · have hypos : 0 < ys.length := by rw [hly]; exact Nat.mul_pos (by omega) hpos
    have holds : ∃ olds, RL E.T w xs olds ∧ (Builtin.firstCells fe.size n (.slice A n c)).run P w.drew = .ok olds.toArray w.drew := by
      rcases A with _ | ad
      · have hx0 : xs = [] := by
          rcases hrx with h0 | ⟨ad, h0, _⟩
          · exact h0
          · cases h0
        subst hx0
        exact ⟨[], by simp [RL], by simp [Builtin.firstCells]⟩
      · have hmm : RM E.T w xs ad := by
          rcases hrx with h0 | ⟨ad', h0, hmm⟩
          · subst h0; simp [RM]
          · injection h0 with h0; subst h0; exact hmm
        obtain ⟨us, hus, hcell⟩ := RM_values _ ad hmm
        have hul := RL_length _ us hus
        exact ⟨us, hus, run_firstCells_some (P := P) w.drew fe.size _ ad _ c us (by rw [hul, hlx, hfs]) (by simpa using hcell)⟩
    obtain ⟨olds, hol, hof⟩ := holds
    have holl := RL_length _ _ hol
    have hGd := good_drew hG
    have hsd := step_drew E r w
    have grow : c < n + m → (Builtin.append_ #[t, u] ty #[.slice A n c, xv]).run P w = .ok (.slice (some ⟨w.heap.size, 0, none⟩) (n + m) (grownCap w (n + m) c e)) (w.drew.alloc (.cells (olds.toArray ++ news.toArray ++ Builtin.zeroCells ie.zero.cells (grownCap w (n + m) c e - (n + m))) e)) := fun hg =>
      app_grow (P := P) hut huu hsrc hfe hfz hof hlen hf2 hg h63 (growslice_fits (by omega) (by rw [hfb]; exact hb))
    have hcells : (olds.toArray ++ news.toArray ++ Builtin.zeroCells ie.zero.cells (grownCap w (n + m) c e - (n + m))).size = grownCap w (n + m) c e * ie.size := by
      have hge := grownCap_ge w (n + m) c e
      simp only [Array.size_append, List.size_toArray, size_zeroCells, hzs, holl, hlx, hnl, hly, ← Nat.add_mul]
      congr 1
      omega
    have hshape : (w.drew.alloc (.cells (olds.toArray ++ news.toArray ++ Builtin.zeroCells ie.zero.cells (grownCap w (n + m) c e - (n + m))) e)).shape? w.heap.size = some (e, grownCap w (n + m) c e * ie.size) := by
      unfold World.shape?
      rw [show w.heap.size = w.drew.heap.size from rfl, heap_alloc_new w.drew _]
      simp only [hcells]
    have hle : xs.length + ys.length ≤ (olds.toArray ++ news.toArray ++ Builtin.zeroCells ie.zero.cells (grownCap w (n + m) c e - (n + m))).size := by
      simp only [Array.size_append, List.size_toArray]; omega
    have hadd : (xs ++ ys).length = (n + m) * ie.size := by rw [List.length_append, hlx, hly, Nat.add_mul]
    cases mo with
    | full =>
      simp only [appRes, Option.some.injEq, Prod.mk.injEq] at ha
      obtain ⟨rfl, rfl⟩ := ha
      have hc : c = n := hmo
      have hg : c < n + m := by omega
      have hst := step_push hGd (.cells (olds.toArray ++ news.toArray ++ Builtin.zeroCells ie.zero.cells (grownCap w (n + m) c e - (n + m))) e) (xs.length + ys.length) (some (.tok (xs.length + ys.length)))
      refine ⟨_, _, _, grow hg, ?_, good_push hGd _ _ _ ⟨fun k hk => ?_, fun l hl => (by cases hl), fun l hl => (by cases hl)⟩, hsd.trans hst⟩
      · simp only [RA]
        refine ⟨hadd, _, _, rfl, grownCap_ge w (n + m) c e, .inr ⟨_, rfl, ?_⟩, by simp, fun k hk => ?_⟩
        · exact grown_row (w0 := w.drew) rfl (RL.lasts (hsd.trans hst).lasts _ _ hol) (RL.lasts (hsd.trans hst).lasts _ _ hnews) (updN_same _ _ _)
        · simp at hk
          refine ⟨by simp [hk], fun _ => ?_⟩
          have hbl : (Env.mk (updN E.T w.drew.heap.size (xs.length + ys.length)) (updN E.bl r.length (some w.drew.heap.size))).bl r.length = some w.heap.size := updN_same _ _ _
          rw [hbl]
          exact ⟨rfl, e, hshape⟩
      · injection hk with hk; subst hk
        exact ⟨updN_same _ _ _, _, e, heap_alloc_new w.drew _, hle⟩
    | sp ys => simp [appRes] at ha
    | own j =>
      simp only [appRes] at ha
      split at ha
      · rename_i k hk
        split at ha
        · rename_i hkx
          simp only [Option.some.injEq, Prod.mk.injEq] at ha
          obtain ⟨rfl, rfl⟩ := ha
          subst hkx
          obtain ⟨_, hmode⟩ := (hmo.2 _ hk)
          have hmode := hmode rfl
          have moved : c < n + m → Res1 P G E r w (Builtin.append_ #[t, u] ty #[.slice A n c, xv]) (.sl (.own j) ie.size (n + m) (xs ++ ys)) (r.set j (some (.tok (xs.length + ys.length)))) := by
            intro hg
            have hst := step_move hGd hk (by omega : xs.length < xs.length + ys.length) (.cells (olds.toArray ++ news.toArray ++ Builtin.zeroCells ie.zero.cells (grownCap w (n + m) c e - (n + m))) e) (xs.length + ys.length)
            refine ⟨_, _, _, grow hg, ?_, good_move hGd hk (by omega) hle, hsd.trans hst⟩
            simp only [RA]
            refine ⟨hadd, _, _, rfl, grownCap_ge w (n + m) c e, .inr ⟨_, rfl, ?_⟩, by simpa using hmo.1, fun k hk' => ?_⟩
            · exact grown_row (w0 := w.drew) rfl (RL.lasts (hsd.trans hst).lasts _ _ hol) (RL.lasts (hsd.trans hst).lasts _ _ hnews) (updN_same _ _ _)
            · rcases getElem?_set_cases hk' with ⟨_, hy⟩ | ⟨hne, _⟩
              · injection hy with hy; injection hy with hy
                refine ⟨by simp [hy], fun _ => ?_⟩
                have hbl : (Env.mk (updN E.T w.drew.heap.size (xs.length + ys.length)) (updN E.bl j (some w.drew.heap.size))).bl j = some w.heap.size := updN_same _ _ _
                rw [hbl]
                exact ⟨rfl, e, hshape⟩
              · exact absurd rfl hne
          cases hbj : E.bl j with
          | none =>
            rw [hbj] at hmode
            have hc : c = n := hmode
            exact moved (by omega)
          | some b =>
            rw [hbj] at hmode
            obtain ⟨rfl, e', hsh⟩ := hmode
            by_cases hroom : n + m ≤ c
            · obtain ⟨hTb, cur, e2, hheap, hle2⟩ := hG.tok j _ b hk hbj
              have hcur : cur.size = c * ie.size := by
                unfold World.shape? at hsh
                rw [hheap] at hsh
                simp at hsh
                exact hsh.2
              have hfit : n * fe.size + news.length ≤ cur.size := by
                rw [hfs, hnl, hly, ← Nat.add_mul, hcur]
                exact Nat.mul_le_mul_right _ hroom
              have hl0 : n * fe.size = xs.length := by rw [hfs, hlx]
              have hrun := app_room (P := P) (w := w) (ty := ty) hut huu hsrc hfe hheap hlen hf1 (RL_one _ _ hnews) hroom hfit
              rw [hl0] at hrun hfit
              have hsz2 : (cur.toList.take xs.length ++ news ++ cur.toList.drop (xs.length + news.length)).toArray.size = cur.size := by
                simp only [List.size_toArray, List.length_append, List.length_take, List.length_drop, Array.length_toList]
                omega
              have hpre : ∀ q, q < E.T b → (cur.toList.take xs.length ++ news ++ cur.toList.drop (xs.length + news.length)).toArray[q]? = cur[q]? := by
                intro q hq
                rw [hTb] at hq
                simp only [List.getElem?_toArray]
                rw [List.append_assoc, List.getElem?_append_left (by simp; omega), List.getElem?_take, if_pos hq]
                simp
              have hst := step_setRow hG (x' := .tok (xs.length + ys.length)) (t' := xs.length + ys.length) hk hbj hheap hsz2 (by omega) hpre (.inl ⟨_, _, rfl, rfl, by omega⟩)
              have hgd := good_setRow hG (x' := .tok (xs.length + ys.length)) (t' := xs.length + ys.length) hk hbj hheap hsz2 (by omega) hpre (.inl ⟨_, _, rfl, rfl, by omega, rfl, by omega⟩)
              refine ⟨_, _, _, hrun, ?_, hgd, hst⟩
              simp only [RA]
              refine ⟨hadd, _, _, rfl, hroom, .inr ⟨_, rfl, ?_⟩, by simpa using hmo.1, fun k' hk' => ?_⟩
              · have hx1 : RM (updN E.T b (xs.length + ys.length)) (w.setRow b (cur.toList.take xs.length ++ news ++ cur.toList.drop (xs.length + news.length)).toArray) xs ⟨b, 0, none⟩ := by
                  rcases hrx with h0 | ⟨ad, h0, hrm⟩
                  · subst h0; simp [RM]
                  · injection h0 with h0; subst h0; exact RM.lasts hst.lasts _ _ hrm
                refine RM_append _ _ _ hx1 ?_
                refine RM_of_values _ _ news (RL.lasts hst.lasts _ _ hnews) (fun q v hq => ?_) (by rw [addr_plain]; simp [updN_same])
                have hql : q < news.length := (List.getElem?_eq_some_iff.1 hq).1
                rw [addr_plain, addr_plain, cell_of_row _ b _ _ e2 (0, 0) (setRow_heap w b cur _ e2 (0, 0) hheap)]
                simp only [List.getElem?_toArray, Nat.zero_add]
                have htl : (cur.toList.take xs.length).length = xs.length := by simp; omega
                rw [List.append_assoc, List.getElem?_append_right (by omega), htl, Nat.add_sub_cancel_left, List.getElem?_append_left hql]
                exact hq
              · rcases getElem?_set_cases hk' with ⟨_, hy⟩ | ⟨hne, _⟩
                · injection hy with hy; injection hy with hy
                  refine ⟨by simp [hy], fun _ => ?_⟩
                  show match E.bl j with
                    | none => c = n + m
                    | some b_1 => _
                  rw [hbj]
                  exact ⟨rfl, e', hst.shape _ _ hsh⟩
                · exact absurd rfl hne
            · exact moved (by omega)
        · cases ha
      · cases ha
end Go.Proofs.YteeknmjjpcbphaaDoor
