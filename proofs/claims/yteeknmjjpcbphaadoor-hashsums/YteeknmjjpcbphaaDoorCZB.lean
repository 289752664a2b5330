/- The frame of these proofs, part ZB: a region that draws its order is reckoned in one order: the others come to the same. -/
import Derived.Test.YteeknmjjpcbphaaDoorCZ
set_option linter.unusedVariables false
set_option linter.unusedSimpArgs false
namespace Go.Proofs.YteeknmjjpcbphaaDoor
open Go
section
variable {P : Program} {ti : Ti} {ops : Array Oper} {w : World}
theorem yat_same {o : Oper} {x : Value} {a a' : Act} (hy : yat P ops w o x a) (he : execOp a'.eval o = execOp a.eval o) (hw : Region.wanted o (yielded ops a'.tmps) = Region.wanted o (yielded ops a.tmps)) : yat P ops w o x a' := by
  unfold yat at *
  rw [he, hw]
  exact hy
theorem yatS_same {o : Oper} {x : Value} {a a' : Act} (hy : yatS P ti ops w o x a) (he : execOp a'.eval o = execOp a.eval o) (hw : Region.wanted o (yielded ops a'.tmps) = Region.wanted o (yielded ops a.tmps)) : yatS P ti ops w o x a' :=
  fun w' h => yat_same (hy w' h) he hw
theorem chainS_move (hs : Region.noSelect ops = true) {e : Ent} {r2 : List Ent} (he : ops[e.1]? = some e.2.1) : ∀ (r1 : List Ent) (a : Act), (∀ f ∈ r1, f.2.1.apart ops e.2.1 = true) → (∀ f ∈ r1, ops[f.1]? = some f.2.1) → chainS P ti ops w (r1 ++ e :: r2) a →
    yatS P ti ops w e.2.1 e.2.2 a ∧ chainS P ti ops w (r1 ++ r2) (a.put e.2.1.dst e.2.2) ∧ puts (r1 ++ e :: r2) a = puts (r1 ++ r2) (a.put e.2.1.dst e.2.2)
  | [], a, _, _, h => ⟨h.1, h.2, rfl⟩
  | f :: r1, a, hap, hop, h => by
    obtain ⟨h1, h2, h3⟩ := Oper.apart_spec (hap f (by simp))
    have hsel := Region.noSelect_spec hs
    obtain ⟨hy, hc, hp⟩ := chainS_move hs he r1 (a.put f.2.1.dst f.2.2) (fun g hg => hap g (by simp [hg])) (fun g hg => hop g (by simp [hg])) h.2
    have hcomm : (a.put e.2.1.dst e.2.2).put f.2.1.dst f.2.2 = (a.put f.2.1.dst f.2.2).put e.2.1.dst e.2.2 := (Act.put_comm a f.2.2 e.2.2 h2).symm
    refine ⟨yatS_same hy (execOp_put e.2.1 (hsel _ _ · · he) a _ _ h1).symm (wanted_put e.2.1 a _ _ h1).symm, ⟨yatS_same h.1 (execOp_put f.2.1 (hsel _ _ · · (hop f (by simp))) a _ _ h3) (wanted_put f.2.1 a _ _ h3), ?_⟩, ?_⟩
    · rw [hcomm]; exact hc
    · show puts (r1 ++ e :: r2) (a.put f.2.1.dst f.2.2) = puts (r1 ++ r2) ((a.put e.2.1.dst e.2.2).put f.2.1.dst f.2.2)
      rw [hcomm]; exact hp
theorem chainS_front (hs : Region.noSelect ops = true) {i : Nat} {o : Oper} (ho : ops[i]? = some o) : ∀ (rem : List Ent) (a : Act), (∀ f ∈ rem, f.2.1.apart ops o = true) → (∀ f ∈ rem, ops[f.1]? = some f.2.1) → chainS P ti ops w rem a →
    execOp (puts rem a).eval o = execOp a.eval o ∧ Region.wanted o (yielded ops (puts rem a).tmps) = Region.wanted o (yielded ops a.tmps) ∧ (∀ x, puts rem (a.put o.dst x) = (puts rem a).put o.dst x) ∧ ∀ x w', (∀ f ∈ rem, pureOp ti f.2.1.op = true ∨ (stOp ti f.2.1.op = true ∧ Keeps w w')) → chainS P ti ops w' rem (a.put o.dst x)
  | [], a, _, _, _ => ⟨rfl, rfl, fun _ => rfl, fun _ _ _ => trivial⟩
  | f :: rem, a, hap, hop, h => by
    obtain ⟨h1, h2, h3⟩ := Oper.apart_spec (hap f (by simp))
    have hsel := Region.noSelect_spec hs
    obtain ⟨k1, k2, k3, k4⟩ := chainS_front hs ho rem (a.put f.2.1.dst f.2.2) (fun g hg => hap g (by simp [hg])) (fun g hg => hop g (by simp [hg])) h.2
    have hcomm : ∀ x, (a.put o.dst x).put f.2.1.dst f.2.2 = (a.put f.2.1.dst f.2.2).put o.dst x := fun x => (Act.put_comm a f.2.2 x h2).symm
    refine ⟨k1.trans (execOp_put o (hsel _ _ · · ho) a _ _ h1), k2.trans (wanted_put o a _ _ h1), fun x => ?_, fun x w' hpu => ⟨fun w'' hw'' => ?_, ?_⟩⟩
    · show puts rem ((a.put o.dst x).put f.2.1.dst f.2.2) = _
      rw [hcomm]; exact k3 x
    · refine yat_same (h.1 w'' ?_) (execOp_put f.2.1 (hsel _ _ · · (hop f (by simp))) a _ _ h3) (wanted_put f.2.1 a _ _ h3)
      rcases hpu f (by simp) with h4 | ⟨h4, h5⟩
      · exact .inl h4
      · rcases hw'' with h6 | ⟨_, h6⟩ | rfl
        · exact .inl h6
        · exact .inr (.inl ⟨h4, h5.trans h6⟩)
        · exact .inr (.inl ⟨h4, h5⟩)
    · rw [hcomm]; exact k4 x w' (fun g hg => hpu g (by simp [hg]))
theorem chainS_snoc {e : Ent} : ∀ (rem : List Ent) (a : Act), chainS P ti ops w rem a → yatS P ti ops w e.2.1 e.2.2 (puts rem a) → chainS P ti ops w (rem ++ [e]) a ∧ puts (rem ++ [e]) a = (puts rem a).put e.2.1.dst e.2.2
  | [], a, _, hy => ⟨⟨hy, trivial⟩, rfl⟩
  | f :: rem, a, h, hy => by
    obtain ⟨h1, h2⟩ := chainS_snoc rem _ h.2 hy
    exact ⟨⟨h.1, h1⟩, h2⟩

/-! ### What waits for what -/
theorem shl_bit {i j : Nat} : (1 <<< i : Nat).testBit j = decide (i = j) := by
  rw [Nat.testBit_shiftLeft]
  by_cases h : i = j
  · subst h; simp
  · simp only [h, decide_false]
    by_cases hj : j ≥ i
    · simp only [hj, decide_true, Bool.true_and]
      have : j - i ≠ 0 := by omega
      cases hq : Nat.testBit 1 (j - i) with
      | false => rfl
      | true => rw [Nat.testBit_one_eq_true_iff_self_eq_zero] at hq; omega
    · simp [hj]
theorem fold_wmask {k i : Nat} {L : Nat → Nat} {b : Nat} : ∀ (l : List Edge) (acc : Nat), (l.foldl (fun acc x => if (Region.binds .any x && decide (k ≤ x.on) && decide (x.on < i)) = true then acc ||| (1 <<< (x.on - k) ||| L (x.on - k)) else acc) acc).testBit b = true →
    acc.testBit b = true ∨ ∃ x ∈ l, Region.binds .any x = true ∧ k ≤ x.on ∧ x.on < i ∧ (x.on - k = b ∨ (L (x.on - k)).testBit b = true)
  | [], acc, h => .inl h
  | x :: l, acc, h => by
    simp only [List.foldl_cons] at h
    rcases fold_wmask l _ h with h1 | ⟨y, hy, h2⟩
    · split at h1
      · rename_i hc
        simp only [Bool.and_eq_true, decide_eq_true_eq] at hc
        simp only [Nat.testBit_or, Bool.or_eq_true, shl_bit, decide_eq_true_eq] at h1
        rcases h1 with h1 | h1 | h1
        · exact .inl h1
        · exact .inr ⟨x, by simp, hc.1.1, hc.1.2, hc.2, .inl h1⟩
        · exact .inr ⟨x, by simp, hc.1.1, hc.1.2, hc.2, .inr h1⟩
      · exact .inl h1
    · exact .inr ⟨y, by simp [hy], h2⟩
theorem wmask_spec {k i : Nat} {L : Nat → Nat} {b : Nat} (h : (wmask ops k L i).testBit b = true) : ∃ o, ops[i]? = some o ∧ ∃ x ∈ o.after, Region.binds .any x = true ∧ k ≤ x.on ∧ x.on < i ∧ (x.on - k = b ∨ (L (x.on - k)).testBit b = true) := by
  unfold wmask at h
  split at h
  · rename_i o ho
    rcases fold_wmask _ _ h with h | ⟨x, hx, h⟩
    · simp at h
    · exact ⟨o, ho, x, by simpa using hx, h⟩
  · simp at h
def rowsOK (ops : Array Oper) (L : Nat → Nat) : Prop := ∀ i, i < ops.size → ∀ b, (L i).testBit b = true → (wmask ops 0 L i).testBit b = true
theorem sub_bit {a c : Nat} (h : (a ||| c) = c) {b : Nat} (hb : a.testBit b = true) : c.testBit b = true := by
  rw [← h, Nat.testBit_or, hb, Bool.true_or]
theorem and_bit {a c : Nat} (h : (a &&& c) = a) {b : Nat} (hb : a.testBit b = true) : c.testBit b = true := by
  rw [← h, Nat.testBit_and, Bool.and_eq_true] at hb
  exact hb.2
/-- What is listed is closed under waiting. -/
theorem need_aux {L : Nat → Nat} (hL : rowsOK ops L) {U : List Nat} (hcl : ∀ i o, i < ops.size → i ∉ U → ops[i]? = some o → ∀ x ∈ o.after, Region.binds .any x = true → x.on ∉ U) (e : Nat) : ∀ (i : Nat), i < ops.size → i ∉ U → (L i).testBit e = true → e ∉ U := by
  intro i
  induction i using Nat.strongRecOn with
  | _ i ih =>
    intro hi hiU hb
    obtain ⟨o, ho, x, hx, hbx, _, hxi, h⟩ := wmask_spec (hL i hi _ hb)
    have hxU := hcl i o hi hiU ho x hx hbx
    rw [Nat.sub_zero] at h
    rcases h with h | h
    · rw [← h]; exact hxU
    · exact ih x.on hxi (by omega) hxU h
theorem need_out {L : Nat → Nat} (hL : rowsOK ops L) {U : List Nat} (hcl : ∀ i o, i < ops.size → i ∉ U → ops[i]? = some o → ∀ x ∈ o.after, Region.binds .any x = true → x.on ∉ U) {e i : Nat} {o : Oper} (ho : ops[i]? = some o) (hdep : ∀ x ∈ o.after, Region.binds .any x = true → x.on ∉ U)
    (hb : (L i).testBit e = true) : e ∉ U := by
  have hi := (Array.getElem?_eq_some_iff.1 ho).1
  obtain ⟨o', ho', x, hx, hbx, _, hxi, h⟩ := wmask_spec (hL i hi _ hb)
  rw [ho] at ho'; injection ho' with ho'; subst ho'
  have hxU := hdep x hx hbx
  rw [Nat.sub_zero] at h
  rcases h with h | h
  · rw [← h]; exact hxU
  · exact need_aux hL hcl e x.on (by omega) hxU h

/-! ### The plan -/
structure Plan (ti : Ti) (N : Nat) (ops : Array Oper) (π kp : List Nat) (L : Nat → Nat) : Prop where
  hs : Region.noSelect ops = true
  dst : ∀ o ∈ ops.toList, dstOK N o = true
  nodup : π.Nodup
  all : ∀ i, i < ops.size → i ∈ π
  rows : rowsOK ops L
  at_ : ∀ pre i post, π = pre ++ i :: post → ∃ o, ops[i]? = some o ∧ (∀ x ∈ o.after, Region.binds .any x = true → x.on ∈ pre) ∧ (∀ f ∈ pre, ∀ of, ops[f]? = some of → isEff ti of = true → (L i).testBit f = true) ∧
    (isEff ti o = true → ∀ f ∈ pre, ∀ of, ops[f]? = some of → (pureOp ti of.op = true ∨ (isKeep kp i o = true ∧ stOp ti of.op = true)) ∨ (L i).testBit f = true) ∧ (∀ f ∈ pre, ∀ of, ops[f]? = some of → (L i).testBit f = true ∨ of.apart ops o = true)
theorem scan_sound {kp : List Nat} {L : Nat → Nat} : ∀ (post bef : List Nat) (seen eff np ns : Nat), (∀ f, seen.testBit f = true ↔ f ∈ bef) → (∀ f ∈ bef, ∀ of, ops[f]? = some of → isEff ti of = true → eff.testBit f = true) → (∀ f ∈ bef, ∀ of, ops[f]? = some of → pureOp ti of.op = false → np.testBit f = true) →
    (∀ f ∈ bef, ∀ of, ops[f]? = some of → stOp ti of.op = false → ns.testBit f = true) → scanP ti ops kp L post bef seen eff np ns = true → (post.Nodup ∧ ∀ i ∈ post, i ∉ bef) ∧ ∀ pre i post', post = pre ++ i :: post' → ∃ o, ops[i]? = some o ∧ (∀ x ∈ o.after, Region.binds .any x = true → x.on ∈ bef ∨ x.on ∈ pre) ∧ (∀ f, (f ∈ bef ∨ f ∈ pre) → ∀ of, ops[f]? = some of → isEff ti of = true → (L i).testBit f = true) ∧
    (isEff ti o = true → ∀ f, (f ∈ bef ∨ f ∈ pre) → ∀ of, ops[f]? = some of → (pureOp ti of.op = true ∨ (isKeep kp i o = true ∧ stOp ti of.op = true)) ∨ (L i).testBit f = true) ∧ (∀ f, (f ∈ bef ∨ f ∈ pre) → ∀ of, ops[f]? = some of → (L i).testBit f = true ∨ of.apart ops o = true)
  | [], bef, seen, eff, np, ns, _, _, _, _, _ => ⟨⟨List.nodup_nil, fun i hi => by simp at hi⟩, fun pre i post' h => by simp at h⟩
  | j :: post, bef, seen, eff, np, ns, h1, h2, h3, h3s, h => by
    unfold scanP at h
    cases ho : ops[j]? with
    | none => rw [ho] at h; cases h
    | some o =>
      rw [ho] at h
      simp only [force_eq, Bool.and_eq_true, Bool.or_eq_true, Bool.not_eq_true', beq_iff_eq, List.all_eq_true] at h
      obtain ⟨⟨⟨⟨⟨c1, c2⟩, c3⟩, c4⟩, c5⟩, c6⟩ := h
      have hjb : j ∉ bef := fun hm => by have := (h1 j).2 hm; rw [c1] at this; cases this
      obtain ⟨⟨hn, hd⟩, ih⟩ := scan_sound post (j :: bef) _ _ _ _ (fun f => by
          rw [Nat.testBit_or, shl_bit, Bool.or_eq_true, h1, decide_eq_true_eq, List.mem_cons]
          exact ⟨fun h => h.elim .inr fun h => .inl h.symm, fun h => h.elim (fun h => .inr h.symm) .inl⟩)
        (fun f hf of hof hef => by
          simp only [List.mem_cons] at hf
          rcases hf with rfl | hf
          · rw [ho] at hof; injection hof with hof; subst hof
            rw [if_pos hef, Nat.testBit_or, shl_bit]; simp
          · have := h2 f hf of hof hef
            split
            · rw [Nat.testBit_or, this, Bool.true_or]
            · exact this)
        (fun f hf of hof hpf => by
          simp only [List.mem_cons] at hf
          rcases hf with rfl | hf
          · rw [ho] at hof; injection hof with hof; subst hof
            rw [if_neg (by rw [hpf]; simp), Nat.testBit_or, shl_bit]; simp
          · have := h3 f hf of hof hpf
            split
            · exact this
            · rw [Nat.testBit_or, this, Bool.true_or])
        (fun f hf of hof hpf => by
          simp only [List.mem_cons] at hf
          rcases hf with rfl | hf
          · rw [ho] at hof; injection hof with hof; subst hof
            rw [if_neg (by rw [hpf]; simp), Nat.testBit_or, shl_bit]; simp
          · have := h3s f hf of hof hpf
            split
            · exact this
            · rw [Nat.testBit_or, this, Bool.true_or]) c6
      refine ⟨⟨List.nodup_cons.2 ⟨fun hm => hd j hm (by simp), hn⟩, fun i hi => ?_⟩, fun pre i post' hp => ?_⟩
      · simp only [List.mem_cons] at hi
        rcases hi with rfl | hi
        · exact hjb
        · exact fun hb => hd i hi (by simp [hb])
      · cases pre with
        | nil =>
          simp only [List.nil_append, List.cons.injEq] at hp
          obtain ⟨rfl, rfl⟩ := hp
          refine ⟨o, ho, fun x hx hb => ?_, fun f hf of hof hef => ?_, fun he f hf of hof => ?_, fun f hf of hof => ?_⟩
          · have := c2 x (by simpa using hx)
            rw [hb] at this
            simp only [Bool.true_eq_false, false_or] at this
            exact .inl ((h1 _).1 this)
          · have hf' : f ∈ bef := by simpa using hf
            exact and_bit c3 (h2 f hf' of hof hef)
          · have hf' : f ∈ bef := by simpa using hf
            rcases c4 with c4 | c4
            · rw [he] at c4; cases c4
            · split at c4
              · rename_i hkp
                cases hq : stOp ti of.op with
                | true => exact .inl (.inr ⟨hkp, rfl⟩)
                | false => exact .inr (and_bit (eq_of_beq c4) (h3s f hf' of hof hq))
              · cases hq : pureOp ti of.op with
                | true => exact .inl (.inl rfl)
                | false => exact .inr (and_bit (eq_of_beq c4) (h3 f hf' of hof hq))
          · have hf' : f ∈ bef := by simpa using hf
            have := c5 f hf'
            rw [hof] at this
            exact this
        | cons q pre =>
          simp only [List.cons_append, List.cons.injEq] at hp
          obtain ⟨rfl, rfl⟩ := hp
          obtain ⟨o', k1, k2, k3, k4, k5⟩ := ih pre i post' rfl
          have conv : ∀ f, (f ∈ bef ∨ f ∈ j :: pre) → (f ∈ j :: bef ∨ f ∈ pre) := fun f hf => by
            simp only [List.mem_cons] at hf ⊢
            rcases hf with h | h | h
            · exact .inl (.inr h)
            · exact .inl (.inl h)
            · exact .inr h
          refine ⟨o', k1, fun x hx hb => ?_, fun f hf => k3 f (conv f hf), fun he f hf => k4 he f (conv f hf), fun f hf => k5 f (conv f hf)⟩
          have := k2 x hx hb
          simp only [List.mem_cons] at this ⊢
          rcases this with (h | h) | h
          · exact .inr (.inl h)
          · exact .inl h
          · exact .inr (.inr h)
theorem plan_of {N : Nat} {π kp : List Nat} (h : planOK ti N ops π kp = true) : ∃ L, Plan ti N ops π kp L := by
  simp only [planOK, force_eq, Bool.and_eq_true, List.all_eq_true, beq_iff_eq, List.mem_range] at h
  obtain ⟨⟨⟨h1, h2⟩, h3⟩, h4, h5⟩ := h
  generalize rowOf ops.size _ = L at h4 h5
  obtain ⟨⟨hn, _⟩, hat⟩ := scan_sound π [] 0 0 0 0 (fun f => by simp) (fun f hf => by simp at hf) (fun f hf => by simp at hf) (fun f hf => by simp at hf) h5
  refine ⟨L, h1, h2, hn, fun i hi => ?_, fun i hi b hb => sub_bit (h4 i hi) hb, fun pre i post hp => ?_⟩
  · simpa using h3 i hi
  · obtain ⟨o, k1, k2, k3, k4, k5⟩ := hat pre i post hp
    exact ⟨o, k1, fun x hx hb => by simpa using k2 x hx hb, fun f hf => k3 f (.inr hf), fun he f hf => k4 he f (.inr hf), fun f hf => k5 f (.inr hf)⟩

/-! ### What can come -/
theorem lstU_get {U : List Nat} {i : Nat} (d : Bool) (h : i < ops.size) : (lstU ops U).getD i d = !U.contains i := by simp [lstU, h]
theorem lstU_out {U : List Nat} {i : Nat} (d : Bool) (h : ¬ i < ops.size) : (lstU ops U).getD i d = d := by simp [lstU, h]
theorem lstU_set {j : Nat} {r1 r2 : List Nat} (hn : j ∉ r1 ∧ j ∉ r2) : (lstU ops (r1 ++ j :: r2)).setIfInBounds j true = lstU ops (r1 ++ r2) := by
  apply Array.ext
  · simp [lstU]
  · intro i h1 h2
    have hi : i < ops.size := by simpa [lstU] using h2
    by_cases hik : j = i
    · subst hik
      simp [lstU, hn.1, hn.2]
    · rw [Array.getElem_setIfInBounds_ne _ hik]
      · simp [lstU, Ne.symm hik]
      · simpa [lstU] using hi
theorem ready_U {U : List Nat} {j : Nat} : j ∈ Region.ready .any ops (lstU ops U) ↔ j ∈ U ∧ ∃ o, ops[j]? = some o ∧ ∀ x ∈ o.after, Region.binds .any x = true → x.on < ops.size ∧ x.on ∉ U := by
  rw [mem_ready]
  constructor
  · rintro ⟨h1, o, ho, hall⟩
    have hj := (Array.getElem?_eq_some_iff.1 ho).1
    rw [lstU_get _ hj] at h1
    refine ⟨by simpa using h1, o, ho, fun x hx hb => ?_⟩
    have := hall x hx hb
    by_cases hsz : x.on < ops.size
    · rw [lstU_get _ hsz] at this
      exact ⟨hsz, by simpa using this⟩
    · rw [lstU_out _ hsz] at this; cases this
  · rintro ⟨h1, o, ho, hall⟩
    have hj := (Array.getElem?_eq_some_iff.1 ho).1
    refine ⟨by rw [lstU_get _ hj]; simpa using h1, o, ho, fun x hx hb => ?_⟩
    obtain ⟨h2, h3⟩ := hall x hx hb
    rw [lstU_get _ h2]; simpa using h3
variable {N : Nat} {π kp : List Nat} {L : Nat → Nat} {k : Nat} {rem : List Ent} {a : Act}
theorem Plan.lt (pl : Plan ti N ops π kp L) {i : Nat} (hi : i ∈ π) : i < ops.size := by
  obtain ⟨s, t, hst⟩ := List.append_of_mem hi
  obtain ⟨o, ho, _⟩ := pl.at_ s i t hst
  exact (Array.getElem?_eq_some_iff.1 ho).1
theorem Plan.apart_td (pl : Plan ti N ops π kp L) {i : Nat} (h : i ∈ π.take k) : i ∉ π.drop k := by
  have := pl.nodup
  rw [← List.take_append_drop k π] at this
  exact fun hd => (List.nodup_append.1 this).2.2 i h i hd rfl
theorem split_take {i : Nat} (h : i ∈ π.take k) : ∃ p1 p2, π.take k = p1 ++ i :: p2 ∧ π = p1 ++ i :: (p2 ++ π.drop k) := by
  obtain ⟨p1, p2, hp⟩ := List.append_of_mem h
  refine ⟨p1, p2, hp, ?_⟩
  have := List.take_append_drop k π
  rw [hp] at this
  simpa using this.symm
theorem closedU (pl : Plan ti N ops π kp L) (hp : PendOK P ti ops π k rem a w) : ∀ i o, i < ops.size → i ∉ rem.map (·.1) ++ π.drop k → ops[i]? = some o → ∀ x ∈ o.after, Region.binds .any x = true → x.on ∉ rem.map (·.1) ++ π.drop k := by
  intro i o hi hiU ho x hx hb
  simp only [List.mem_append, not_or] at hiU ⊢
  have hit : i ∈ π.take k := by
    have := pl.all i hi
    rw [← List.take_append_drop k π, List.mem_append] at this
    exact this.resolve_right hiU.2
  obtain ⟨p1, p2, h1, h2⟩ := split_take hit
  obtain ⟨o', ho', hdep, _⟩ := pl.at_ p1 i _ h2
  rw [ho] at ho'; injection ho' with ho'; subst ho'
  refine ⟨hp.closed i hit hiU.1 o ho x hx hb, pl.apart_td ?_⟩
  rw [h1]
  simp [hdep x hx hb]
/-- One of those that lag comes. -/
theorem pick_pend (pl : Plan ti N ops π kp L) {e : Ent} {r1 r2 : List Ent} (hp : PendOK P ti ops π k (r1 ++ e :: r2) a w) (hdep : ∀ x ∈ e.2.1.after, Region.binds .any x = true → x.on ∉ (r1 ++ e :: r2).map (·.1) ++ π.drop k) :
    yatS P ti ops w e.2.1 e.2.2 a ∧ PendOK P ti ops π k (r1 ++ r2) (a.put e.2.1.dst e.2.2) w ∧ puts (r1 ++ e :: r2) a = puts (r1 ++ r2) (a.put e.2.1.dst e.2.2) ∧ e.1 ∉ r1.map (·.1) ∧ e.1 ∉ r2.map (·.1) ∧ e.1 ∉ π.drop k := by
  have heo := hp.op e (by simp)
  have hsub := hp.sub
  have hnd : ((r1 ++ e :: r2).map (·.1)).Nodup := hsub.nodup (pl.nodup.sublist (List.take_sublist _ _))
  have hmap : (r1 ++ e :: r2).map (·.1) = r1.map (·.1) ++ e.1 :: r2.map (·.1) := by simp
  rw [hmap] at hsub hnd
  obtain ⟨l1, l2, hl, hs1, hs2⟩ := List.append_sublist_iff.1 hsub
  obtain ⟨q1, q2, hq⟩ := List.append_of_mem (hs2.subset (List.mem_cons_self))
  have hπ : π = (l1 ++ q1) ++ e.1 :: (q2 ++ π.drop k) := by
    have := List.take_append_drop k π
    rw [hl, hq] at this
    simpa using this.symm
  obtain ⟨o', ho', _, _, _, hap⟩ := pl.at_ _ _ _ hπ
  rw [heo] at ho'; injection ho' with ho'; subst ho'
  have hapart : ∀ f ∈ r1, f.2.1.apart ops e.2.1 = true := by
    intro f hf
    have hfm : f.1 ∈ l1 ++ q1 := by
      have := hs1.subset (List.mem_map.2 ⟨f, hf, rfl⟩)
      simp [this]
    rcases hap f.1 hfm f.2.1 (hp.op f (by simp [hf])) with h | h
    · exact absurd (by simp only [List.map_append, List.mem_append]; exact .inl (.inl (List.mem_map.2 ⟨f, hf, rfl⟩))) (need_out pl.rows (closedU pl hp) heo hdep h)
    · exact h
  obtain ⟨hy, hc, hput⟩ := chainS_move pl.hs heo r1 a hapart (fun f hf => hp.op f (by simp [hf])) hp.chain
  simp only [List.nodup_append, List.nodup_cons] at hnd
  have hmem : e.1 ∈ π.take k := hsub.subset (by simp)
  refine ⟨hy, ⟨fun f hf => hp.op f (by simp at hf ⊢; rcases hf with h | h <;> simp [h]), ?_, ?_, fun f hf => hp.eff f (by simp at hf ⊢; rcases hf with h | h <;> simp [h]), hc⟩, hput, fun h => hnd.2.2 e.1 h e.1 (by simp) rfl, hnd.2.1.1, pl.apart_td hmem⟩
  · refine List.Sublist.trans ?_ hp.sub
    rw [hmap, List.map_append]
    exact List.Sublist.append (List.Sublist.refl _) (List.sublist_cons_self _ _)
  · intro i hi hni o hio x hx hb
    have sub : ∀ y, y ∈ (r1 ++ r2).map (·.1) → y ∈ (r1 ++ e :: r2).map (·.1) := fun y hy => by simp only [List.map_append, List.map_cons, List.mem_append, List.mem_cons] at hy ⊢; rcases hy with h | h <;> simp [h]
    by_cases hie : i = e.1
    · subst hie
      rw [heo] at hio; injection hio with hio; subst hio
      exact fun h => hdep x hx hb (by simp only [List.mem_append]; exact .inl (sub _ h))
    · refine fun h => hp.closed i hi (fun h5 => hni ?_) o hio x hx hb (sub _ h)
      simp only [List.map_append, List.map_cons, List.mem_append, List.mem_cons] at h5 ⊢
      rcases h5 with h5 | h5 | h5
      · exact .inl h5
      · exact absurd h5 hie
      · exact .inr h5
/-- Whatever comes: those that lag, or the next one, which has an effect. -/
theorem settle (pl : Plan ti N ops π kp L) {Q : Exit → Act → World → Prop} {B : Act} (heff : ∀ i0 rest o, π.drop k = i0 :: rest → ops[i0]? = some o → isEff ti o = true) (hend : π.drop k = [] → Q .normal B w)
    (hstep : ∀ i0 rest rem a, π.drop k = i0 :: rest → PendOK P ti ops π k rem a w → puts rem a = B → (∀ o, ops[i0]? = some o → ∀ x ∈ o.after, Region.binds .any x = true → x.on ∉ rem.map (·.1) ++ π.drop k) →
      wpOp P ops Q i0 (fun a w => wpAny P .any ops Q (rem.length + (π.length - (k + 1))) (lstU ops (rem.map (·.1) ++ rest)) a w) a w) :
    ∀ (n : Nat) (rem : List Ent) (a : Act), rem.length = n → PendOK P ti ops π k rem a w → puts rem a = B → wpAny P .any ops Q (rem.length + (π.length - k)) (lstU ops (rem.map (·.1) ++ π.drop k)) a w := by
  intro n
  induction n with
  | zero =>
    intro rem a hl hp hB
    have hr : rem = [] := List.eq_nil_of_length_eq_zero hl
    subst hr
    have e0 : List.map (fun x : Ent => x.1) [] = ([] : List Nat) := rfl
    rw [e0]
    cases hd : π.drop k with
    | nil =>
      have : π.length - k = 0 := by have := congrArg List.length hd; simpa using this
      rw [this]
      refine ⟨?_, by rw [← hB] at hend; exact hend hd⟩
      cases hq : Region.ready .any ops (lstU ops (([] : List Nat) ++ [])) with
      | nil => rfl
      | cons j js =>
        have hj : j ∈ Region.ready .any ops (lstU ops (([] : List Nat) ++ [])) := by rw [hq]; simp
        have := (ready_U.1 hj).1
        simp at this
    | cons i0 rest =>
      have hlen : π.length - k = (π.length - (k + 1)) + 1 := by have := congrArg List.length hd; simp at this; omega
      have hπ : π = π.take k ++ i0 :: rest := by rw [← hd, List.take_append_drop]
      obtain ⟨o, ho, hdep, _⟩ := pl.at_ _ _ _ hπ
      have hd2 : ∀ x ∈ o.after, Region.binds .any x = true → x.on < ops.size ∧ x.on ∉ ([] : List Nat) ++ i0 :: rest := fun x hx hb => by
        have hm := hdep x hx hb
        refine ⟨pl.lt (List.mem_of_mem_take hm), ?_⟩
        rw [← hd]
        simpa using pl.apart_td hm
      rw [hlen, List.length_nil, Nat.zero_add]
      refine ⟨fun h0 => ?_, fun j hj => ?_⟩
      · have : i0 ∈ Region.ready .any ops (lstU ops (([] : List Nat) ++ i0 :: rest)) := ready_U.2 ⟨by simp, o, ho, hd2⟩
        rw [h0] at this; cases this
      · obtain ⟨hjU, oj, hoj, hjd⟩ := ready_U.1 hj
        have hcl := closedU pl hp
        rw [hd] at hcl
        have hji : j = i0 := by
          apply Classical.byContradiction
          intro hne
          have hjr : j ∈ rest := by simpa [hne] using hjU
          obtain ⟨s, t, hst⟩ := List.append_of_mem hjr
          have hπ2 : π = (π.take k ++ i0 :: s) ++ j :: t := by rw [List.append_assoc, List.cons_append, ← hst]; exact hπ
          obtain ⟨oj', hoj', _, he, _⟩ := pl.at_ _ _ _ hπ2
          have hb := he i0 (by simp) o ho (heff i0 rest o hd ho)
          exact need_out pl.rows hcl hoj (fun x hx hb => (hjd x hx hb).2) hb (by simp)
        subst hji
        have hnr : j ∉ rest := by
          have := pl.nodup
          rw [hπ, List.nodup_append, List.nodup_cons] at this
          exact this.2.1.1
        rw [lstU_set ⟨by simp, hnr⟩]
        have := hstep j rest [] a hd hp hB (fun o' ho' x hx hb => by rw [ho] at ho'; injection ho' with ho'; subst ho'; rw [hd]; exact (hd2 x hx hb).2)
        rw [List.length_nil, Nat.zero_add] at this
        exact this
  | succ n ih =>
    intro rem a hl hp hB
    have hcl := closedU pl hp
    rw [hl, Nat.succ_add]
    refine ⟨fun h0 => ?_, fun j hj => ?_⟩
    · -- the first of those that lag can come
      cases rem with
      | nil => simp at hl
      | cons e rem' =>
        have heo := hp.op e (by simp)
        have hsub := hp.sub
        have hnd := hsub.nodup (pl.nodup.sublist (List.take_sublist _ _))
        have hmem : e.1 ∈ π.take k := hsub.subset (by simp)
        -- the first place where it stands
        obtain ⟨p1, p2, h1, h2⟩ := split_take hmem
        obtain ⟨o', ho', hdep, _⟩ := pl.at_ _ _ _ h2
        rw [heo] at ho'; injection ho' with ho'; subst ho'
        have hp1 : ∀ y ∈ p1, y ∉ (e :: rem').map (·.1) := by
          intro y hy hm
          have hn1 : (p1 ++ e.1 :: p2).Nodup := by rw [← h1]; exact pl.nodup.sublist (List.take_sublist _ _)
          rw [h1] at hsub
          simp only [List.map_cons] at hsub hm
          have hne : e.1 ∉ p1 := fun h => (List.nodup_append.1 hn1).2.2 e.1 h e.1 (by simp) rfl
          have : (e.1 :: rem'.map (·.1)).Sublist (e.1 :: p2) := by
            rcases List.sublist_append_iff.1 hsub with ⟨u1, u2, hu, hu1, hu2⟩
            cases u1 with
            | nil => simp only [List.nil_append] at hu; rw [hu]; exact hu2
            | cons z u1 =>
              simp only [List.cons_append, List.cons.injEq] at hu
              exact absurd (hu1.subset (by simp [hu.1])) hne
          have hm2 := this.subset hm
          exact (List.nodup_append.1 hn1).2.2 y hy y hm2 rfl
        have : e.1 ∈ Region.ready .any ops (lstU ops ((e :: rem').map (·.1) ++ π.drop k)) := ready_U.2 ⟨by simp, e.2.1, heo, fun x hx hb => by
          have hm := hdep x hx hb
          refine ⟨pl.lt (by rw [h2]; simp [hm]), ?_⟩
          simp only [List.mem_append, not_or]
          exact ⟨hp1 _ hm, pl.apart_td (by rw [h1]; simp [hm])⟩⟩
        rw [h0] at this; cases this
    · obtain ⟨hjU, oj, hoj, hjd⟩ := ready_U.1 hj
      by_cases hjr : j ∈ rem.map (·.1)
      · obtain ⟨e, he, rfl⟩ := List.mem_map.1 hjr
        obtain ⟨r1, r2, rfl⟩ := List.append_of_mem he
        have heo := hp.op e (by simp)
        rw [heo] at hoj; injection hoj with hoj; subst hoj
        obtain ⟨hy, hp', hput, hn1, hn2, hn3⟩ := pick_pend pl hp (fun x hx hb => (hjd x hx hb).2)
        have fin := ih (r1 ++ r2) (a.put e.2.1.dst e.2.2) (by simp at hl ⊢; omega) hp' (by rw [← hput]; exact hB)
        have hset : (lstU ops ((r1 ++ e :: r2).map (·.1) ++ π.drop k)).setIfInBounds e.1 true = lstU ops ((r1 ++ r2).map (·.1) ++ π.drop k) := by
          have := lstU_set (ops := ops) (j := e.1) (r1 := r1.map (·.1)) (r2 := r2.map (·.1) ++ π.drop k) ⟨hn1, by simp only [List.mem_append, not_or]; exact ⟨hn2, hn3⟩⟩
          simpa using this
        rw [hset]
        have hlen2 : (r1 ++ r2).length = n := by simp at hl ⊢; omega
        rw [hlen2] at fin
        unfold wpOp
        rw [heo]
        rcases hy w (.inr (.inr rfl)) with ⟨hw, hrun⟩ | ⟨hw, hx⟩
        · simp only [hw, if_true]
          left
          unfold Oper.wp
          rw [hrun, Oper.upon_value]
          exact fin
        · simp only [hw, Bool.false_eq_true, if_false]
          rw [hx] at fin
          exact fin
      · have hjd2 : j ∈ π.drop k := by
          simp only [List.mem_append] at hjU
          exact hjU.resolve_left hjr
        cases hd : π.drop k with
        | nil => rw [hd] at hjd2; cases hjd2
        | cons i0 rest =>
          have hπ : π = π.take k ++ i0 :: rest := by rw [← hd, List.take_append_drop]
          obtain ⟨o, ho, _⟩ := pl.at_ _ _ _ hπ
          have hji : j = i0 := by
            apply Classical.byContradiction
            intro hne
            have hjr2 : j ∈ rest := by rw [hd] at hjd2; simpa [hne] using hjd2
            obtain ⟨s, t, hst⟩ := List.append_of_mem hjr2
            have hπ2 : π = (π.take k ++ i0 :: s) ++ j :: t := by rw [List.append_assoc, List.cons_append, ← hst]; exact hπ
            obtain ⟨oj', hoj', _, he, _⟩ := pl.at_ _ _ _ hπ2
            have hb := he i0 (by simp) o ho (heff i0 rest o hd ho)
            exact need_out pl.rows hcl hoj (fun x hx hb => (hjd x hx hb).2) hb (by rw [hd]; simp)
          subst hji
          have hnr : j ∉ rest := by
            have := pl.nodup
            rw [hπ, List.nodup_append, List.nodup_cons] at this
            exact this.2.1.1
          rw [lstU_set ⟨hjr, hnr⟩]
          have hlen : π.length - k = (π.length - (k + 1)) + 1 := by have := congrArg List.length hd; simp at this; omega
          have := hstep j rest rem a hd hp hB (fun o' ho' x hx hb => by rw [hoj] at ho'; injection ho' with ho'; subst ho'; exact (hjd x hx hb).2)
          rw [hl] at this
          have e2 : n + (π.length - k) = n + 1 + (π.length - (k + 1)) := by omega
          rw [e2]
          exact this

/-! ### Over what stands in the slots -/
variable {G : Nat → List D} {K : KD} {σ : St}
theorem evA_ro {ρ : Operand → AV} {r r' : Rs} {op : Op} {v : AV} (hp : roOp ti op = true) (e : evA ti ρ r op = some (v, r')) : evP ti ρ r op = some v ∧ r' = r := by
  cases op <;> simp only [roOp, reduceCtorEq, Bool.false_eq_true] at hp
  case convert s d x =>
    simp only [evA] at e
    split at e
    · rename_i u hu
      simp only [Option.some.injEq, Prod.mk.injEq] at e
      obtain ⟨rfl, rfl⟩ := e
      exact ⟨hu, rfl⟩
    · simp only [evR] at e
      refine absurd e (evCB_no fun el s b z he => ?_)
      unfold tK at hp
      rw [he] at hp
      simp [tkOf] at hp
  case call c =>
    simp only [evA] at e
    split at hp
    all_goals first
      | (rename_i hc
         rw [hc] at e
         simp only [Option.map_eq_some_iff, Prod.mk.injEq] at e
         obtain ⟨u, hu, rfl, rfl⟩ := e
         exact ⟨hu, rfl⟩)
      | cases hp
  all_goals
    simp only [evA, Option.map_eq_some_iff, Prod.mk.injEq] at e
    obtain ⟨u, hu, rfl, rfl⟩ := e
    exact ⟨hu, rfl⟩
theorem opl_cons (pl : Plan ti N ops π kp L) {o : Oper} {rest : List Oper} (h : o :: rest = opl ops (π.drop k)) : ∃ i0, π.drop k = i0 :: π.drop (k + 1) ∧ ops[i0]? = some o ∧ rest = opl ops (π.drop (k + 1)) ∧ k + 1 ≤ π.length := by
  cases hd : π.drop k with
  | nil => rw [hd] at h; simp [opl] at h
  | cons i0 tl =>
    have hlt := congrArg List.length hd
    simp at hlt
    have htl : π.drop (k + 1) = tl := by
      have := congrArg (List.drop 1) hd
      rw [List.drop_drop] at this
      simpa [Nat.add_comm] using this
    have hπ : π = π.take k ++ i0 :: tl := by rw [← hd, List.take_append_drop]
    obtain ⟨o', ho', _⟩ := pl.at_ _ _ _ hπ
    rw [hd] at h
    simp only [opl, List.filterMap_cons, ho', List.cons.injEq] at h
    exact ⟨i0, by rw [htl], by rw [ho', h.1], by rw [htl]; exact h.2, by omega⟩
theorem opl_nil (pl : Plan ti N ops π kp L) (h : [] = opl ops (π.drop k)) : π.drop k = [] := by
  cases hd : π.drop k with
  | nil => rfl
  | cons i0 tl =>
    have hπ : π = π.take k ++ i0 :: tl := by rw [← hd, List.take_append_drop]
    obtain ⟨o', ho', _⟩ := pl.at_ _ _ _ hπ
    rw [hd] at h
    simp [opl, ho'] at h
theorem pend_next (pl : Plan ti N ops π kp L) {i0 : Nat} {o : Oper} (hd : π.drop k = i0 :: π.drop (k + 1)) (ho : ops[i0]? = some o) (hk : k + 1 ≤ π.length) : π.take (k + 1) = π.take k ++ [i0] ∧ (∀ x ∈ o.after, Region.binds .any x = true → x.on ∈ π.take k) := by
  have hπ : π = π.take k ++ i0 :: π.drop (k + 1) := by rw [← hd, List.take_append_drop]
  obtain ⟨o', ho', hdep, _⟩ := pl.at_ _ _ _ hπ
  rw [ho] at ho'; injection ho' with ho'; subst ho'
  refine ⟨?_, hdep⟩
  have hl : (π.take k).length = k := by simp; omega
  conv => lhs; rw [hπ]
  rw [List.take_append, hl, List.take_of_length_le (by omega)]
  simp
/-- An operation that only reads is taken at once; it may come later. -/
theorem DWp_read (pl : Plan ti N ops π kp L) {i0 : Nat} {o : Oper} (hd : π.drop k = i0 :: π.drop (k + 1)) (ho : ops[i0]? = some o) (hk : k + 1 ≤ π.length) (hne : isEff ti o = false) {σ' : St} (hr : σ'.r = σ.r)
    (hy : ∀ E a w, Rel G N E σ a w → ∃ x, yatS P ti ops w o x a ∧ Rel G N E σ' (a.put o.dst x) w) (h : DWp P ti G N ops π (k + 1) K σ') : DWp P ti G N ops π k K σ := by
  intro E0 r0 w0 E a w rem hp hR hS
  obtain ⟨x, hyx, hR'⟩ := hy E _ w hR
  obtain ⟨ht, hdep⟩ := pend_next pl hd ho hk
  obtain ⟨hc, hput⟩ := chainS_snoc (e := (i0, o, x)) rem a hp.chain hyx
  have hi0 : i0 ∉ π.take k := by
    have := pl.nodup
    rw [← List.take_append_drop k π, hd, List.nodup_append] at this
    exact fun hm => this.2.2 i0 hm i0 (by simp) rfl
  have hp' : PendOK P ti ops π (k + 1) (rem ++ [(i0, o, x)]) a w := by
    refine ⟨fun e he => ?_, ?_, ?_, fun e he => ?_, hc⟩
    · simp only [List.mem_append, List.mem_singleton] at he
      rcases he with he | rfl
      · exact hp.op e he
      · exact ho
    · rw [ht, List.map_append]
      exact List.Sublist.append hp.sub (List.Sublist.refl _)
    · intro i hi hni o' ho' y hy' hb
      simp only [List.map_append, List.map_cons, List.map_nil, List.mem_append, List.mem_singleton, not_or] at hni ⊢
      rw [ht, List.mem_append, List.mem_singleton] at hi
      have hit := hi.resolve_right hni.2
      refine ⟨hp.closed i hit hni.1 o' ho' y hy' hb, fun h => ?_⟩
      obtain ⟨p1, p2, h1, h2⟩ := split_take hit
      obtain ⟨o2, ho2, hd2, _⟩ := pl.at_ _ _ _ h2
      rw [ho'] at ho2; injection ho2 with ho2; subst ho2
      have := hd2 y hy' hb
      rw [h] at this
      exact hi0 (by rw [h1]; simp [this])
    · simp only [List.mem_append, List.mem_singleton] at he
      rcases he with he | rfl
      · exact hp.eff e he
      · exact hne
  have := h E0 r0 w0 E a w _ hp' (by rw [hput]; exact hR') (by rw [hr]; exact hS)
  have e1 : (rem ++ [(i0, o, x)]).length + (π.length - (k + 1)) = rem.length + (π.length - k) := by simp; omega
  have e2 : (rem ++ [(i0, o, x)]).map (·.1) ++ π.drop (k + 1) = rem.map (·.1) ++ π.drop k := by rw [hd]; simp
  rw [e1, e2] at this
  exact this
/-- One with an effect, in its turn. -/
theorem DWp_step (pl : Plan ti N ops π kp L) {i0 : Nat} {o : Oper} (hd : π.drop k = i0 :: π.drop (k + 1)) (ho : ops[i0]? = some o) (hk : k + 1 ≤ π.length) (he : isEff ti o = true)
    (h : ∀ E0 r0 w0 E b w, Rel G N E σ b w → Step E0 r0 w0 E σ.r w → ∀ (a : Act) (C : Act → World → Prop), execOp b.eval o = execOp a.eval o → Region.wanted o (yielded ops b.tmps) = Region.wanted o (yielded ops a.tmps) →
      (∀ x w' E' σ', Rel G N E' σ' (b.put o.dst x) w' → Step E0 r0 w0 E' σ'.r w' → (isKeep kp i0 o = true → Keeps w w') → DWp P ti G N ops π (k + 1) K σ' → C (a.put o.dst x) w') → if Region.wanted o (yielded ops a.tmps) = true then o.wp P a w C (noPanic (lift G N E0 r0 w0 (app P ti G N K))) else C (a.put o.dst undef) w) :
    DWp P ti G N ops π k K σ := by
  intro E0 r0 w0 E a w rem hp hR hS
  obtain ⟨ht, hdep⟩ := pend_next pl hd ho hk
  have hπ : π = π.take k ++ i0 :: π.drop (k + 1) := by rw [← hd, List.take_append_drop]
  obtain ⟨o', ho', _, _, hnp, hap⟩ := pl.at_ _ _ _ hπ
  rw [ho] at ho'; injection ho' with ho'; subst ho'
  refine settle (B := puts rem a) pl (fun i r o' hd' ho' => ?_) (fun h0 => ?_) (fun i0' rest rem' a' hd' hp' hB hdU => ?_) rem.length rem a rfl hp rfl
  · rw [hd] at hd'
    simp only [List.cons.injEq] at hd'
    rw [← hd'.1, ho] at ho'; injection ho' with ho'; subst ho'
    exact he
  · rw [hd] at h0; cases h0
  · rw [hd] at hd'
    simp only [List.cons.injEq] at hd'
    obtain ⟨rfl, rfl⟩ := hd'
    have hdV := hdU o ho
    have hcl := closedU pl hp'
    have hin : ∀ f ∈ rem', f.1 ∈ π.take k := fun f hf => hp'.sub.subset (List.mem_map.2 ⟨f, hf, rfl⟩)
    have hU : ∀ f ∈ rem', f.1 ∈ rem'.map (·.1) ++ π.drop k := fun f hf => by simp only [List.mem_append]; exact .inl (List.mem_map.2 ⟨f, hf, rfl⟩)
    have hpu : ∀ f ∈ rem', pureOp ti f.2.1.op = true ∨ (isKeep kp i0 o = true ∧ stOp ti f.2.1.op = true) := fun f hf => by
      rcases hnp he f.1 (hin f hf) f.2.1 (hp'.op f hf) with h1 | h1
      · exact h1
      · exact absurd (hU f hf) (need_out pl.rows hcl ho hdV h1)
    have hapf : ∀ f ∈ rem', f.2.1.apart ops o = true := fun f hf => by
      rcases hap f.1 (hin f hf) f.2.1 (hp'.op f hf) with h1 | h1
      · exact absurd (hU f hf) (need_out pl.rows hcl ho hdV h1)
      · exact h1
    obtain ⟨k1, k2, k3, k4⟩ := chainS_front pl.hs ho rem' a' hapf hp'.op hp'.chain
    have main := h E0 r0 w0 E (puts rem' a') w (by rw [hB]; exact hR) hS a' (fun a w => wpAny P .any ops (noPanic (lift G N E0 r0 w0 (app P ti G N K))) (rem'.length + (π.length - (k + 1))) (lstU ops (rem'.map (·.1) ++ π.drop (k + 1))) a w) k1 k2
      (fun x w' E' σ' hR' hS' hkp hD => by
        have m1 := k4 x w' fun f hf => (hpu f hf).imp id fun h => ⟨h.2, hkp h.1⟩
        have m2 := k3 x
        refine hD E0 r0 w0 E' _ w' rem' ⟨hp'.op, ?_, ?_, hp'.eff, m1⟩ (by rw [m2]; exact hR') hS'
        · rw [ht]; exact hp'.sub.trans (List.sublist_append_left _ _)
        · intro i hi hni o2 ho2 y hy hb
          rw [ht, List.mem_append, List.mem_singleton] at hi
          rcases hi with hi | rfl
          · exact hp'.closed i hi hni o2 ho2 y hy hb
          · rw [ho] at ho2; injection ho2 with ho2; subst ho2
            have := hdV y hy hb
            simp only [List.mem_append, not_or] at this
            exact this.1)
    unfold wpOp
    rw [ho]
    simp only
    split at main
    · rename_i hw; rw [if_pos hw]; exact .inl main
    · rename_i hw; rw [if_neg hw]; exact main
theorem DWp_end (pl : Plan ti N ops π kp L) (hd : π.drop k = []) (h : app P ti G N K .normal σ) : DWp P ti G N ops π k K σ := by
  intro E0 r0 w0 E a w rem hp hR hS
  exact settle (B := puts rem a) pl (fun i r o' hd' => by rw [hd] at hd'; cases hd') (fun _ => ⟨σ, E, h, hR, hS⟩) (fun i0' rest rem' a' hd' => by rw [hd] at hd'; cases hd') rem.length rem a rfl hp rfl
/-- A new struct or row leaves memory as it was. -/
theorem keep_run (hti : TiOK P ti) {ρ : Operand → AV} {r r' : Rs} {o : Oper} {v : AV} {α : Operand → Value} {x : Value} {w' : World} (hko : keepOp o.op = true) (e : evA ti ρ r o.op = some (v, r')) (h : (execOp α o).run P w = .ok (.value x) w' ∨ ((execOp α o).run P w = .ok .skip w' ∧ x = undef)) : Keeps w w' := by
  cases ho : o.op <;> rw [ho] at hko e <;> simp only [keepOp, Bool.false_eq_true] at hko
  case box t y =>
    have hb : (execOp α o).run P w = .ok (.value (.pointer (some ⟨w.heap.size, 0, none⟩))) (w.alloc (.cells (α y).cells t)) := by
      simp [execOp, ho, Instr.box, newVar, newRow, newObj]; rfl
    rw [hb] at h
    have : w' = w.alloc (.cells (α y).cells t) := by rcases h with h | ⟨h, _⟩ <;> injection h with h1 h2 <;> exact h2.symm
    rw [this]
    exact Keeps.alloc _ _
  case alloc t =>
    simp only [evA, evR] at e
    split at e
    · rename_i i hi
      have hzr := ti_zero (P := P) hti hi w
      have hb : (execOp α o).run P w = .ok (.value (.pointer (some ⟨w.heap.size, 0, none⟩))) (w.alloc (.cells i.zero.cells t)) := by
        simp [execOp, ho, Instr.alloc, hzr, newVar, newRow, newObj]; rfl
      rw [hb] at h
      have : w' = w.alloc (.cells i.zero.cells t) := by rcases h with h | ⟨h, _⟩ <;> injection h with h1 h2 <;> exact h2.symm
      rw [this]
      exact Keeps.alloc _ _
    · cases e
  case buildSlice t n parts =>
    simp only [evA, evR, evBS] at e
    split at e
    · rename_i el _ _ _ hte
      have hut := ti_run (P := P) hti hte w
      split at e
      · rename_i ie hie
        have hsz := ti_size (P := P) hti hie w
        have hzr := ti_zero (P := P) hti hie w
        simp only [execOp, ho, Instr.buildSlice, Sem.run_bind, hut, hsz, Result.andThen_ok] at h
        have hrow : ∀ cells : Array Value, Sem.run P (newRow el cells) w = .ok ⟨w.heap.size, 0, none⟩ (w.alloc (.cells cells el)) := fun cells => by simp [newRow, newObj]; rfl
        have h24 : ¬ n * ie.size > 2 ^ 24 := by
          cases n with
          | zero => simp
          | succ n =>
            simp only at e
            split at e
            · split at e
              · rename_i hc; have := hc.2.2; omega
              · cases e
            · cases e
        have fin : ∀ (q : Option (Array Value)), ((Sem.run P (match q with
            | some cells => do
              let a ← newRow el cells
              pure (Value.slice (some a) n n)
            | _ => stuck "buildSlice: a part of the wrong size") w).andThen fun a w' => Sem.run P (pure (Next.value a)) w') = .ok (.value x) w' ∨ ((Sem.run P (match q with
            | some cells => do
              let a ← newRow el cells
              pure (Value.slice (some a) n n)
            | _ => stuck "buildSlice: a part of the wrong size") w).andThen fun a w' => Sem.run P (pure (Next.value a)) w') = .ok .skip w' ∧ x = undef → Keeps w w' := by
          intro q h
          cases q with
          | some cells =>
            simp only [Sem.run_bind, hrow, Result.andThen_ok, Sem.run_pure] at h
            have : w' = w.alloc (.cells cells el) := by rcases h with h | ⟨h, _⟩ <;> injection h with h1 h2 <;> exact h2.symm
            rw [this]
            exact Keeps.alloc _ _
          | none => simp [stuck] at h
        rw [if_neg h24] at h
        by_cases h0 : n * ie.size = 0
        · rw [if_pos h0] at h
          simp only [Sem.run_bind, Sem.run_pure, Result.andThen_ok] at h
          exact fin _ h
        · rw [if_neg h0] at h
          simp only [Sem.run_bind, Sem.run_pure, hzr, Result.andThen_ok] at h
          exact fin _ h
      · cases e
    · cases e
theorem Good.keeps {E : Env} {r : Rs} {w' : World} (h : Good G E r w) (hk : Keeps w w') : Good G E r w' ∧ Lasts E.T w E.T w' ∧ ShapeLasts w w' := by
  have hL : Lasts E.T w E.T w' := ⟨fun _ => Nat.le_refl _, fun a ha => by
    unfold World.cell?; rw [hk.2 _ (h.pub_lt ha)]⟩
  have hS : ShapeLasts w w' := fun b s hs => by
    unfold World.shape? at hs ⊢
    have hb : b < w.heap.size := by
      rcases Nat.lt_or_ge b w.heap.size with h1 | h1
      · exact h1
      · simp [Array.getElem?_eq_none h1] at hs
    rw [hk.2 b hb]; exact hs
  refine ⟨⟨fun i q b hi hb => ?_, fun i l hi => ?_, fun i l hi => ?_, h.one, fun b hb => h.fresh b (Nat.le_trans hk.1 hb), fun g => RM.lasts hL _ _ (h.glob g)⟩, hL, hS⟩
  · obtain ⟨h1, cur, e, h2, h3⟩ := h.tok i q b hi hb
    exact ⟨h1, cur, e, (hk.2 b (h.lt hi hb)).trans h2, h3⟩
  · obtain ⟨b, hb, h1, vs, e, h2, h3, h4⟩ := h.obj i l hi
    exact ⟨b, hb, h1, vs, e, (hk.2 b (h.lt hi hb)).trans h2, RAL.lasts hL (Names.refl E r) hS _ _ h3, h4⟩
  · obtain ⟨b, hb, h1, h2⟩ := h.map i l hi
    exact ⟨b, hb, h1, h2.lasts (T' := E.T) (hk.2 b (h.lt hi hb)) hL⟩
/-- What is told by a constant is told the same while memory only grows. -/
theorem const_run (hti : TiOK P ti) {E : Env} {r : Rs} {w' : World} (hG : Good G E r w) {ρ : Operand → AV} {α : Operand → Value} (hev : ∀ x, RA E r w (ρ x) (α x)) {o : Oper} {u z : Value} (e : evP ti ρ r o.op = some (.d (.c u))) (hz : (execOp α o).run P w = .ok (.value z) w) (hk : Keeps w w') : (execOp α o).run P w' = .ok (.value z) w' := by
  obtain ⟨hG', hL, hS⟩ := hG.keeps hk
  obtain ⟨z1, h1, h2⟩ := evP_sound (P := P) hti hG hev e
  obtain ⟨z2, h3, h4⟩ := evP_sound (P := P) hti hG' (fun x => RA.lasts hL (Names.refl E r) hS _ _ (hev x)) e
  simp only [RA, RD] at h2 h4
  rw [hz] at h1
  have : z = z1 := by simpa using h1
  rw [h3, h4.1, this, h2.1]
theorem st_run (hti : TiOK P ti) {E : Env} {r : Rs} {w' : World} (hG : Good G E r w) {ρ : Operand → AV} {α : Operand → Value} (hev : ∀ x, RA E r w (ρ x) (α x)) {o : Oper} {v : AV} {z : Value} (hst : stOp ti o.op = true) (hpu : ¬ pureOp ti o.op = true) (e : evP ti ρ r o.op = some v) (hz : (execOp α o).run P w = .ok (.value z) w) (hk : Keeps w w') :
    (execOp α o).run P w' = .ok (.value z) w' := by
  have key : (∃ u, v = .d (.c u)) → (execOp α o).run P w' = .ok (.value z) w' := by
    rintro ⟨u, rfl⟩
    exact const_run hti hG hev e hz hk
  cases ho : o.op <;> rw [ho] at hst hpu e <;> first | exact absurd hst hpu | skip
  case load t x =>
    simp only [evP] at e
    obtain ⟨z1, h1, h2⟩ := evLoad_sound (P := P) hti hG (hev x) e
    have := h1 w (Keeps.refl w)
    simp only [execOp, ho] at hz ⊢
    simp [this] at hz
    subst hz
    simp [h1 w' hk]
  case convert s d x =>
    refine key ?_
    simp only [evP] at e
    unfold evConv at e
    split at e
    · split at e
      · injection e with e; exact ⟨_, e.symm⟩
      · injection e with e; exact ⟨_, e.symm⟩
      · split at e
        · split at e
          · simp only [Option.map_eq_some_iff] at e
            obtain ⟨l, _, e⟩ := e
            exact ⟨_, e.symm⟩
          · cases e
        · cases e
      · cases e
    · cases e
  case binOp op t x y ty =>
    refine key ?_
    simp only [evP] at e
    have hnil : ∀ q a b, evNil ti r t q a b = some v → ∃ u, v = .d (.c u) := by
      intro q a b h
      unfold evNil at h
      split at h
      · split at h
        · injection h with h; exact ⟨_, h.symm⟩
        · cases h
      · cases h
    have hnop : ∀ a b, evNilOp ti r op t a b = some v → ∃ u, v = .d (.c u) := by
      intro a b h
      have both : ∀ q, (evNil ti r t q a b).or (evEqA ti t q a b) = some v → ∃ u, v = .d (.c u) := by
        intro q h
        rw [Option.or_eq_some_iff] at h
        rcases h with h | ⟨_, h⟩
        · exact hnil _ _ _ h
        · exact evEqA_form h
      cases op <;> simp only [evNilOp] at h <;> first | exact both _ h | cases h
    unfold evBin at e
    split at e
    · split at e
      · obtain ⟨_, e⟩ := chk_some e
        injection e with e; exact ⟨_, e.symm⟩
      · exact hnop _ _ e
    · exact hnop _ _ e
  case call c =>
    simp only [stOp] at hst
    split at hst
    · rename_i hc
      refine key ?_
      simp only [evP, evCall, hc] at e
      split at e
      · simp only [Option.map_eq_some_iff] at e
        obtain ⟨n, _, e⟩ := e
        exact ⟨_, e.symm⟩
      · cases e
    · cases hst
theorem ED_sound (hti : TiOK P ti) (pl : Plan ti N ops π kp L) (hok : planOK ti N ops π kp = true) : ∀ (l : List Oper) (k : Nat) (σ : St), k ≤ π.length → l = opl ops (π.drop k) → EV P ti G N ops l (.draw π kp K) σ → DWp P ti G N ops π k K σ
  | [], k, σ, hk, hl, h => DWp_end pl (opl_nil pl hl) h
  | o :: rest, k, σ, hk, hl, h => by
    obtain ⟨i0, hd, ho, hrest, hk1⟩ := opl_cons pl hl
    have hmem : o ∈ ops.toList := by simpa using Array.mem_of_getElem? ho
    have hdst := pl.dst o hmem
    have h0 := h
    unfold EV evk at h
    obtain ⟨t, ht, h1, h2⟩ := bindP_elim h
    by_cases hst : t = true ∧ stops o.op = true
    · have := h1 hst.1
      rw [if_pos hst.2] at this
      have hlen : π.length - (o :: rest).length = k := by
        have e1 : (o :: rest).length = π.length - k := by
          rw [hl, opl]
          have : ∀ l : List Nat, (∀ i ∈ l, (ops[i]?).isSome = true) → (l.filterMap fun i => ops[i]?).length = l.length := by
            intro l
            induction l with
            | nil => intro _; rfl
            | cons i l ih =>
              intro hh
              obtain ⟨v, hv⟩ := Option.isSome_iff_exists.1 (hh i (by simp))
              rw [List.filterMap_cons, hv]
              simp [ih (fun j hj => hh j (by simp [hj]))]
          rw [this _ (fun i hi => by rw [Array.getElem?_eq_getElem (pl.lt (List.mem_of_mem_drop hi))]; rfl)]
          simp
        omega
      have h3 : HO P ti G N ops (o :: rest) (.draw π kp K) σ := this
      unfold HO at h3
      simp only at h3
      rw [hlen] at h3
      exact h3 hok hl
    · by_cases he : isEff ti o = true
      · refine DWp_step pl hd ho hk1 he fun E0 r0 w0 E b w hR hS a C heq hwq hC => ?_
        have hgd := gd_sound hR ht
        rw [hwq] at hgd
        cases t with
        | true =>
          rw [if_pos hgd]
          have h1 := h1 rfl
          rw [if_neg (fun hs => hst ⟨rfl, hs⟩)] at h1
          obtain ⟨⟨v, r'⟩, hq, h3⟩ := bindP_elim h1
          obtain ⟨x, w', E', hrun, hra, hgood, hstp⟩ := evA_sound (P := P) hti hR.good (fun y => ev_sound hR y) hq
          have hrel := hR.putO hstp hgood hdst hra
          rw [putR_eq] at hrel
          have hkeep : isKeep kp i0 o = true → Keeps w w' := fun hkp => by
            have hko : keepOp o.op = true := by
              unfold isKeep at hkp
              simp only [Bool.or_eq_true, Bool.and_eq_true] at hkp
              exact hkp.resolve_right fun h => hst ⟨rfl, h.1⟩
            exact keep_run hti hko hq hrun
          have fin := hC x w' E' _ hrel (hS.trans hstp) hkeep (ED_sound hti pl hok rest (k + 1) _ hk1 hrest h3)
          rw [heq] at hrun
          unfold Oper.wp
          rcases hrun with hrun | ⟨hrun, rfl⟩
          · rw [hrun, Oper.upon_value]; exact fin
          · rw [hrun, Oper.upon_skip]; exact fin
        | false =>
          rw [if_neg (by rw [hgd]; simp)]
          have hrel := hR.putO (r' := σ.r) (Step.refl _ _ _) hR.good hdst (v := undA) (x := undef) (by simp [RA, RAL, undef])
          rw [putR_eq] at hrel
          exact hC undef w E _ hrel hS (fun _ => Keeps.refl w) (ED_sound hti pl hok rest (k + 1) _ hk1 hrest (h2 rfl))
      · have he' : isEff ti o = false := by simpa using he
        have hro : roOp ti o.op = true ∧ stops o.op = false := by
          unfold isEff at he'
          simp only [Bool.or_eq_false_iff, Bool.not_eq_false'] at he'
          exact he'
        cases t with
        | true =>
          have h1 := h1 rfl
          rw [hro.2] at h1
          simp only [Bool.false_eq_true, if_false] at h1
          obtain ⟨⟨v, r'⟩, hq, h3⟩ := bindP_elim h1
          obtain ⟨hq', rfl⟩ := evA_ro hro.1 hq
          refine DWp_read pl hd ho hk1 he' (σ' := σ.putR o.dst v σ.r) rfl (fun E a w hR => ?_) (ED_sound hti pl hok rest (k + 1) _ hk1 hrest h3)
          have hgd := gd_sound hR ht
          obtain ⟨z, hz, hza⟩ := evP_sound (P := P) hti hR.good (fun y => ev_sound hR y) hq'
          have hrel := hR.putO (Step.refl _ _ _) hR.good hdst hza
          rw [putR_eq] at hrel
          by_cases hpu : pureOp ti o.op = true
          · obtain ⟨z2, hz2, hra2⟩ := pure_free (P := P) hti hR.good (fun y => ev_sound hR y) hpu hq'
            have : z = z2 := by have := hz2 w; rw [hz] at this; simpa using this
            subst this
            exact ⟨z, fun w' _ => .inl ⟨hgd, hz2 w'⟩, hrel⟩
          · refine ⟨z, fun w' hw' => ?_, hrel⟩
            rcases hw' with h | ⟨h, hkp⟩ | rfl
            · exact absurd h hpu
            · exact .inl ⟨hgd, st_run hti hR.good (fun y => ev_sound hR y) h hpu hq' hz hkp⟩
            · exact .inl ⟨hgd, hz⟩
        | false =>
          refine DWp_read pl hd ho hk1 he' (σ' := σ.putR o.dst undA σ.r) rfl (fun E a w hR => ?_) (ED_sound hti pl hok rest (k + 1) _ hk1 hrest (h2 rfl))
          have hgd := gd_sound hR ht
          have hrel := hR.putO (r' := σ.r) (Step.refl _ _ _) hR.good hdst (v := undA) (x := undef) (by simp [RA, RAL, undef])
          rw [putR_eq] at hrel
          exact ⟨undef, fun w' _ => .inr ⟨hgd, rfl⟩, hrel⟩
/-- A drawn region, in the text's order. -/
theorem HC_plan (kp : List Nat) (hti : TiOK P ti) (hm : P.follows .mixedOrders = true) {id : Nat} {l : List Oper} (hok : planOK ti N l.toArray (List.range l.length) kp = true) (h : EV P ti G N l.toArray l (.draw (List.range l.length) kp K) σ) : HC P ti G N (.region id l.toArray true) K σ := by
  intro E0 r0 w0 E a w hR hS
  refine wp_region_any hm ?_
  have hrel : Rel G N E σ a w.drew := ⟨hR.size, fun i => (hR.slot i).step (step_drew E σ.r w), good_drew hR.good, hR.defers⟩
  obtain ⟨L, pl⟩ := plan_of hok
  have hl : l = opl l.toArray ((List.range l.length).drop 0) := by
    rw [List.drop_zero, opl]
    apply List.ext_getElem?
    intro i
    have : (List.range l.length).filterMap (fun i => l.toArray[i]?) = l := by
      have : ∀ l : List Oper, (List.range l.length).filterMap (fun i => l[i]?) = l := by
        intro l
        induction l with
        | nil => rfl
        | cons a l ih => rw [List.length_cons, List.range_succ_eq_map, List.filterMap_cons]; simp [List.filterMap_map, Function.comp_def, ih]
      simpa using this l
    rw [this]
  have := ED_sound (K := K) hti pl hok l 0 σ (Nat.zero_le _) hl h E0 r0 w0 E a w.drew [] ⟨fun e he => (by simp at he), by simp, fun i hi => by simp at hi, fun e he => (by simp at he), trivial⟩ hrel (hS.trans (step_drew E σ.r w))
  have e1 : lstU l.toArray (([] : List Ent).map (·.1) ++ (List.range l.length).drop 0) = Array.replicate l.toArray.size false := by
    apply Array.ext
    · simp [lstU]
    · intro i h1 h2
      have : i < l.length := by simpa [lstU] using h1
      simp [lstU, this]
  rw [e1] at this
  simp only [List.length_nil, List.length_range, Nat.zero_add, Nat.sub_zero] at this
  refine wpAny_mono' (fun e a w h => ?_) _ _ _ _ this
  cases e <;> first | exact h | exact h.elim
/-- .. in another order. -/
theorem HC_order (kp : List Nat) (hti : TiOK P ti) (hm : P.follows .mixedOrders = true) {id : Nat} {l : List Oper} (π : List Nat) (hok : planOK ti N l.toArray π kp = true) (hlen : π.length = l.length) (l' : List Oper) (hl : l' = opl l.toArray π) (h : EV P ti G N l.toArray l' (.draw π kp K) σ) : HC P ti G N (.region id l.toArray true) K σ := by
  intro E0 r0 w0 E a w hR hS
  refine wp_region_any hm ?_
  have hrel : Rel G N E σ a w.drew := ⟨hR.size, fun i => (hR.slot i).step (step_drew E σ.r w), good_drew hR.good, hR.defers⟩
  obtain ⟨L, pl⟩ := plan_of hok
  have := ED_sound (K := K) hti pl hok l' 0 σ (Nat.zero_le _) (by rw [List.drop_zero]; exact hl) h E0 r0 w0 E a w.drew [] ⟨fun e he => (by simp at he), by simp, fun i hi => by simp at hi, fun e he => (by simp at he), trivial⟩ hrel (hS.trans (step_drew E σ.r w))
  have e1 : lstU l.toArray (([] : List Ent).map (·.1) ++ π.drop 0) = Array.replicate l.toArray.size false := by
    apply Array.ext
    · simp [lstU]
    · intro i h1 h2
      have hi : i < l.length := by simpa [lstU] using h1
      have := pl.all i (by simpa using hi)
      simp [lstU, this]
  rw [e1] at this
  have e2 : l.toArray.size = π.length := by simp [hlen]
  simp only [List.length_nil, Nat.zero_add, Nat.sub_zero] at this
  rw [← e2] at this
  refine wpAny_mono' (fun e a w h => ?_) _ _ _ _ this
  cases e <;> first | exact h | exact h.elim
/-! ### Calls, in regions of either kind -/
theorem HO_call (hti : TiOK P ti) {o : Oper} {rest : List Oper} {M : KM} {f : FuncId} {as args : List AV} {r : Rs} {O : AV → Rs → Prop} {c : Call} (ts : List Nat) (h : AC P G f args r O) (ho : o.op = .call c)
    (hg : gd ops σ o = some true) (hc : calleeOf (σ.ev G) c = some (f, as)) (hd : (o :: rest).all (dstOK N) = true) (hnd : ts.Nodup)
    (hs : (∀ t ∈ ts, t < σ.r.length) ∧ WkAs as (renL (nm ts σ.r.length) args) ∧ wfL r.length args = true ∧ HandOK (nm ts σ.r.length) σ.r r ts ∧ wfRs r.length r = true) (hkp : r = [] ∨ kpFree M (o :: rest).length = true)
    (hk : ∀ v r', O v r' → r.length ≤ r'.length → EV P ti G N ops rest M (σ.putR o.dst (ren (nm ts σ.r.length) v) (putAll (nm ts σ.r.length) σ.r ts r'))) : HO P ti G N ops (o :: rest) M σ := by
  cases M with
  | plain K => exact HO_callP hti ts h ho hg hc hd hnd hs hk
  | draw π kp K =>
    intro hok hl
    obtain ⟨L, pl⟩ := plan_of hok
    obtain ⟨i0, hd0, ho0, hrest, hk1⟩ := opl_cons pl hl
    simp only [List.all_cons, Bool.and_eq_true] at hd
    have he : isEff ti o = true := by
      unfold isEff
      have : stops o.op = true := by
        rw [ho]
        unfold calleeOf at hc
        split at hc
        · rename_i x hx; simp [stops, hx]
        · cases hc
      simp [this]
    refine DWp_step pl hd0 ho0 hk1 he fun E0 r0 w0 E b w hR hS a C heq hwq hC => ?_
    have hgd := gd_sound hR hg
    rw [hwq] at hgd
    rw [if_pos hgd]
    obtain ⟨vals, hrun, hral⟩ := callee_run (P := P) (fun x => ev_sound hR x) ho hc h.1
    unfold Oper.wp
    rw [← heq, hrun, Oper.upon_enter]
    obtain ⟨hw, hwf, hh, hwr⟩ := hs.2
    obtain ⟨hl2, hh⟩ := HandOK_at hh
    refine (call_core h hnd hs.1 hR.good (WkAs_sound hw hral) hwf hl2 (fun j x hj => hh j x _ hj (nm_lt (by have := (List.getElem?_eq_some_iff.1 hj).1; omega))) hwr).mono fun e w' hq => ?_
    obtain ⟨v, x, r', E', rfl, hO, hle, hra, hgood, hst, hkeep⟩ := hq
    have hrel := hR.putO hst hgood hd.1 hra
    rw [putR_eq] at hrel
    have hkk : isKeep kp i0 o = true → Keeps w w' := by
      intro hki
      rcases hkp with h | h
      · exact hkeep h
      · exfalso
        have hg0 : π.getD (π.length - (o :: rest).length) 0 = i0 := by
          have h1 : (π.drop (π.length - (o :: rest).length))[0]? = some i0 := by rw [hd0]; rfl
          rw [List.getElem?_drop, Nat.add_zero] at h1
          rw [List.getD_eq_getElem?_getD, h1]; rfl
        unfold kpFree at h
        simp only [hg0, Bool.not_eq_true'] at h
        unfold isKeep at hki
        rw [h, ho] at hki
        simp [keepOp] at hki
    exact hC x w' E' _ hrel (hS.trans hst) hkk (ED_sound hti pl hok rest _ _ hk1 hrest (hk v r' hO hle))
theorem HO_pure (hti : TiOK P ti) {o : Oper} {rest : List Oper} {M : KM} {f : FuncId} {as args : List AV} {v0 : AV} {c : Call} (h : AC P G f args [] (fun v r' => v = v0 ∧ r' = [])) (ho : o.op = .call c)
    (hg : gd ops σ o = some true) (hc : calleeOf (σ.ev G) c = some (f, as)) (hd : (o :: rest).all (dstOK N) = true) (ha : ∀ g, renL g args = args) (hv : ∀ g, ren g v0 = v0) (hwf : wfL 0 args = true) (hw : WkAs as args)
    (hk : EV P ti G N ops rest M (σ.putR o.dst v0 σ.r)) : HO P ti G N ops (o :: rest) M σ := by
  refine HO_call hti [] h ho hg hc hd (by simp) ⟨by simp, by rw [ha]; exact hw, hwf, by simp [HandOK], rfl⟩ (.inl rfl) ?_
  rintro v r' ⟨rfl, rfl⟩ _
  rw [hv, putAll_nil]
  exact hk
end
end Go.Proofs.YteeknmjjpcbphaaDoor
