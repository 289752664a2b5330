import Derived.Test.YtfeoafddagdbfaaCPutTs
set_option linter.unusedVariables false
set_option linter.unusedSimpArgs false
set_option maxRecDepth 100000
namespace Go.Proofs.Ytfeoafddagdbfaa
open Go Go.ChangeShapes Go.WideShapes
def putF (b : List UInt8) (f : Fct) : List UInt8 := f.l.foldl putC (putTx (putTx (putTx b f.a) f.b) f.p ++ leb (zig (f.l.length : Int)))
def putF3 (b : List UInt8) (f : Fct) : List UInt8 := [f.a, f.b, f.p].foldl putTx b
def okF (f : Fct) : Prop := ∀ c ∈ f.l, okC c
theorem good_size {c : Cst} (h : goodC c = true) : c.s.size ≤ 32 := by
  obtain ⟨q, n, s⟩ := c
  unfold goodC at h
  cases q with
  | true =>
    simp only [if_true, decide_eq_true_eq] at h
    rw [h]; exact Nat.zero_le _
  | false =>
    simp only [Bool.false_eq_true, if_false, txtOK, Bool.and_eq_true, decide_eq_true_eq] at h
    exact h.2.2
theorem txt_size {s : ByteArray} (h : txtOK s = true) : 1 ≤ s.size ∧ s.size ≤ 32 := by simpa [txtOK] using h
theorem chkF_iff {f : Fct} (h : chkF f = true) : txtOK f.a = true ∧ txtOK f.b = true ∧ txtOK f.p = true ∧ f.l.length ≤ 48 ∧ ∀ c ∈ f.l, goodC c = true := by
  simp only [chkF, Bool.and_eq_true, decide_eq_true_eq, List.all_eq_true] at h
  exact ⟨h.1, h.2.1, h.2.2.1, h.2.2.2.1, h.2.2.2.2⟩
theorem foldC_le : ∀ (l : List Cst) (b : List UInt8), (∀ c ∈ l, okC c ∧ goodC c = true) → (l.foldl putC b).length ≤ b.length + 43 * l.length
  | [], b, _ => by simp
  | t :: l, b, h => by
    have h0 := h t (by simp)
    have h1 := (putC_bd (b := b) h0.1 (by have := good_size h0.2; omega)).1
    have hs := good_size h0.2
    have h2 := foldC_le l (putC b t) (fun x hx => h x (by simp [hx]))
    rw [List.foldl_cons, List.length_cons]; omega
theorem foldX_le : ∀ (l : List ByteArray) (b : List UInt8), (∀ s ∈ l, s.size ≤ 32) → (l.foldl putTx b).length ≤ b.length + 42 * l.length
  | [], b, _ => by simp
  | s :: l, b, h => by
    have h1 := putTx_bd b (s := s) (by have := h s (by simp); omega)
    have hs := h s (by simp)
    have h2 := foldX_le l (putTx b s) (fun x hx => h x (by simp [hx]))
    rw [List.foldl_cons, List.length_cons]; omega
theorem putF_le {b : List UInt8} {f : Fct} (ho : okF f) (h : chkF f = true) : (putF b f).length ≤ b.length + 2300 := by
  obtain ⟨h1, h2, h3, h4, h5⟩ := chkF_iff h
  have hx := foldX_le [f.a, f.b, f.p] b (by
    intro s hs
    simp only [List.mem_cons, List.not_mem_nil, or_false] at hs
    rcases hs with rfl | rfl | rfl
    · exact (txt_size h1).2
    · exact (txt_size h2).2
    · exact (txt_size h3).2)
  have hc := foldC_le f.l (putTx (putTx (putTx b f.a) f.b) f.p ++ leb (zig (f.l.length : Int))) (fun c hc => ⟨ho c hc, h5 c hc⟩)
  have hl := leb_nat (n := f.l.length) (by omega)
  rw [List.length_append] at hc
  simp only [List.foldl_cons, List.foldl_nil, List.length_cons, List.length_nil] at hx
  unfold putF; omega
set_option maxHeartbeats 400000 in
theorem cloneB_ac (b : List UInt8) (hb : b.length ≤ 140737488355000) : AC Try.prog noG 43 [.d (.sl 1 b.length (bD b))] [] (fun v r' => v = .sl (.own 0) 1 b.length (bD b) ∧ r' = [some (.tok b.length)]) := by
  by_cases h0 : b = []
  · subst h0
    refine AC.empty ?_
    intro A c
    refine AC.fit ?_
    refine AC_of_R (N := 8) (res := [.tmp 2]) ty_ok Try.call43 Try.func43 rfl rfl rfl (Nat.le_of_ble_eq_true rfl) ?_
    cases A with
    | none =>
      refine rn0 ?_
      exact fv0 [0] [0]
    | some a =>
      refine rn0 ?_
      exact fv0 [0] []
  · have hn : 0 < b.length := List.length_pos_iff.2 h0
    refine AC.fit ?_
    refine AC_of_R (N := 8) (res := [.tmp 2]) ty_ok Try.call43 Try.func43 rfl rfl rfl (Nat.le_of_ble_eq_true rfl) ?_
    refine rn1 @hn ?_
    (repeat (refine And.intro (by omega) ?_))
    exact fv0 [0] []

def tD (l : List ByteArray) : List D := l.map fun s => .c (.string s)
theorem tD_len (l : List ByteArray) : (tD l).length = l.length := List.length_map ..
theorem drop_tD (l : List ByteArray) (i : Nat) (h : i < l.length) : ((tD l).drop i)[0]? = some (.c (.string l[i])) := by rw [List.getElem?_drop, Nat.add_zero, tD, List.getElem?_map, List.getElem?_eq_getElem h]; rfl
def pfSt (f : Fct) (i : Nat) (acc : List UInt8) : List (Nat × AV) := [(3, .ptr 0 0), (5, .d (.c (.int .i64 0))), (23, .d (.sl 1 3 (tD [f.a, f.b, f.p]))), (24, .d (.c (.int .i64 3))), (25, .d (.c (.int .i64 i))), (6, .sl (.own 2) 1 acc.length (bD acc))]
def pfRe (f : Fct) (acc : List UInt8) : Rs := [some (.obj ((fctE f).map .d)), none, some (.tok acc.length)]
def pcSt (f : Fct) (i : Nat) (acc : List UInt8) : List (Nat × AV) := [(39, .d (.sl 3 f.l.length (flatE cstE f.l))), (40, .d (.c (.int .i64 f.l.length))), (41, .d (.c (.int .i64 i))), (6, .sl (.own 4) 1 acc.length (bD acc))]
def pcRe (acc : List UInt8) : Rs := [none, none, none, none, some (.tok acc.length)]
def putFR (b : List UInt8) (f : Fct) : List UInt8 := if chkF f then putF b f else b
set_option maxHeartbeats 1000000 in
theorem putF_ac (b : List UInt8) (f : Fct) (ho : okF f) (hf : f.l.length ≤ 140737488352000) (hb : b.length ≤ 140737488200000) : AC Try.prog noG 22 [.d (.sl 1 b.length (bD b)), .d (.agg (fctE f))] []
    (fun v r' => v = .tup [.sl (.own 0) 1 (putFR b f).length (bD (putFR b f)), .d (.c (.int .i64 (chkE f)))] ∧ r' = [some (.tok (putFR b f).length)]) := by
  refine AC.fit ?_
  refine AC_of_R (N := 50) (res := [.tmp 4, .tmp 5]) ty_ok Try.call22 Try.func22 rfl rfl rfl (Nat.le_of_ble_eq_true rfl) ?_
  have hck := fchk_ac f hf
  refine rn1 @fctE.eq_1 ?_
  refine HO_callX ty_ok [] (cloneB_ac b (by omega)) (trivial) rfl ?_
  rintro v r' ⟨rfl, rfl⟩ _
  refine rn0 ?_
  refine HO_pureA ty_ok hck ?_
  by_cases hc : chkF f = true
  · have e1 : putFR b f = putF b f := if_pos hc
    rw [chkE_ok hc, e1]
    obtain ⟨k1, k2, k3, k4, k5⟩ := chkF_iff hc
    have s1 := txt_size k1
    have s2 := txt_size k2
    have s3 := txt_size k3
    have hF : putF b f = f.l.foldl putC ([f.a, f.b, f.p].foldl putTx b ++ leb (zig (f.l.length : Int))) := rfl
    have hs3 : ∀ s ∈ [f.a, f.b, f.p], s.size ≤ 32 := by
      intro s hs
      simp only [List.mem_cons, List.not_mem_nil, or_false] at hs
      rcases hs with rfl | rfl | rfl <;> omega
    refine rn0 ?_
    refine HC_loopR (fun i : Nat => pfSt f i (([f.a, f.b, f.p].take i).foldl putTx b)) (fun i => pfRe f (([f.a, f.b, f.p].take i).foldl putTx b)) (fun i => i ≤ 3) (fun i => 3 - i) 0 [0, 0, 1] [] (by omega) ?_ ?_
    · exact ft1 (jn @pfSt.eq_1 (jn @pfRe.eq_1 (jn @List.take_zero.{0} (jn @List.foldl_nil.{0, 0} (jn @fctE.eq_1 @tD.eq_1)))))
    intro i hi1
    refine HC_of_R ty_ok ?_
    by_cases hlt : i < 3
    · have hi : (i : Int) < 3 := by omega
      have hd := drop_tD [f.a, f.b, f.p] i hlt
      have hle := tD_len [f.a, f.b, f.p]
      have hstep := fold_take putTx [f.a, f.b, f.p] i hlt b
      have hacc := foldX_le ([f.a, f.b, f.p].take i) b (fun s h => hs3 s (List.mem_of_mem_take h))
      rw [List.length_take] at hacc
      have hsz := hs3 [f.a, f.b, f.p][i] (List.getElem_mem hlt)
      generalize [f.a, f.b, f.p][i] = s at *
      generalize ([f.a, f.b, f.p].take i).foldl putTx b = acc at *
      simp only [List.length_cons, List.length_nil] at hacc hle
      have hk := putText_ac acc s (by omega) (by omega)
      rw [← hstep] at hk
      refine rn1 (jn @pfSt.eq_1 (jn @pfRe.eq_1 (jn @fctE.eq_1 (jn @hi (jn @hd @hle))))) ?_
      (repeat (refine And.intro (by omega) ?_))
      refine HO_callX ty_ok [] hk (trivial) rfl ?_
      rintro v r' ⟨rfl, rfl⟩ _
      refine rn0 ?_
      (repeat (refine And.intro (by omega) ?_))
      refine ⟨i + 1, by omega, by omega, [0, 1, 3], [], ?_⟩
      exact ft1 (jn @pfSt.eq_1 (jn @pfRe.eq_1 @fctE.eq_1))
    · have hi : ¬ (i : Int) < 3 := by omega
      have h3 : [f.a, f.b, f.p].take i = [f.a, f.b, f.p] := List.take_of_length_le (by simp only [List.length_cons, List.length_nil]; omega)
      rw [h3]
      have hx := foldX_le [f.a, f.b, f.p] b hs3
      simp only [List.length_cons, List.length_nil] at hx
      obtain ⟨b3, hb3⟩ : ∃ b3, b3 = [f.a, f.b, f.p].foldl putTx b := ⟨_, rfl⟩
      rw [← hb3] at hx hF ⊢
      have hpi := putInt_ac b3 (f.l.length : Int) (by omega) (by omega) (by omega)
      have hb0l := leb_nat (n := f.l.length) (by omega)
      obtain ⟨b0, hb0⟩ : ∃ b0, b0 = b3 ++ leb (zig (f.l.length : Int)) := ⟨_, rfl⟩
      have hb0e : b0.length = b3.length + (leb (zig (f.l.length : Int))).length := by rw [hb0, List.length_append]
      rw [← hb0] at hpi hF
      rw [hF]
      refine rn1 (jn @pfSt.eq_1 (jn @pfRe.eq_1 (jn @fctE.eq_1 @hi))) ?_
      refine HO_callX ty_ok [] hpi (trivial) rfl ?_
      rintro v r' ⟨rfl, rfl⟩ _
      refine rn0 ?_
      refine HC_loopR (fun i : Nat => pcSt f i ((f.l.take i).foldl putC b0)) (fun i => pcRe ((f.l.take i).foldl putC b0)) (fun i => i ≤ f.l.length) (fun i => f.l.length - i) 0 [0, 0, 0, 0, 3] [] (by omega) ?_ ?_
      · exact ft1 (jn @pcSt.eq_1 (jn @pcRe.eq_1 (jn @List.take_zero.{0} @List.foldl_nil.{0, 0})))
      intro i hi1
      refine HC_of_R ty_ok ?_
      by_cases hlt : i < f.l.length
      · have hi : (i : Int) < f.l.length := by omega
        have hd := flatE_drop cstE_len f.l i hlt
        have hle := flatE_len cstE_len f.l
        have hstep := fold_take putC f.l i hlt b0
        have hoc := ho f.l[i] (List.getElem_mem hlt)
        have hgc := good_size (k5 f.l[i] (List.getElem_mem hlt))
        have hacc := foldC_le (f.l.take i) b0 (fun t h => ⟨ho t (List.mem_of_mem_take h), k5 t (List.mem_of_mem_take h)⟩)
        rw [List.length_take] at hacc
        generalize f.l[i] = c at *
        generalize (f.l.take i).foldl putC b0 = acc at *
        have hk := putC_ac acc c hoc (by omega)
        rw [← hstep] at hk
        simp only [cstE, List.cons_append, List.nil_append] at hd hk
        refine rn1 (jn @pcSt.eq_1 (jn @pcRe.eq_1 (jn @hi (jn @hd (jn @hle @cstE.eq_1))))) ?_
        (repeat (refine And.intro (by omega) ?_))
        refine HO_callX ty_ok [4] hk (⟨fun y h => by injection h with h; subst h; rfl, trivial⟩) (rfl) ?_
        rintro v r' ⟨rfl, rfl⟩ _
        refine rn0 ?_
        (repeat (refine And.intro (by omega) ?_))
        refine ⟨i + 1, by omega, by omega, [0, 1, 2, 3, 6], [], ?_⟩
        exact ft1 (jn @pcSt.eq_1 @pcRe.eq_1)
      · have hi : ¬ (i : Int) < f.l.length := by omega
        rw [List.take_of_length_le (by omega)]
        refine rn1 (jn @pcSt.eq_1 (jn @pcRe.eq_1 @hi)) ?_
        exact fv0 [4] []
  · have e1 : putFR b f = b := if_neg hc
    rw [chkE_no hc, e1]
    refine rn0 ?_
    exact fv0 [1] []
end Go.Proofs.Ytfeoafddagdbfaa
