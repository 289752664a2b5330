/- Parts of the proof: PutTs, PutF, RPutF, Rdr, RdV, RdTs. -/
import Derived.Test.YtdbicadncccpoaaCJ1
set_option linter.unusedVariables false
set_option linter.unusedSimpArgs false
set_option maxRecDepth 100000
namespace Go.Proofs.Ytdbicadncccpoaa
open Go Go.ChangeShapes Go.WideShapes
def putTs (b : List UInt8) (l : List Trm) : List UInt8 := l.foldl putT (b ++ leb (zig (l.length : Int)))
def okT (t : Trm) : Prop := okC t.c ∧ t.v.size ≤ 32 ∧ t.c.s.size ≤ 32
theorem putT_le {b : List UInt8} {t : Trm} (h : okT t) : (putT b t).length ≤ b.length + 76 := by
  have := putT_bd (b := b) h.1 (by have := h.2; omega)
  have := h.2
  omega
theorem fold_le : ∀ (l : List Trm) (b : List UInt8), (∀ t ∈ l, okT t) → (l.foldl putT b).length ≤ b.length + 76 * l.length
  | [], b, _ => by simp
  | t :: l, b, h => by
    have h1 := putT_le (b := b) (h t (by simp))
    have h2 := fold_le l (putT b t) (fun x hx => h x (by simp [hx]))
    rw [List.foldl_cons, List.length_cons]; omega
theorem fold_take {α β : Type} (f : β → α → β) (l : List α) (i : Nat) (h : i < l.length) (b : β) : (l.take (i + 1)).foldl f b = f ((l.take i).foldl f b) l[i] := by rw [List.take_succ_eq_append_getElem h, List.foldl_append]; rfl
theorem leb_nat {n : Nat} (h : n ≤ 140737488355000) : (leb (zig (n : Int))).length ≤ 10 := leb64_len (by omega) (by omega)
theorem putTs_le {b : List UInt8} {l : List Trm} (h : ∀ t ∈ l, okT t) (hl : l.length ≤ 140737488355000) : (putTs b l).length ≤ b.length + 10 + 76 * l.length := by
  have h1 := fold_le l (b ++ leb (zig (l.length : Int))) h
  have h2 := leb_nat hl
  rw [List.length_append] at h1
  unfold putTs; omega
def ptRe (acc : List UInt8) : Rs := [none, none, some (.tok acc.length)]
def ptSt (l : List Trm) (i : Nat) (acc : List UInt8) : List (Nat × AV) := [(0, .sl (.own 2) 1 acc.length (bD acc)), (11, .d (.sl 4 l.length (flatE trmE l))), (12, .d (.c (.int .i64 l.length))), (13, .d (.c (.int .i64 i)))]
def rptSt (l : List Trm) (i : Nat) (acc : List UInt8) : List (Nat × AV) := [(0, .sl (.own 2) 1 acc.length (bD acc)), (1, .d (.sl 4 l.length (flatE trmE l))), (5, .d (.c (.int .i64 i)))]
end Go.Proofs.Ytdbicadncccpoaa

set_option linter.unusedVariables false
set_option linter.unusedSimpArgs false
set_option maxRecDepth 100000
namespace Go.Proofs.Ytdbicadncccpoaa
open Go Go.ChangeShapes Go.WideShapes
def putF (b : List UInt8) (f : Fct) : List UInt8 := f.l.foldl putC (putTx (putTx (putTx b f.a) f.b) f.p ++ leb (zig (f.l.length : Int)))
def putF3 (b : List UInt8) (f : Fct) : List UInt8 := [f.a, f.b, f.p].foldl putTx b
def okF (f : Fct) : Prop := ∀ c ∈ f.l, okC c
theorem good_size {c : Cst} (h : goodC c = true) : c.s.size ≤ 32 := by
  obtain ⟨q, n, s⟩ := c
  unfold goodC at h
  cases q with
  | true =>
    simp only [if_true, decide_eq_true_eq] at h
    rw [h]; exact Nat.zero_le _
  | false =>
    simp only [Bool.false_eq_true, if_false, txtOK, Bool.and_eq_true, decide_eq_true_eq] at h
    exact h.2.2
theorem txt_size {s : ByteArray} (h : txtOK s = true) : 1 ≤ s.size ∧ s.size ≤ 32 := by simpa [txtOK] using h
theorem chkF_iff {f : Fct} (h : chkF f = true) : txtOK f.a = true ∧ txtOK f.b = true ∧ txtOK f.p = true ∧ f.l.length ≤ 48 ∧ ∀ c ∈ f.l, goodC c = true := by
  simp only [chkF, Bool.and_eq_true, decide_eq_true_eq, List.all_eq_true] at h
  exact ⟨h.1, h.2.1, h.2.2.1, h.2.2.2.1, h.2.2.2.2⟩
theorem foldC_le : ∀ (l : List Cst) (b : List UInt8), (∀ c ∈ l, okC c ∧ goodC c = true) → (l.foldl putC b).length ≤ b.length + 43 * l.length
  | [], b, _ => by simp
  | t :: l, b, h => by
    have h0 := h t (by simp)
    have h1 := (putC_bd (b := b) h0.1 (by have := good_size h0.2; omega)).1
    have hs := good_size h0.2
    have h2 := foldC_le l (putC b t) (fun x hx => h x (by simp [hx]))
    rw [List.foldl_cons, List.length_cons]; omega
theorem foldX_le : ∀ (l : List ByteArray) (b : List UInt8), (∀ s ∈ l, s.size ≤ 32) → (l.foldl putTx b).length ≤ b.length + 42 * l.length
  | [], b, _ => by simp
  | s :: l, b, h => by
    have h1 := putTx_bd b (s := s) (by have := h s (by simp); omega)
    have hs := h s (by simp)
    have h2 := foldX_le l (putTx b s) (fun x hx => h x (by simp [hx]))
    rw [List.foldl_cons, List.length_cons]; omega
theorem putF_le {b : List UInt8} {f : Fct} (ho : okF f) (h : chkF f = true) : (putF b f).length ≤ b.length + 2300 := by
  obtain ⟨h1, h2, h3, h4, h5⟩ := chkF_iff h
  have hx := foldX_le [f.a, f.b, f.p] b (by
    intro s hs
    simp only [List.mem_cons, List.not_mem_nil, or_false] at hs
    rcases hs with rfl | rfl | rfl
    · exact (txt_size h1).2
    · exact (txt_size h2).2
    · exact (txt_size h3).2)
  have hc := foldC_le f.l (putTx (putTx (putTx b f.a) f.b) f.p ++ leb (zig (f.l.length : Int))) (fun c hc => ⟨ho c hc, h5 c hc⟩)
  have hl := leb_nat (n := f.l.length) (by omega)
  rw [List.length_append] at hc
  simp only [List.foldl_cons, List.foldl_nil, List.length_cons, List.length_nil] at hx
  unfold putF; omega
set_option maxHeartbeats 400000 in
theorem cloneB_ac (b : List UInt8) (hb : b.length ≤ 140737488355000) : AC Try.prog noG 67 [.d (.sl 1 b.length (bD b))] [] (fun v r' => v = .sl (.own 0) 1 b.length (bD b) ∧ r' = [some (.tok b.length)]) := by
  by_cases h0 : b = []
  · subst h0
    refine AC.empty ?_
    intro A c
    refine AC.fit ?_
    refine AC_of_R (N := 8) (res := [.tmp 2]) ty_ok Try.call67 Try.func67 rfl rfl rfl (Nat.le_of_ble_eq_true rfl) ?_
    cases A with
    | none =>
      refine rn0 ?_
      exact fv0 [0] [0]
    | some a =>
      refine rn0 ?_
      exact fv0 [0] []
  · have hn : 0 < b.length := List.length_pos_iff.2 h0
    refine AC.fit ?_
    refine AC_of_R (N := 8) (res := [.tmp 2]) ty_ok Try.call67 Try.func67 rfl rfl rfl (Nat.le_of_ble_eq_true rfl) ?_
    refine rn1 @hn ?_
    (repeat (refine And.intro (by omega) ?_))
    exact fv0 [0] []

def tD (l : List ByteArray) : List D := l.map fun s => .c (.string s)
theorem tD_len (l : List ByteArray) : (tD l).length = l.length := List.length_map ..
theorem drop_tD (l : List ByteArray) (i : Nat) (h : i < l.length) : ((tD l).drop i)[0]? = some (.c (.string l[i])) := by rw [List.getElem?_drop, Nat.add_zero, tD, List.getElem?_map, List.getElem?_eq_getElem h]; rfl
def pfSt (f : Fct) (i : Nat) (acc : List UInt8) : List (Nat × AV) := [(3, .ptr 0 0), (5, .d (.c (.int .i64 0))), (23, .d (.sl 1 3 (tD [f.a, f.b, f.p]))), (24, .d (.c (.int .i64 3))), (25, .d (.c (.int .i64 i))), (6, .sl (.own 2) 1 acc.length (bD acc))]
def pfRe (f : Fct) (acc : List UInt8) : Rs := [some (.obj ((fctE f).map .d)), none, some (.tok acc.length)]
def pcSt (f : Fct) (i : Nat) (acc : List UInt8) : List (Nat × AV) := [(39, .d (.sl 3 f.l.length (flatE cstE f.l))), (40, .d (.c (.int .i64 f.l.length))), (41, .d (.c (.int .i64 i))), (6, .sl (.own 4) 1 acc.length (bD acc))]
def pcRe (acc : List UInt8) : Rs := [none, none, none, none, some (.tok acc.length)]
def putFR (b : List UInt8) (f : Fct) : List UInt8 := if chkF f then putF b f else b
set_option maxHeartbeats 1000000 in
theorem putF_ac (b : List UInt8) (f : Fct) (ho : okF f) (hf : f.l.length ≤ 140737488352000) (hb : b.length ≤ 140737488200000) : AC Try.prog noG 36 [.d (.sl 1 b.length (bD b)), .d (.agg (fctE f))] []
    (fun v r' => v = .tup [.sl (.own 0) 1 (putFR b f).length (bD (putFR b f)), .d (.c (.int .i64 (chkE f)))] ∧ r' = [some (.tok (putFR b f).length)]) := by
  refine AC.fit ?_
  refine AC_of_R (N := 50) (res := [.tmp 4, .tmp 5]) ty_ok Try.call36 Try.func36 rfl rfl rfl (Nat.le_of_ble_eq_true rfl) ?_
  have hck := fchk_ac f hf
  refine rn1 @fctE.eq_1 ?_
  refine HO_callX ty_ok [] (cloneB_ac b (by omega)) (trivial) rfl ?_
  rintro v r' ⟨rfl, rfl⟩ _
  refine rn0 ?_
  refine HO_pureA ty_ok hck ?_
  by_cases hc : chkF f = true
  · have e1 : putFR b f = putF b f := if_pos hc
    rw [chkE_ok hc, e1]
    obtain ⟨k1, k2, k3, k4, k5⟩ := chkF_iff hc
    have s1 := txt_size k1
    have s2 := txt_size k2
    have s3 := txt_size k3
    have hF : putF b f = f.l.foldl putC ([f.a, f.b, f.p].foldl putTx b ++ leb (zig (f.l.length : Int))) := rfl
    have hs3 : ∀ s ∈ [f.a, f.b, f.p], s.size ≤ 32 := by
      intro s hs
      simp only [List.mem_cons, List.not_mem_nil, or_false] at hs
      rcases hs with rfl | rfl | rfl <;> omega
    refine rn0 ?_
    refine HC_loopR (fun i : Nat => pfSt f i (([f.a, f.b, f.p].take i).foldl putTx b)) (fun i => pfRe f (([f.a, f.b, f.p].take i).foldl putTx b)) (fun i => i ≤ 3) (fun i => 3 - i) 0 [0, 0, 1] [] (by omega) ?_ ?_
    · exact ft1 (jn @pfSt.eq_1 (jn @pfRe.eq_1 (jn @List.take_zero.{0} (jn @List.foldl_nil.{0, 0} (jn @fctE.eq_1 @tD.eq_1)))))
    intro i hi1
    refine HC_of_R ty_ok ?_
    by_cases hlt : i < 3
    · have hi : (i : Int) < 3 := by omega
      have hd := drop_tD [f.a, f.b, f.p] i hlt
      have hle := tD_len [f.a, f.b, f.p]
      have hstep := fold_take putTx [f.a, f.b, f.p] i hlt b
      have hacc := foldX_le ([f.a, f.b, f.p].take i) b (fun s h => hs3 s (List.mem_of_mem_take h))
      rw [List.length_take] at hacc
      have hsz := hs3 [f.a, f.b, f.p][i] (List.getElem_mem hlt)
      generalize [f.a, f.b, f.p][i] = s at *
      generalize ([f.a, f.b, f.p].take i).foldl putTx b = acc at *
      simp only [List.length_cons, List.length_nil] at hacc hle
      have hk := putText_ac acc s (by omega) (by omega)
      rw [← hstep] at hk
      refine rn1 (jn @pfSt.eq_1 (jn @pfRe.eq_1 (jn @fctE.eq_1 (jn @hi (jn @hd @hle))))) ?_
      (repeat (refine And.intro (by omega) ?_))
      refine HO_callX ty_ok [] hk (trivial) rfl ?_
      rintro v r' ⟨rfl, rfl⟩ _
      refine rn0 ?_
      (repeat (refine And.intro (by omega) ?_))
      refine ⟨i + 1, by omega, by omega, [0, 1, 3], [], ?_⟩
      exact ft1 (jn @pfSt.eq_1 (jn @pfRe.eq_1 @fctE.eq_1))
    · have hi : ¬ (i : Int) < 3 := by omega
      have h3 : [f.a, f.b, f.p].take i = [f.a, f.b, f.p] := List.take_of_length_le (by simp only [List.length_cons, List.length_nil]; omega)
      rw [h3]
      have hx := foldX_le [f.a, f.b, f.p] b hs3
      simp only [List.length_cons, List.length_nil] at hx
      obtain ⟨b3, hb3⟩ : ∃ b3, b3 = [f.a, f.b, f.p].foldl putTx b := ⟨_, rfl⟩
      rw [← hb3] at hx hF ⊢
      have hpi := putInt_ac b3 (f.l.length : Int) (by omega) (by omega) (by omega)
      have hb0l := leb_nat (n := f.l.length) (by omega)
      obtain ⟨b0, hb0⟩ : ∃ b0, b0 = b3 ++ leb (zig (f.l.length : Int)) := ⟨_, rfl⟩
      have hb0e : b0.length = b3.length + (leb (zig (f.l.length : Int))).length := by rw [hb0, List.length_append]
      rw [← hb0] at hpi hF
      rw [hF]
      refine rn1 (jn @pfSt.eq_1 (jn @pfRe.eq_1 (jn @fctE.eq_1 @hi))) ?_
      refine HO_callX ty_ok [] hpi (trivial) rfl ?_
      rintro v r' ⟨rfl, rfl⟩ _
      refine rn0 ?_
      refine HC_loopR (fun i : Nat => pcSt f i ((f.l.take i).foldl putC b0)) (fun i => pcRe ((f.l.take i).foldl putC b0)) (fun i => i ≤ f.l.length) (fun i => f.l.length - i) 0 [0, 0, 0, 0, 3] [] (by omega) ?_ ?_
      · exact ft1 (jn @pcSt.eq_1 (jn @pcRe.eq_1 (jn @List.take_zero.{0} @List.foldl_nil.{0, 0})))
      intro i hi1
      refine HC_of_R ty_ok ?_
      by_cases hlt : i < f.l.length
      · have hi : (i : Int) < f.l.length := by omega
        have hd := flatE_drop cstE_len f.l i hlt
        have hle := flatE_len cstE_len f.l
        have hstep := fold_take putC f.l i hlt b0
        have hoc := ho f.l[i] (List.getElem_mem hlt)
        have hgc := good_size (k5 f.l[i] (List.getElem_mem hlt))
        have hacc := foldC_le (f.l.take i) b0 (fun t h => ⟨ho t (List.mem_of_mem_take h), k5 t (List.mem_of_mem_take h)⟩)
        rw [List.length_take] at hacc
        generalize f.l[i] = c at *
        generalize (f.l.take i).foldl putC b0 = acc at *
        have hk := putC_ac acc c hoc (by omega)
        rw [← hstep] at hk
        simp only [cstE, List.cons_append, List.nil_append] at hd hk
        refine rn1 (jn @pcSt.eq_1 (jn @pcRe.eq_1 (jn @hi (jn @hd (jn @hle @cstE.eq_1))))) ?_
        (repeat (refine And.intro (by omega) ?_))
        refine HO_callX ty_ok [4] hk (⟨fun y h => by injection h with h; subst h; rfl, trivial⟩) (rfl) ?_
        rintro v r' ⟨rfl, rfl⟩ _
        refine rn0 ?_
        (repeat (refine And.intro (by omega) ?_))
        refine ⟨i + 1, by omega, by omega, [0, 1, 2, 3, 6], [], ?_⟩
        exact ft1 (jn @pcSt.eq_1 @pcRe.eq_1)
      · have hi : ¬ (i : Int) < f.l.length := by omega
        rw [List.take_of_length_le (by omega)]
        refine rn1 (jn @pcSt.eq_1 (jn @pcRe.eq_1 @hi)) ?_
        exact fv0 [4] []
  · have e1 : putFR b f = b := if_neg hc
    rw [chkE_no hc, e1]
    refine rn0 ?_
    exact fv0 [1] []
end Go.Proofs.Ytdbicadncccpoaa

set_option linter.unusedVariables false
set_option linter.unusedSimpArgs false
set_option maxRecDepth 100000
namespace Go.Proofs.Ytdbicadncccpoaa
open Go Go.ChangeShapes Go.WideShapes
def rpcSt (f : Fct) (i : Nat) (acc : List UInt8) : List (Nat × AV) := [(3, .ptr 0 0), (5, .d (.c (.int .i64 0))), (7, .d (.c (.int .i64 i))), (6, .sl (.own 6) 1 acc.length (bD acc))]
def rpcRe (f : Fct) (acc : List UInt8) : Rs := [some (.obj ((fctE f).map .d)), none, none, none, none, none, some (.tok acc.length)]
set_option maxHeartbeats 1000000 in
theorem rputF_ac (b : List UInt8) (f : Fct) (ho : okF f) (hf : f.l.length ≤ 140737488352000) (hb : b.length ≤ 140737488200000) : AC Try.prog noG 40 [.d (.sl 1 b.length (bD b)), .d (.agg (fctE f))] []
    (fun v r' => v = .tup [.sl (.own 0) 1 (putFR b f).length (bD (putFR b f)), .d (.c (.int .i64 (chkE f)))] ∧ r' = [some (.tok (putFR b f).length)]) := by
  refine AC.fit ?_
  refine AC_of_R (N := 47) (res := [.tmp 4, .tmp 5]) ty_ok Try.call40 Try.func40 rfl rfl rfl (Nat.le_of_ble_eq_true rfl) ?_
  have hck := rfchk_ac f hf
  refine rn1 @fctE.eq_1 ?_
  (repeat (refine And.intro (by omega) ?_))
  refine HO_pureA ty_ok hck ?_
  by_cases hc : chkF f = true
  · have e1 : putFR b f = putF b f := if_pos hc
    rw [chkE_ok hc, e1]
    obtain ⟨k1, k2, k3, k4, k5⟩ := chkF_iff hc
    have s1 := txt_size k1
    have s2 := txt_size k2
    have s3 := txt_size k3
    have hF : putF b f = f.l.foldl putC (putTx (putTx (putTx b f.a) f.b) f.p ++ leb (zig (f.l.length : Int))) := rfl
    have g1 := putTx_bd b (s := f.a) (by omega)
    have g2 := putTx_bd (putTx b f.a) (s := f.b) (by omega)
    have g3 := putTx_bd (putTx (putTx b f.a) f.b) (s := f.p) (by omega)
    have c1 := rputText_ac b f.a (by omega) (by omega)
    have c2 := rputText_ac (putTx b f.a) f.b (by omega) (by omega)
    have c3 := rputText_ac (putTx (putTx b f.a) f.b) f.p (by omega) (by omega)
    generalize putTx b f.a = b1 at *
    generalize putTx b1 f.b = b2 at *
    generalize putTx b2 f.p = b3 at *
    have hpi := rputInt_ac b3 (f.l.length : Int) (by omega) (by omega) (by omega)
    have hb0l := leb_nat (n := f.l.length) (by omega)
    obtain ⟨b0, hb0⟩ : ∃ b0, b0 = b3 ++ leb (zig (f.l.length : Int)) := ⟨_, rfl⟩
    have hb0e : b0.length = b3.length + (leb (zig (f.l.length : Int))).length := by rw [hb0, List.length_append]
    rw [← hb0] at hpi hF
    rw [hF]
    refine rn0 ?_
    refine HO_callX ty_ok [] c1 (trivial) rfl ?_
    rintro v r' ⟨rfl, rfl⟩ _
    refine rn0 ?_
    refine HO_callX ty_ok [] c2 (trivial) rfl ?_
    rintro v r' ⟨rfl, rfl⟩ _
    refine rn0 ?_
    refine HO_callX ty_ok [] c3 (trivial) rfl ?_
    rintro v r' ⟨rfl, rfl⟩ _
    refine rn0 ?_
    refine HO_callX ty_ok [] hpi (trivial) rfl ?_
    rintro v r' ⟨rfl, rfl⟩ _
    refine rn0 ?_
    refine HC_loopR (fun i : Nat => rpcSt f i ((f.l.take i).foldl putC b0)) (fun i => rpcRe f ((f.l.take i).foldl putC b0)) (fun i => i ≤ f.l.length) (fun i => f.l.length - i) 0 [0, 0, 0, 0, 0, 0, 5] [] (by omega) ?_ ?_
    · exact ft1 (jn @rpcSt.eq_1 (jn @rpcRe.eq_1 (jn @List.take_zero.{0} (jn @List.foldl_nil.{0, 0} @fctE.eq_1))))
    intro i hi1
    refine HC_of_R ty_ok ?_
    by_cases hlt : i < f.l.length
    · have hi : (i : Int) < f.l.length := by omega
      have hd := flatE_drop cstE_len f.l i hlt
      have hle := flatE_len cstE_len f.l
      have hstep := fold_take putC f.l i hlt b0
      have hoc := ho f.l[i] (List.getElem_mem hlt)
      have hgc := good_size (k5 f.l[i] (List.getElem_mem hlt))
      have hacc := foldC_le (f.l.take i) b0 (fun t h => ⟨ho t (List.mem_of_mem_take h), k5 t (List.mem_of_mem_take h)⟩)
      rw [List.length_take] at hacc
      generalize f.l[i] = c at *
      generalize (f.l.take i).foldl putC b0 = acc at *
      have hk := rputC_ac acc c hoc (by omega)
      rw [← hstep] at hk
      simp only [cstE, List.cons_append, List.nil_append] at hd hk
      refine rn1 (jn @rpcSt.eq_1 (jn @rpcRe.eq_1 (jn @fctE.eq_1 (jn @hi (jn @hd (jn @hle @cstE.eq_1)))))) ?_
      (repeat (refine And.intro (by omega) ?_))
      refine HO_callX ty_ok [6] hk (⟨fun y h => by injection h with h; subst h; rfl, trivial⟩) (rfl) ?_
      rintro v r' ⟨rfl, rfl⟩ _
      refine rn0 ?_
      (repeat (refine And.intro (by omega) ?_))
      refine ⟨i + 1, by omega, by omega, [0, 1, 2, 3, 4, 5, 7], [], ?_⟩
      exact ft1 (jn @rpcSt.eq_1 (jn @rpcRe.eq_1 @fctE.eq_1))
    · have hi : ¬ (i : Int) < f.l.length := by omega
      rw [List.take_of_length_le (by omega)]
      refine rn1 (jn @rpcSt.eq_1 (jn @rpcRe.eq_1 (jn @fctE.eq_1 @hi))) ?_
      exact fv0 [6] []
  · have e1 : putFR b f = b := if_neg hc
    rw [chkE_no hc, e1]
    refine rn0 ?_
    exact fv0 [1] []
end Go.Proofs.Ytdbicadncccpoaa

set_option linter.unusedVariables false
set_option linter.unusedSimpArgs false
set_option maxRecDepth 100000
namespace Go.Proofs.Ytdbicadncccpoaa
open Go Go.ChangeShapes Go.WideShapes
theorem rdAt_err (at_ : Nat) : ∀ (l : List UInt8) (i u : Nat), (rdAt at_ i u l).2.2 ≠ 0 → (rdAt at_ i u l).1 = 0
  | [], i, u, _ => by simp [rdAt]
  | c :: l, i, u, h => by
    rw [rdAt] at h ⊢
    split
    · rfl
    · rename_i h1
      rw [if_neg h1] at h
      split
      · rename_i h2
        rw [if_pos h2] at h
        exact rdAt_err at_ l _ _ h
      · rename_i h2
        rw [if_neg h2] at h
        split
        · rfl
        · rename_i h3
          rw [if_neg h3] at h
          exact absurd rfl h
theorem rdInt_err {b : List UInt8} {k : Int} (h : (rdInt b k).2.2 ≠ 0) : (rdInt b k).1 = 0 := by
  unfold rdInt at h ⊢
  split
  · rfl
  · rename_i h1
    rw [if_neg h1] at h
    exact rdAt_err _ _ _ _ h
theorem txt_err {b : List UInt8} {k : Int} (h : (txt b k).2.2 ≠ 0) : (txt b k).1 = ⟨#[]⟩ := by
  unfold txt at h ⊢
  split
  · rfl
  · rename_i h1
    rw [if_neg h1] at h
    split
    · rfl
    · rename_i h2
      rw [if_neg h2] at h
      exact absurd rfl h
theorem txt_bd (b : List UInt8) (k : Int) : (0 ≤ (txt b k).2.1 ∧ (txt b k).2.1 ≤ b.length) ∧ (0 ≤ (txt b k).2.2 ∧ (txt b k).2.2 ≤ 11) ∧ ((txt b k).2.2 = 0 → 0 ≤ k ∧ k < (txt b k).2.1) ∧ (txt b k).1.size ≤ 65536 := by
  have h := cnt_bd b k 65536
  unfold txt
  split
  · simp only; refine ⟨by omega, by omega, by omega, Nat.zero_le _⟩
  · rename_i he
    have he : (cnt b k 65536).2.2 = 0 := by simpa using he
    have h2 := h.2.2.2 he
    split
    · simp only; refine ⟨by omega, by omega, by omega, Nat.zero_le _⟩
    · simp only
      refine ⟨by omega, by omega, by omega, ?_⟩
      simp only [ByteArray.size, List.size_toArray, List.length_take, List.length_drop]
      omega
def rdT (b : List UInt8) (k e : Int) : ByteArray × Int × Int := if e = 0 then (if (txt b k).2.2 = 0 then ((txt b k).1, (txt b k).2.1, 0) else (⟨#[]⟩, k, (txt b k).2.2)) else (⟨#[]⟩, k, e)
def rdN (b : List UInt8) (k e : Int) : Int × Int × Int := if e = 0 then (if (rdInt b k).2.2 = 0 then ((rdInt b k).1, (rdInt b k).2.1, 0) else (0, k, (rdInt b k).2.2)) else (0, k, e)
def rdC (b : List UInt8) (most k e : Int) : Int × Int × Int := if (rdN b k e).2.2 = 0 then (if (rdN b k e).1 < 0 ∨ most < (rdN b k e).1 then (0, (rdN b k e).2.1, 11) else rdN b k e) else (0, (rdN b k e).2.1, (rdN b k e).2.2)
def rdK (b : List UInt8) (most : Nat) (k e : Int) : Nat × Int × Int := if e = 0 then (if (b.length : Int) ≤ k then (0, k, 10) else if most < (b.getD k.toNat 0).toNat then (0, k, 11) else ((b.getD k.toNat 0).toNat, k + 1, 0)) else (0, k, e)
def rdV (b : List UInt8) (k e : Int) : Cst × Int × Int :=
  if (rdK b 1 k e).1 = 1 then (⟨false, 0, (rdT b (rdK b 1 k e).2.1 (rdK b 1 k e).2.2).1⟩, (rdT b (rdK b 1 k e).2.1 (rdK b 1 k e).2.2).2)
  else (⟨true, (rdN b (rdK b 1 k e).2.1 (rdK b 1 k e).2.2).1, ⟨#[]⟩⟩, (rdN b (rdK b 1 k e).2.1 (rdK b 1 k e).2.2).2)
def rdTm (b : List UInt8) (k e : Int) : Trm × Int × Int :=
  if (rdK b 2 k e).1 = 1 then (⟨(rdT b (rdK b 2 k e).2.1 (rdK b 2 k e).2.2).1, zC⟩, (rdT b (rdK b 2 k e).2.1 (rdK b 2 k e).2.2).2)
  else if (rdK b 2 k e).1 = 2 then (⟨⟨#[]⟩, (rdV b (rdK b 2 k e).2.1 (rdK b 2 k e).2.2).1⟩, (rdV b (rdK b 2 k e).2.1 (rdK b 2 k e).2.2).2)
  else (zT, (rdK b 2 k e).2)
/-- Where a reader may stand. -/
def okR (b : List UInt8) (k e : Int) : Prop := (-9223372036854775808 ≤ k ∧ k ≤ 9223372036854775807) ∧ (0 ≤ e ∧ e ≤ 50)
theorem rdT_ok {b : List UInt8} {k e : Int} (hb : b.length ≤ 140737488355000) (h : okR b k e) : okR b (rdT b k e).2.1 (rdT b k e).2.2 ∧ ((rdT b k e).2.2 = 0 → e = 0 ∧ 0 ≤ k ∧ k < (rdT b k e).2.1 ∧ (rdT b k e).2.1 ≤ b.length) ∧ (rdT b k e).1.size ≤ 65536 := by
  have ht := txt_bd b k
  obtain ⟨h1, h2⟩ := h
  unfold rdT okR
  split
  · split
    · simp only; refine ⟨by omega, by omega, ht.2.2.2⟩
    · simp only; refine ⟨by omega, by omega, Nat.zero_le _⟩
  · simp only; refine ⟨by omega, by omega, Nat.zero_le _⟩
theorem rdN_ok {b : List UInt8} {k e : Int} (hb : b.length ≤ 140737488355000) (h : okR b k e) : okR b (rdN b k e).2.1 (rdN b k e).2.2 ∧ ((rdN b k e).2.2 = 0 → e = 0 ∧ 0 ≤ k ∧ k < (rdN b k e).2.1 ∧ (rdN b k e).2.1 ≤ b.length) ∧ (-9223372036854775808 ≤ (rdN b k e).1 ∧ (rdN b k e).1 ≤ 9223372036854775807) := by
  have ht := rdInt_bd b k
  obtain ⟨h1, h2⟩ := h
  unfold rdN okR
  split
  · split
    · simp only; refine ⟨by omega, by omega, by omega⟩
    · simp only; refine ⟨by omega, by omega, by omega⟩
  · simp only; refine ⟨by omega, by omega, by omega⟩
theorem rdC_ok {b : List UInt8} {most k e : Int} (hm : 0 ≤ most) (hb : b.length ≤ 140737488355000) (h : okR b k e) : okR b (rdC b most k e).2.1 (rdC b most k e).2.2 ∧ ((rdC b most k e).2.2 = 0 → e = 0 ∧ 0 ≤ k ∧ k < (rdC b most k e).2.1 ∧ (rdC b most k e).2.1 ≤ b.length) ∧ (0 ≤ (rdC b most k e).1 ∧ (rdC b most k e).1 ≤ most) := by
  have ht := rdN_ok hb h
  unfold okR at ht
  unfold rdC okR
  split
  · split
    · simp only; refine ⟨by omega, by omega, by omega⟩
    · refine ⟨by omega, by omega, by omega⟩
  · simp only; refine ⟨by omega, by omega, by omega⟩
theorem rdK_ok {b : List UInt8} {most : Nat} {k e : Int} (hb : b.length ≤ 140737488355000) (h : okR b k e) (hk : e = 0 → 0 ≤ k) : okR b (rdK b most k e).2.1 (rdK b most k e).2.2 ∧ ((rdK b most k e).2.2 = 0 → e = 0 ∧ 0 ≤ k ∧ (rdK b most k e).2.1 = k + 1 ∧ k < b.length ∧ (rdK b most k e).1 = (b.getD k.toNat 0).toNat) ∧ (rdK b most k e).1 ≤ most ∧ ((rdK b most k e).2.2 ≠ 0 → (rdK b most k e).1 = 0) := by
  obtain ⟨h1, h2⟩ := h
  unfold rdK okR
  split
  · split
    · simp only; refine ⟨by omega, by omega, by omega, by simp⟩
    · split
      · simp only; refine ⟨by omega, by omega, by omega, by simp⟩
      · simp only
        refine ⟨by omega, fun _ => ⟨by assumption, by omega, trivial, by omega, trivial⟩, by omega, fun h => absurd rfl h⟩
  · simp only; refine ⟨by omega, by omega, by omega, by simp⟩
theorem rdV_ok {b : List UInt8} {k e : Int} (hb : b.length ≤ 140737488355000) (h : okR b k e) (hk : e = 0 → 0 ≤ k) : okR b (rdV b k e).2.1 (rdV b k e).2.2 ∧ ((rdV b k e).2.2 = 0 → e = 0 ∧ 0 ≤ k ∧ k < (rdV b k e).2.1 ∧ (rdV b k e).2.1 ≤ b.length) := by
  have h0 := rdK_ok (most := 1) hb h hk
  unfold rdV
  split
  · have h1 := rdT_ok hb h0.1
    simp only
    refine ⟨h1.1, fun he => ?_⟩
    have := h1.2.1 he
    have := h0.2.1 (by omega)
    omega
  · have h1 := rdN_ok hb h0.1
    simp only
    refine ⟨h1.1, fun he => ?_⟩
    have := h1.2.1 he
    have := h0.2.1 (by omega)
    omega
theorem rdTm_ok {b : List UInt8} {k e : Int} (hb : b.length ≤ 140737488355000) (h : okR b k e) (hk : e = 0 → 0 ≤ k) : okR b (rdTm b k e).2.1 (rdTm b k e).2.2 ∧ ((rdTm b k e).2.2 = 0 → e = 0 ∧ 0 ≤ k ∧ k < (rdTm b k e).2.1 ∧ (rdTm b k e).2.1 ≤ b.length) := by
  have h0 := rdK_ok (most := 2) hb h hk
  unfold rdTm
  split
  · have h1 := rdT_ok hb h0.1
    simp only
    refine ⟨h1.1, fun he => ?_⟩
    have := h1.2.1 he
    have := h0.2.1 (by omega)
    omega
  · split
    · have h1 := rdV_ok hb h0.1 (fun he => by have := h0.2.1 he; omega)
      simp only
      refine ⟨h1.1, fun he => ?_⟩
      have := h1.2 he
      have := h0.2.1 (by omega)
      omega
    · simp only
      refine ⟨h0.1, fun he => ?_⟩
      have := h0.2.1 he
      omega
def rdO (b : List UInt8) (k e : Int) : List AV := [.d (.sl 1 b.length (bD b)), .d (.c (.int .i64 k)), .d (.c (.int .i64 e))]
def rdr (b : List UInt8) (k e : Int) : Rs := [some (.obj (rdO b k e))]
theorem rdr_hand (b : List UInt8) (k e : Int) (rc : Rs) (i : Nat) (hi : rc[i]? = some (some (.obj (rdO b k e)))) : HandOK (nm [i] rc.length) rc (rdr b k e) [i] := by
  refine ⟨fun y h => ?_, trivial⟩
  injection h with h; subst h
  rw [hi]; rfl
theorem rdr_wf (b : List UInt8) (k e : Int) : wfRs (rdr b k e).length (rdr b k e) = true := rfl
set_option maxHeartbeats 400000 in
theorem rtxt_ac (b : List UInt8) (k e : Int) (hb : b.length ≤ 140737488355000) (h : okR b k e) : AC Try.prog noG 75 [.ptr 0 0] (rdr b k e)
    (fun v r' => v = .d (.c (.string (rdT b k e).1)) ∧ r' = rdr b (rdT b k e).2.1 (rdT b k e).2.2) := by
  refine AC_of_R (N := 35) (res := [.tmp 2]) ty_ok Try.call75 Try.func75 rfl rfl rfl (Nat.le_of_ble_eq_true rfl) ?_
  obtain ⟨h1, h2⟩ := h
  by_cases he : e = 0
  · subst he
    have ht := txt_bd b k
    have hx := text_ac b k h1.1 h1.2 hb
    have hr := txt_err (b := b) (k := k)
    have hm : rdT b k 0 = if (txt b k).2.2 = 0 then ((txt b k).1, (txt b k).2.1, 0) else (⟨#[]⟩, k, (txt b k).2.2) := if_pos rfl
    generalize txt b k = t at *
    obtain ⟨s, nx, er⟩ := t
    simp only at ht hr hm
    refine rn1 (jn @rdr.eq_1 @rdO.eq_1) ?_
    refine HC_plan [] ty_ok mix (by kernel_rfl) ?_
    refine rn0 ?_
    refine HO_pureA ty_ok hx ?_
    by_cases h0 : er = 0
    · rw [if_pos h0] at hm
      exact rz1 (jn @triS.eq_1 (jn @h0 @hm))
    · rw [if_neg h0] at hm
      refine rn1 (jn @triS.eq_1 (jn @h0 @hm)) ?_
      rw [hr h0]
  · have hm : rdT b k e = (⟨#[]⟩, k, e) := if_neg he
    exact rz1 (jn @rdr.eq_1 (jn @rdO.eq_1 (jn @he @hm)))

set_option maxHeartbeats 400000 in
theorem rint2_ac (b : List UInt8) (k e : Int) (hb : b.length ≤ 140737488355000) (h : okR b k e) : AC Try.prog noG 99 [.ptr 0 0] (rdr b k e)
    (fun v r' => v = .d (.c (.int .i64 (rdN b k e).1)) ∧ r' = rdr b (rdN b k e).2.1 (rdN b k e).2.2) := by
  refine AC_of_R (N := 35) (res := [.tmp 2]) ty_ok Try.call99 Try.func99 rfl rfl rfl (Nat.le_of_ble_eq_true rfl) ?_
  obtain ⟨h1, h2⟩ := h
  by_cases he : e = 0
  · subst he
    have ht := rdInt_bd b k
    have hx := int_ac b k h1.1 h1.2 hb
    have hr := rdInt_err (b := b) (k := k)
    have hm : rdN b k 0 = if (rdInt b k).2.2 = 0 then ((rdInt b k).1, (rdInt b k).2.1, 0) else (0, k, (rdInt b k).2.2) := if_pos rfl
    generalize rdInt b k = t at *
    obtain ⟨s, nx, er⟩ := t
    simp only at ht hr hm
    refine rn1 (jn @rdr.eq_1 @rdO.eq_1) ?_
    refine HC_plan [] ty_ok mix (by kernel_rfl) ?_
    refine rn0 ?_
    refine HO_pureA ty_ok hx ?_
    by_cases h0 : er = 0
    · rw [if_pos h0] at hm
      exact rz1 (jn @tri.eq_1 (jn @h0 @hm))
    · rw [if_neg h0] at hm
      refine rn1 (jn @tri.eq_1 (jn @h0 @hm)) ?_
      rw [hr h0]
  · have hm : rdN b k e = (0, k, e) := if_neg he
    exact rz1 (jn @rdr.eq_1 (jn @rdO.eq_1 (jn @he @hm)))
set_option maxHeartbeats 400000 in
theorem rcnt_ac (b : List UInt8) (most k e : Int) (hb : b.length ≤ 140737488355000) (h : okR b k e) : AC Try.prog noG 76 [.ptr 0 0, .d (.c (.int .i64 most))] (rdr b k e)
    (fun v r' => v = .d (.c (.int .i64 (rdC b most k e).1)) ∧ r' = rdr b (rdC b most k e).2.1 (rdC b most k e).2.2) := by
  refine AC_of_R (N := 31) (res := [.tmp 4]) ty_ok Try.call76 Try.func76 rfl rfl rfl (Nat.le_of_ble_eq_true rfl) ?_
  have hx := rint2_ac b k e hb h
  have hm : rdC b most k e = if (rdN b k e).2.2 = 0 then (if (rdN b k e).1 < 0 ∨ most < (rdN b k e).1 then (0, (rdN b k e).2.1, 11) else rdN b k e) else (0, (rdN b k e).2.1, (rdN b k e).2.2) := rfl
  generalize rdN b k e = t at *
  obtain ⟨s, nx, er⟩ := t
  simp only at hm hx
  refine rn1 (jn @rdr.eq_1 @rdO.eq_1) ?_
  refine HO_callX ty_ok [0] hx (rdr_hand _ _ _ _ _ rfl) (rdr_wf _ _ _) ?_
  rintro v r' ⟨rfl, rfl⟩ _
  by_cases h0 : er = 0
  · rw [if_pos h0] at hm
    by_cases g1 : s < 0
    · rw [if_pos (.inl g1)] at hm
      exact rz1 (jn @rdr.eq_1 (jn @rdO.eq_1 (jn @h0 (jn @g1 @hm))))
    · by_cases g2 : most < s
      · rw [if_pos (.inr g2)] at hm
        exact rz1 (jn @rdr.eq_1 (jn @rdO.eq_1 (jn @h0 (jn @g1 (jn @g2 @hm)))))
      · rw [if_neg (by omega)] at hm
        exact rz1 (jn @rdr.eq_1 (jn @rdO.eq_1 (jn @h0 (jn @g1 (jn @g2 @hm)))))
  · rw [if_neg h0] at hm
    exact rz1 (jn @rdr.eq_1 (jn @rdO.eq_1 (jn @h0 @hm)))
theorem bD_at (b : List UInt8) (k : Int) (h0 : 0 ≤ k) (h1 : k < b.length) : ((bD b).drop k.toNat)[0]? = some (.c (.int .u8 (b.getD k.toNat 0).toNat)) := by
  rw [List.getElem?_drop, Nat.add_zero, bD_get (by omega)]
set_option maxHeartbeats 400000 in
theorem rknd_ac (b : List UInt8) (most : Nat) (k e : Int) (hb : b.length ≤ 140737488355000) (h : okR b k e) (hk : e = 0 → 0 ≤ k) : AC Try.prog noG 100 [.ptr 0 0, .d (.c (.int .u8 most))] (rdr b k e)
    (fun v r' => v = .d (.c (.int .u8 ((rdK b most k e).1 : Nat))) ∧ r' = rdr b (rdK b most k e).2.1 (rdK b most k e).2.2) := by
  refine AC_of_R (N := 48) (res := [.tmp 4]) ty_ok Try.call100 Try.func100 rfl rfl rfl (Nat.le_of_ble_eq_true rfl) ?_
  by_cases he : e = 0
  · subst he
    have hk := hk rfl
    by_cases g1 : (b.length : Int) ≤ k
    · have hm : rdK b most k 0 = (0, k, 10) := by rw [rdK, if_pos rfl, if_pos g1]
      refine rn1 (jn @rdr.eq_1 @rdO.eq_1) ?_
      refine HC_plan [] ty_ok mix (by kernel_rfl) ?_
      refine rn1 (jn @g1 @hm) ?_
      rfl
    · have g3 : k < b.length := by omega
      have hd := bD_at b k hk g3
      have hm : rdK b most k 0 = if most < (b.getD k.toNat 0).toNat then (0, k, 11) else ((b.getD k.toNat 0).toNat, k + 1, 0) := by rw [rdK, if_pos rfl, if_neg g1]
      generalize hc : (b.getD k.toNat 0).toNat = c at *
      refine rn1 (jn @rdr.eq_1 @rdO.eq_1) ?_
      refine HC_plan [] ty_ok mix (by kernel_rfl) ?_
      refine rn1 @g1 ?_
      refine HC_plan [] ty_ok mix (by kernel_rfl) ?_
      by_cases g2 : most < c
      · have g2' : (most : Int) < c := by omega
        rw [if_pos g2] at hm
        refine rn1 (jn @g1 (jn @g2' (jn @g3 (jn @hk (jn @hc @hm))))) ?_
        rfl
      · have g2' : ¬ (most : Int) < c := by omega
        rw [if_neg g2] at hm
        exact rz1 (jn @g1 (jn @g2' (jn @g3 (jn @hk (jn @hc @hm)))))
  · have hm : rdK b most k e = (0, k, e) := if_neg he
    refine rn1 (jn @rdr.eq_1 (jn @rdO.eq_1 (jn @he @hm))) ?_
    rfl
end Go.Proofs.Ytdbicadncccpoaa

set_option linter.unusedVariables false
set_option linter.unusedSimpArgs false
set_option maxRecDepth 100000
namespace Go.Proofs.Ytdbicadncccpoaa
open Go Go.ChangeShapes Go.WideShapes
set_option maxHeartbeats 400000 in
theorem val_ac (b : List UInt8) (k e : Int) (hb : b.length ≤ 140737488355000) (h : okR b k e) (hk : e = 0 → 0 ≤ k) : AC Try.prog noG 77 [.ptr 0 0] (rdr b k e)
    (fun v r' => v = .d (.agg (cstE (rdV b k e).1)) ∧ r' = rdr b (rdV b k e).2.1 (rdV b k e).2.2) := by
  refine AC.fit ?_
  refine AC_of_R (N := 12) (res := [.cell 2 120]) ty_ok Try.call77 Try.func77 rfl rfl rfl (Nat.le_of_ble_eq_true rfl) ?_
  have hx := rknd_ac b 1 k e hb h hk
  have ho := rdK_ok (most := 1) hb h hk
  have hm : rdV b k e = if (rdK b 1 k e).1 = 1 then (⟨false, 0, (rdT b (rdK b 1 k e).2.1 (rdK b 1 k e).2.2).1⟩, (rdT b (rdK b 1 k e).2.1 (rdK b 1 k e).2.2).2)
    else (⟨true, (rdN b (rdK b 1 k e).2.1 (rdK b 1 k e).2.2).1, ⟨#[]⟩⟩, (rdN b (rdK b 1 k e).2.1 (rdK b 1 k e).2.2).2) := rfl
  generalize rdK b 1 k e = t at *
  obtain ⟨q, k1, e1⟩ := t
  simp only at hx hm ho
  refine rn1 (jn @rdr.eq_1 @rdO.eq_1) ?_
  refine HO_callX ty_ok [0] (hx) (rdr_hand _ _ _ _ _ rfl) (rdr_wf _ _ _) ?_
  rintro v r' ⟨rfl, rfl⟩ _
  by_cases g : q = 1
  · subst g
    have h2 := rtxt_ac b k1 e1 hb ho.1
    rw [if_pos rfl] at hm
    generalize rdT b k1 e1 = u at *
    obtain ⟨s, k2, e2⟩ := u
    simp only at h2 hm
    rw [hm]
    have c1 : ((1 : Nat) : Int) = 1 := rfl
    refine rn1 (jn @rdr.eq_1 (jn @rdO.eq_1 @c1)) ?_
    refine HO_callX ty_ok [0] (h2) (rdr_hand _ _ _ _ _ rfl) (rdr_wf _ _ _) ?_
    rintro v r' ⟨rfl, rfl⟩ _
    refine rn1 (jn @rdr.eq_1 @rdO.eq_1) ?_
    exact fv1 [0] [] (jn @rdr.eq_1 (jn @rdO.eq_1 @cstE.eq_1))
  · have g' : ¬ (q : Int) = 1 := by omega
    have h2 := rint2_ac b k1 e1 hb ho.1
    rw [if_neg g] at hm
    generalize rdN b k1 e1 = u at *
    obtain ⟨s, k2, e2⟩ := u
    simp only at h2 hm
    rw [hm]
    refine rn1 (jn @rdr.eq_1 (jn @rdO.eq_1 @g')) ?_
    refine HO_callX ty_ok [0] (h2) (rdr_hand _ _ _ _ _ rfl) (rdr_wf _ _ _) ?_
    rintro v r' ⟨rfl, rfl⟩ _
    refine rn1 (jn @rdr.eq_1 @rdO.eq_1) ?_
    exact fv1 [0] [] (jn @rdr.eq_1 (jn @rdO.eq_1 @cstE.eq_1))
def rdb (b : List UInt8) (k e : Int) (o : Bool) : Rs := [some (.obj (rdO b k e)), some (.obj [.d (.c (.bool o))])]
theorem rdb_hand (b : List UInt8) (k e : Int) (o : Bool) (rc : Rs) (i j : Nat) (hi : rc[i]? = some (some (.obj (rdO b k e)))) (hj : rc[j]? = some (some (.obj [.d (.c (.bool o))]))) : HandOK (nm [i, j] rc.length) rc (rdb b k e o) [i, j] := by
  refine ⟨fun y h => ?_, fun y h => ?_, trivial⟩
  · injection h with h; subst h
    rw [hi]; rfl
  · injection h with h; subst h
    rw [hj]; rfl
theorem rdb_wf (b : List UInt8) (k e : Int) (o : Bool) : wfRs (rdb b k e o).length (rdb b k e o) = true := rfl
/-- Was a term read that may not be? -/
def badC (b : List UInt8) (k e : Int) : Bool := decide ((rdTm b k e).2.2 = 0) && (!decide ((b.getD k.toNat 0).toNat = 0) && (!rightT (rdTm b k e).1 || decide ((rdTm b k e).1 = zT)))
theorem ztD4 (t : Trm) : (decide (t.v = ⟨#[]⟩) && (decide (t.c.num = false) && (decide (t.c.n = 0) && decide (t.c.s = ⟨#[]⟩)))) = decide (t = zT) := by
  obtain ⟨v, q, n, s⟩ := t
  simp only [zT, zC, Trm.mk.injEq, Cst.mk.injEq, Bool.decide_and]
end Go.Proofs.Ytdbicadncccpoaa

set_option linter.unusedVariables false
set_option linter.unusedSimpArgs false
set_option maxRecDepth 100000
namespace Go.Proofs.Ytdbicadncccpoaa
open Go Go.ChangeShapes Go.WideShapes
theorem flatE_snoc {α : Type} (en : α → List D) (l : List α) (a : α) : flatE en (l ++ [a]) = flatE en l ++ en a := by rw [flatE_app, flatE_one]
def rdMany (β : Int → Int → Bool) (b : List UInt8) : Nat → Int → Int → Bool → List Trm × Int × Int × Bool
  | 0, k, e, o => ([], k, e, o)
  | n + 1, k, e, o => if e = 0 then ((rdTm b k e).1 :: (rdMany β b n (rdTm b k e).2.1 (rdTm b k e).2.2 (o || β k e)).1, (rdMany β b n (rdTm b k e).2.1 (rdTm b k e).2.2 (o || β k e)).2) else ([], k, e, o)
theorem rdMany_err {β : Int → Int → Bool} {b : List UInt8} {k e : Int} {o : Bool} (h : e ≠ 0) : ∀ n, rdMany β b n k e o = ([], k, e, o)
  | 0 => rfl
  | n + 1 => by rw [rdMany, if_neg h]
def rdTms (β : Int → Int → Bool) (b : List UInt8) (k e : Int) (o : Bool) : List Trm × Int × Int × Bool := rdMany β b (rdC b 48 k e).1.toNat (rdC b 48 k e).2.1 (rdC b 48 k e).2.2 o
theorem rdMany_ok {β : Int → Int → Bool} {b : List UInt8} (hb : b.length ≤ 140737488355000) : ∀ (n : Nat) (k e : Int) (o : Bool), okR b k e → (e = 0 → 0 ≤ k ∧ k ≤ b.length) → okR b (rdMany β b n k e o).2.1 (rdMany β b n k e o).2.2.1 ∧ ((rdMany β b n k e o).2.2.1 = 0 → e = 0 ∧ 0 ≤ k ∧ k ≤ (rdMany β b n k e o).2.1 ∧ (rdMany β b n k e o).2.1 ≤ b.length) ∧ (rdMany β b n k e o).1.length ≤ n
  | 0, k, e, o, h, hk => ⟨h, fun he => ⟨he, (hk he).1, Int.le_refl _, (hk he).2⟩, Nat.le_refl _⟩
  | n + 1, k, e, o, h, hk => by
    rw [rdMany]
    split
    · rename_i he
      have h1 := rdTm_ok hb h (fun he => (hk he).1)
      have h2 := rdMany_ok (β := β) hb n (rdTm b k e).2.1 (rdTm b k e).2.2 (o || β k e) h1.1 (fun he => by have := h1.2 he; omega)
      simp only [List.length_cons]
      refine ⟨h2.1, fun hh => ?_, by omega⟩
      have := h2.2.1 hh
      have := h1.2 this.1
      omega
    · simp only [List.length_nil]
      exact ⟨h, fun he => ⟨he, (hk he).1, Int.le_refl _, (hk he).2⟩, Nat.zero_le _⟩
theorem rdTms_ok {β : Int → Int → Bool} {b : List UInt8} {k e : Int} {o : Bool} (hb : b.length ≤ 140737488355000) (h : okR b k e) : okR b (rdTms β b k e o).2.1 (rdTms β b k e o).2.2.1 ∧ ((rdTms β b k e o).2.2.1 = 0 → e = 0 ∧ 0 ≤ k ∧ k < (rdTms β b k e o).2.1 ∧ (rdTms β b k e o).2.1 ≤ b.length) ∧ (rdTms β b k e o).1.length ≤ 48 := by
  have h0 := rdC_ok (most := 48) (by omega) hb h
  have h1 := rdMany_ok (β := β) hb (rdC b 48 k e).1.toNat (rdC b 48 k e).2.1 (rdC b 48 k e).2.2 o h0.1 (fun he => by have := h0.2.1 he; omega)
  unfold rdTms
  refine ⟨h1.1, fun he => ?_, by omega⟩
  have := h1.2.1 he
  have := h0.2.1 this.1
  omega
structure TsI where
  i : Nat
  acc : List Trm
  k : Int
  e : Int
  o : Bool
def tsSt (n : Int) (x : TsI) : List (Nat × AV) := [(0, .ptr 0 0), (1, .ptr 1 0), (6, .sl (.own 2) 4 x.acc.length (flatE trmE x.acc)), (9, .d (.c (.int .i64 n))), (10, .d (.c (.int .i64 x.i)))]
def tsRe (b : List UInt8) (x : TsI) : Rs := [some (.obj (rdO b x.k x.e)), some (.obj [.d (.c (.bool x.o))]), some (.tok (flatE trmE x.acc).length)]
end Go.Proofs.Ytdbicadncccpoaa
