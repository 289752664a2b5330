/- Parts of the proof: PutTs, PutF, RPutF, Clone, Insert. -/
import Derived.Test.YtdbicadncccpoaaGreatCJ1
import Derived.Test.YtdbicadncccpoaaGreatCJ0
set_option linter.unusedVariables false
set_option linter.unusedSimpArgs false
set_option maxRecDepth 100000
namespace Go.Proofs.YtdbicadncccpoaaGreat
open Go Go.ChangeShapes Go.WideShapes
theorem fold_take {α β : Type} (f : β → α → β) (l : List α) (i : Nat) (h : i < l.length) (b : β) : (l.take (i + 1)).foldl f b = f ((l.take i).foldl f b) l[i] := by rw [List.take_succ_eq_append_getElem h, List.foldl_append]; rfl
theorem leb_nat {n : Nat} (h : n ≤ 140737488355000) : (leb (zig (n : Int))).length ≤ 10 := leb64_len (by omega) (by omega)
end Go.Proofs.YtdbicadncccpoaaGreat

set_option linter.unusedVariables false
set_option linter.unusedSimpArgs false
set_option maxRecDepth 100000
namespace Go.Proofs.YtdbicadncccpoaaGreat
open Go Go.ChangeShapes Go.WideShapes
def putF (b : List UInt8) (f : Fct) : List UInt8 := f.l.foldl putC (putTx (putTx (putTx b f.a) f.b) f.p ++ leb (zig (f.l.length : Int)))
def okF (f : Fct) : Prop := ∀ c ∈ f.l, okC c
theorem good_size {c : Cst} (h : goodC c = true) : c.s.size ≤ 32 := by
  obtain ⟨q, n, s⟩ := c
  unfold goodC at h
  cases q with
  | true =>
    simp only [if_true, decide_eq_true_eq] at h
    rw [h]; exact Nat.zero_le _
  | false =>
    simp only [Bool.false_eq_true, if_false, txtOK, Bool.and_eq_true, decide_eq_true_eq] at h
    exact h.2.2
theorem txt_size {s : ByteArray} (h : txtOK s = true) : 1 ≤ s.size ∧ s.size ≤ 32 := by simpa [txtOK] using h
theorem chkF_iff {f : Fct} (h : chkF f = true) : txtOK f.a = true ∧ txtOK f.b = true ∧ txtOK f.p = true ∧ f.l.length ≤ 48 ∧ ∀ c ∈ f.l, goodC c = true := by
  simp only [chkF, Bool.and_eq_true, decide_eq_true_eq, List.all_eq_true] at h
  exact ⟨h.1, h.2.1, h.2.2.1, h.2.2.2.1, h.2.2.2.2⟩
theorem foldC_le : ∀ (l : List Cst) (b : List UInt8), (∀ c ∈ l, okC c ∧ goodC c = true) → (l.foldl putC b).length ≤ b.length + 43 * l.length
  | [], b, _ => by simp
  | t :: l, b, h => by
    have h0 := h t (by simp)
    have h1 := (putC_bd (b := b) h0.1 (by have := good_size h0.2; omega)).1
    have hs := good_size h0.2
    have h2 := foldC_le l (putC b t) (fun x hx => h x (by simp [hx]))
    rw [List.foldl_cons, List.length_cons]; omega
theorem foldX_le : ∀ (l : List ByteArray) (b : List UInt8), (∀ s ∈ l, s.size ≤ 32) → (l.foldl putTx b).length ≤ b.length + 42 * l.length
  | [], b, _ => by simp
  | s :: l, b, h => by
    have h1 := putTx_bd b (s := s) (by have := h s (by simp); omega)
    have hs := h s (by simp)
    have h2 := foldX_le l (putTx b s) (fun x hx => h x (by simp [hx]))
    rw [List.foldl_cons, List.length_cons]; omega
theorem putF_le {b : List UInt8} {f : Fct} (ho : okF f) (h : chkF f = true) : (putF b f).length ≤ b.length + 2300 := by
  obtain ⟨h1, h2, h3, h4, h5⟩ := chkF_iff h
  have hx := foldX_le [f.a, f.b, f.p] b (by
    intro s hs
    simp only [List.mem_cons, List.not_mem_nil, or_false] at hs
    rcases hs with rfl | rfl | rfl
    · exact (txt_size h1).2
    · exact (txt_size h2).2
    · exact (txt_size h3).2)
  have hc := foldC_le f.l (putTx (putTx (putTx b f.a) f.b) f.p ++ leb (zig (f.l.length : Int))) (fun c hc => ⟨ho c hc, h5 c hc⟩)
  have hl := leb_nat (n := f.l.length) (by omega)
  rw [List.length_append] at hc
  simp only [List.foldl_cons, List.foldl_nil, List.length_cons, List.length_nil] at hx
  unfold putF; omega
set_option maxHeartbeats 400000 in
theorem cloneB_ac (b : List UInt8) (hb : b.length ≤ 140737488355000) : AC Tryz.prog noG 39 [.d (.sl 1 b.length (bD b))] [] (fun v r' => v = .sl (.own 0) 1 b.length (bD b) ∧ r' = [some (.tok b.length)]) := by
  by_cases h0 : b = []
  · subst h0
    refine AC.empty ?_
    intro A c
    refine AC.fit ?_
    refine AC_of_R (N := 8) (res := [.tmp 2]) ty_ok Tryz.call39 Tryz.func39 rfl rfl rfl (Nat.le_of_ble_eq_true rfl) ?_
    cases A with
    | none =>
      refine rn0 ?_
      exact fv0 [0] [0]
    | some a =>
      refine rn0 ?_
      exact fv0 [0] []
  · have hn : 0 < b.length := List.length_pos_iff.2 h0
    refine AC.fit ?_
    refine AC_of_R (N := 8) (res := [.tmp 2]) ty_ok Tryz.call39 Tryz.func39 rfl rfl rfl (Nat.le_of_ble_eq_true rfl) ?_
    refine rn1 @hn ?_
    (repeat (refine And.intro (by omega) ?_))
    exact fv0 [0] []

def tD (l : List ByteArray) : List D := l.map fun s => .c (.string s)
theorem tD_len (l : List ByteArray) : (tD l).length = l.length := List.length_map ..
theorem drop_tD (l : List ByteArray) (i : Nat) (h : i < l.length) : ((tD l).drop i)[0]? = some (.c (.string l[i])) := by rw [List.getElem?_drop, Nat.add_zero, tD, List.getElem?_map, List.getElem?_eq_getElem h]; rfl
def pfSt (f : Fct) (i : Nat) (acc : List UInt8) : List (Nat × AV) := [(3, .ptr 0 0), (5, .d (.c (.int .i64 0))), (23, .d (.sl 1 3 (tD [f.a, f.b, f.p]))), (24, .d (.c (.int .i64 3))), (25, .d (.c (.int .i64 i))), (6, .sl (.own 2) 1 acc.length (bD acc))]
def pfRe (f : Fct) (acc : List UInt8) : Rs := [some (.obj ((fctE f).map .d)), none, some (.tok acc.length)]
def pcSt (f : Fct) (i : Nat) (acc : List UInt8) : List (Nat × AV) := [(39, .d (.sl 3 f.l.length (flatE cstE f.l))), (40, .d (.c (.int .i64 f.l.length))), (41, .d (.c (.int .i64 i))), (6, .sl (.own 4) 1 acc.length (bD acc))]
def pcRe (acc : List UInt8) : Rs := [none, none, none, none, some (.tok acc.length)]
def putFR (b : List UInt8) (f : Fct) : List UInt8 := if chkF f then putF b f else b
set_option maxHeartbeats 1000000 in
theorem putF_ac (b : List UInt8) (f : Fct) (ho : okF f) (hf : f.l.length ≤ 140737488352000) (hb : b.length ≤ 140737488200000) : AC Tryz.prog noG 23 [.d (.sl 1 b.length (bD b)), .d (.agg (fctE f))] []
    (fun v r' => v = .tup [.sl (.own 0) 1 (putFR b f).length (bD (putFR b f)), .d (.c (.int .i64 (chkE f)))] ∧ r' = [some (.tok (putFR b f).length)]) := by
  refine AC.fit ?_
  refine AC_of_R (N := 50) (res := [.tmp 4, .tmp 5]) ty_ok Tryz.call23 Tryz.func23 rfl rfl rfl (Nat.le_of_ble_eq_true rfl) ?_
  have hck := fchk_ac f hf
  refine rn1 @fctE.eq_1 ?_
  refine HO_callX ty_ok [] (cloneB_ac b (by omega)) (trivial) rfl ?_
  rintro v r' ⟨rfl, rfl⟩ _
  refine rn0 ?_
  refine HO_pureA ty_ok hck ?_
  by_cases hc : chkF f = true
  · have e1 : putFR b f = putF b f := if_pos hc
    rw [chkE_ok hc, e1]
    obtain ⟨k1, k2, k3, k4, k5⟩ := chkF_iff hc
    have s1 := txt_size k1
    have s2 := txt_size k2
    have s3 := txt_size k3
    have hF : putF b f = f.l.foldl putC ([f.a, f.b, f.p].foldl putTx b ++ leb (zig (f.l.length : Int))) := rfl
    have hs3 : ∀ s ∈ [f.a, f.b, f.p], s.size ≤ 32 := by
      intro s hs
      simp only [List.mem_cons, List.not_mem_nil, or_false] at hs
      rcases hs with rfl | rfl | rfl <;> omega
    refine rn0 ?_
    refine HC_loopR (fun i : Nat => pfSt f i (([f.a, f.b, f.p].take i).foldl putTx b)) (fun i => pfRe f (([f.a, f.b, f.p].take i).foldl putTx b)) (fun i => i ≤ 3) (fun i => 3 - i) 0 [0, 0, 1] [] (by omega) ?_ ?_
    · exact ft1 (jn @pfSt.eq_1 (jn @pfRe.eq_1 (jn @List.take_zero.{0} (jn @List.foldl_nil.{0, 0} (jn @fctE.eq_1 @tD.eq_1)))))
    intro i hi1
    refine HC_of_R ty_ok ?_
    by_cases hlt : i < 3
    · have hi : (i : Int) < 3 := by omega
      have hd := drop_tD [f.a, f.b, f.p] i hlt
      have hle := tD_len [f.a, f.b, f.p]
      have hstep := fold_take putTx [f.a, f.b, f.p] i hlt b
      have hacc := foldX_le ([f.a, f.b, f.p].take i) b (fun s h => hs3 s (List.mem_of_mem_take h))
      rw [List.length_take] at hacc
      have hsz := hs3 [f.a, f.b, f.p][i] (List.getElem_mem hlt)
      generalize [f.a, f.b, f.p][i] = s at *
      generalize ([f.a, f.b, f.p].take i).foldl putTx b = acc at *
      simp only [List.length_cons, List.length_nil] at hacc hle
      have hk := putText_ac acc s (by omega) (by omega)
      rw [← hstep] at hk
      refine rn1 (jn @pfSt.eq_1 (jn @pfRe.eq_1 (jn @fctE.eq_1 (jn @hi (jn @hd @hle))))) ?_
      (repeat (refine And.intro (by omega) ?_))
      refine HO_callX ty_ok [] hk (trivial) rfl ?_
      rintro v r' ⟨rfl, rfl⟩ _
      refine rn0 ?_
      (repeat (refine And.intro (by omega) ?_))
      refine ⟨i + 1, by omega, by omega, [0, 1, 3], [], ?_⟩
      exact ft1 (jn @pfSt.eq_1 (jn @pfRe.eq_1 @fctE.eq_1))
    · have hi : ¬ (i : Int) < 3 := by omega
      have h3 : [f.a, f.b, f.p].take i = [f.a, f.b, f.p] := List.take_of_length_le (by simp only [List.length_cons, List.length_nil]; omega)
      rw [h3]
      have hx := foldX_le [f.a, f.b, f.p] b hs3
      simp only [List.length_cons, List.length_nil] at hx
      obtain ⟨b3, hb3⟩ : ∃ b3, b3 = [f.a, f.b, f.p].foldl putTx b := ⟨_, rfl⟩
      rw [← hb3] at hx hF ⊢
      have hpi := putInt_ac b3 (f.l.length : Int) (by omega) (by omega) (by omega)
      have hb0l := leb_nat (n := f.l.length) (by omega)
      obtain ⟨b0, hb0⟩ : ∃ b0, b0 = b3 ++ leb (zig (f.l.length : Int)) := ⟨_, rfl⟩
      have hb0e : b0.length = b3.length + (leb (zig (f.l.length : Int))).length := by rw [hb0, List.length_append]
      rw [← hb0] at hpi hF
      rw [hF]
      refine rn1 (jn @pfSt.eq_1 (jn @pfRe.eq_1 (jn @fctE.eq_1 @hi))) ?_
      refine HO_callX ty_ok [] hpi (trivial) rfl ?_
      rintro v r' ⟨rfl, rfl⟩ _
      refine rn0 ?_
      refine HC_loopR (fun i : Nat => pcSt f i ((f.l.take i).foldl putC b0)) (fun i => pcRe ((f.l.take i).foldl putC b0)) (fun i => i ≤ f.l.length) (fun i => f.l.length - i) 0 [0, 0, 0, 0, 3] [] (by omega) ?_ ?_
      · exact ft1 (jn @pcSt.eq_1 (jn @pcRe.eq_1 (jn @List.take_zero.{0} @List.foldl_nil.{0, 0})))
      intro i hi1
      refine HC_of_R ty_ok ?_
      by_cases hlt : i < f.l.length
      · have hi : (i : Int) < f.l.length := by omega
        have hd := flatE_drop cstE_len f.l i hlt
        have hle := flatE_len cstE_len f.l
        have hstep := fold_take putC f.l i hlt b0
        have hoc := ho f.l[i] (List.getElem_mem hlt)
        have hgc := good_size (k5 f.l[i] (List.getElem_mem hlt))
        have hacc := foldC_le (f.l.take i) b0 (fun t h => ⟨ho t (List.mem_of_mem_take h), k5 t (List.mem_of_mem_take h)⟩)
        rw [List.length_take] at hacc
        generalize f.l[i] = c at *
        generalize (f.l.take i).foldl putC b0 = acc at *
        have hk := putC_ac acc c hoc (by omega)
        rw [← hstep] at hk
        simp only [cstE, List.cons_append, List.nil_append] at hd hk
        refine rn1 (jn @pcSt.eq_1 (jn @pcRe.eq_1 (jn @hi (jn @hd (jn @hle @cstE.eq_1))))) ?_
        (repeat (refine And.intro (by omega) ?_))
        refine HO_callX ty_ok [4] hk (⟨fun y h => by injection h with h; subst h; rfl, trivial⟩) (rfl) ?_
        rintro v r' ⟨rfl, rfl⟩ _
        refine rn0 ?_
        (repeat (refine And.intro (by omega) ?_))
        refine ⟨i + 1, by omega, by omega, [0, 1, 2, 3, 6], [], ?_⟩
        exact ft1 (jn @pcSt.eq_1 @pcRe.eq_1)
      · have hi : ¬ (i : Int) < f.l.length := by omega
        rw [List.take_of_length_le (by omega)]
        refine rn1 (jn @pcSt.eq_1 (jn @pcRe.eq_1 @hi)) ?_
        exact fv0 [4] []
  · have e1 : putFR b f = b := if_neg hc
    rw [chkE_no hc, e1]
    refine rn0 ?_
    exact fv0 [1] []
end Go.Proofs.YtdbicadncccpoaaGreat

set_option linter.unusedVariables false
set_option linter.unusedSimpArgs false
set_option maxRecDepth 100000
namespace Go.Proofs.YtdbicadncccpoaaGreat
open Go Go.ChangeShapes Go.WideShapes
def rpcSt (f : Fct) (i : Nat) (acc : List UInt8) : List (Nat × AV) := [(3, .ptr 0 0), (5, .d (.c (.int .i64 0))), (7, .d (.c (.int .i64 i))), (6, .sl (.own 6) 1 acc.length (bD acc))]
def rpcRe (f : Fct) (acc : List UInt8) : Rs := [some (.obj ((fctE f).map .d)), none, none, none, none, none, some (.tok acc.length)]
set_option maxHeartbeats 1000000 in
theorem rputF_ac (b : List UInt8) (f : Fct) (ho : okF f) (hf : f.l.length ≤ 140737488352000) (hb : b.length ≤ 140737488200000) : AC Tryz.prog noG 25 [.d (.sl 1 b.length (bD b)), .d (.agg (fctE f))] []
    (fun v r' => v = .tup [.sl (.own 0) 1 (putFR b f).length (bD (putFR b f)), .d (.c (.int .i64 (chkE f)))] ∧ r' = [some (.tok (putFR b f).length)]) := by
  refine AC.fit ?_
  refine AC_of_R (N := 47) (res := [.tmp 4, .tmp 5]) ty_ok Tryz.call25 Tryz.func25 rfl rfl rfl (Nat.le_of_ble_eq_true rfl) ?_
  have hck := rfchk_ac f hf
  refine rn1 @fctE.eq_1 ?_
  (repeat (refine And.intro (by omega) ?_))
  refine HO_pureA ty_ok hck ?_
  by_cases hc : chkF f = true
  · have e1 : putFR b f = putF b f := if_pos hc
    rw [chkE_ok hc, e1]
    obtain ⟨k1, k2, k3, k4, k5⟩ := chkF_iff hc
    have s1 := txt_size k1
    have s2 := txt_size k2
    have s3 := txt_size k3
    have hF : putF b f = f.l.foldl putC (putTx (putTx (putTx b f.a) f.b) f.p ++ leb (zig (f.l.length : Int))) := rfl
    have g1 := putTx_bd b (s := f.a) (by omega)
    have g2 := putTx_bd (putTx b f.a) (s := f.b) (by omega)
    have g3 := putTx_bd (putTx (putTx b f.a) f.b) (s := f.p) (by omega)
    have c1 := rputText_ac b f.a (by omega) (by omega)
    have c2 := rputText_ac (putTx b f.a) f.b (by omega) (by omega)
    have c3 := rputText_ac (putTx (putTx b f.a) f.b) f.p (by omega) (by omega)
    generalize putTx b f.a = b1 at *
    generalize putTx b1 f.b = b2 at *
    generalize putTx b2 f.p = b3 at *
    have hpi := rputInt_ac b3 (f.l.length : Int) (by omega) (by omega) (by omega)
    have hb0l := leb_nat (n := f.l.length) (by omega)
    obtain ⟨b0, hb0⟩ : ∃ b0, b0 = b3 ++ leb (zig (f.l.length : Int)) := ⟨_, rfl⟩
    have hb0e : b0.length = b3.length + (leb (zig (f.l.length : Int))).length := by rw [hb0, List.length_append]
    rw [← hb0] at hpi hF
    rw [hF]
    refine rn0 ?_
    refine HO_callX ty_ok [] c1 (trivial) rfl ?_
    rintro v r' ⟨rfl, rfl⟩ _
    refine rn0 ?_
    refine HO_callX ty_ok [] c2 (trivial) rfl ?_
    rintro v r' ⟨rfl, rfl⟩ _
    refine rn0 ?_
    refine HO_callX ty_ok [] c3 (trivial) rfl ?_
    rintro v r' ⟨rfl, rfl⟩ _
    refine rn0 ?_
    refine HO_callX ty_ok [] hpi (trivial) rfl ?_
    rintro v r' ⟨rfl, rfl⟩ _
    refine rn0 ?_
    refine HC_loopR (fun i : Nat => rpcSt f i ((f.l.take i).foldl putC b0)) (fun i => rpcRe f ((f.l.take i).foldl putC b0)) (fun i => i ≤ f.l.length) (fun i => f.l.length - i) 0 [0, 0, 0, 0, 0, 0, 5] [] (by omega) ?_ ?_
    · exact ft1 (jn @rpcSt.eq_1 (jn @rpcRe.eq_1 (jn @List.take_zero.{0} (jn @List.foldl_nil.{0, 0} @fctE.eq_1))))
    intro i hi1
    refine HC_of_R ty_ok ?_
    by_cases hlt : i < f.l.length
    · have hi : (i : Int) < f.l.length := by omega
      have hd := flatE_drop cstE_len f.l i hlt
      have hle := flatE_len cstE_len f.l
      have hstep := fold_take putC f.l i hlt b0
      have hoc := ho f.l[i] (List.getElem_mem hlt)
      have hgc := good_size (k5 f.l[i] (List.getElem_mem hlt))
      have hacc := foldC_le (f.l.take i) b0 (fun t h => ⟨ho t (List.mem_of_mem_take h), k5 t (List.mem_of_mem_take h)⟩)
      rw [List.length_take] at hacc
      generalize f.l[i] = c at *
      generalize (f.l.take i).foldl putC b0 = acc at *
      have hk := rputC_ac acc c hoc (by omega)
      rw [← hstep] at hk
      simp only [cstE, List.cons_append, List.nil_append] at hd hk
      refine rn1 (jn @rpcSt.eq_1 (jn @rpcRe.eq_1 (jn @fctE.eq_1 (jn @hi (jn @hd (jn @hle @cstE.eq_1)))))) ?_
      (repeat (refine And.intro (by omega) ?_))
      refine HO_callX ty_ok [6] hk (⟨fun y h => by injection h with h; subst h; rfl, trivial⟩) (rfl) ?_
      rintro v r' ⟨rfl, rfl⟩ _
      refine rn0 ?_
      (repeat (refine And.intro (by omega) ?_))
      refine ⟨i + 1, by omega, by omega, [0, 1, 2, 3, 4, 5, 7], [], ?_⟩
      exact ft1 (jn @rpcSt.eq_1 (jn @rpcRe.eq_1 @fctE.eq_1))
    · have hi : ¬ (i : Int) < f.l.length := by omega
      rw [List.take_of_length_le (by omega)]
      refine rn1 (jn @rpcSt.eq_1 (jn @rpcRe.eq_1 (jn @fctE.eq_1 @hi))) ?_
      exact fv0 [6] []
  · have e1 : putFR b f = b := if_neg hc
    rw [chkE_no hc, e1]
    refine rn0 ?_
    exact fv0 [1] []
end Go.Proofs.YtdbicadncccpoaaGreat

set_option linter.unusedVariables false
set_option linter.unusedSimpArgs false
set_option maxRecDepth 100000
namespace Go.Proofs.YtdbicadncccpoaaGreat
open Go Go.ChangeShapes Go.WideShapes
/-! slices.Clone over rows that may be written: what it makes is a row of the call's own, with its capacity. -/
def zI : List D := [.c (.int .i64 0)]
def zCs : List D := [.c (.bool false), .c (.int .i64 0), .c (.string ⟨#[]⟩)]
def zFc : List D := [.c (.string ⟨#[]⟩), .c (.string ⟨#[]⟩), .c (.string ⟨#[]⟩), .c (.slice none 0 0)]
def repD (zd : List D) : Nat → List D
  | 0 => []
  | k + 1 => zd ++ repD zd k
theorem repD_len (zd : List D) : ∀ k, (repD zd k).length = k * zd.length
  | 0 => by simp [repD]
  | k + 1 => by rw [repD, List.length_append, repD_len zd k, Nat.succ_mul, Nat.add_comm]
theorem repA_map (zd : List D) : ∀ k, repA (zd.map .d) k = (repD zd k).map .d
  | 0 => rfl
  | k + 1 => by rw [repA, repD, repA_map zd k, List.map_append]
/-- A slice with its row. -/
def cslO (sz n : Nat) (xs : List D) (v : AV) (r' : Rs) : Prop := ∃ (k : Nat) (zs : List D), zs.length = k * sz ∧ v = .csl 0 0 sz n (n + k) ∧ r' = [some (.obj ((xs ++ zs).map .d))]
theorem cslO_lay {sz n : Nat} {xs : List D} (hx : xs.length = n * sz) (h0 : 0 < n) {f : FuncId} {P : Program} {G : Nat → List D} {args : List AV} {r : Rs} (h : AC P G f args r (cslO sz n xs)) : AC P G f args r (fun v r' => v = .d (.sl sz n xs) ∧ r' = [none]) :=
  h.lay fun v r' ⟨k, zs, hz, hv, hr⟩ => ⟨0, (xs ++ zs).map .d, xs ++ zs, by rw [hr]; rfl, allD_map _, by
    rw [hv, hr]
    refine ⟨?_, rfl⟩
    simp only [fzA]
    rw [if_pos ⟨trivial, by omega⟩, List.drop_zero, ← hx, List.take_left]⟩
set_option maxHeartbeats 400000 in
theorem cloneI_ac (n : Nat) (xs : List D) (hx : xs.length = n * 1) (h0 : 0 < n) (h : n ≤ 1000000) :
    AC Tryz.prog noG 56 [.d (.sl 1 n xs)] [] (cslO 1 n xs) := by
  skip
  refine AC_of_R (N := 8) (res := [.tmp 2]) tyL_ok Tryz.call56 Tryz.func56 rfl rfl rfl (Nat.le_of_ble_eq_true rfl) ?_
  have hp : 0 < xs.length := by omega
  refine rn1 @hp ?_
  refine HO_appE tyL_ok (e := 3) (sz := 1) (m := n) (ys := xs) (zl := zI.map .d) rfl (by simp only [ST]) (by simp only [ST]; rfl) ⟨by simp only [ST], by simp only [ST]⟩ rfl rfl (by simp only [ST]; rfl) (by decide) h0 (by omega) (by simp only [ST]; omega) (by kernel_rfl) fun k => ?_
  refine rn0 ?_
  exact ⟨k, repD zI k, repD_len _ _, rfl, by rw [repA_map, List.map_append]⟩
set_option maxHeartbeats 400000 in
theorem cloneF_ac (n : Nat) (xs : List D) (hx : xs.length = n * 4) (h0 : 0 < n) (h : n ≤ 1000000) :
    AC Tryz.prog noG 80 [.d (.sl 4 n xs)] [] (cslO 4 n xs) := by
  skip
  refine AC_of_R (N := 8) (res := [.tmp 2]) tyL_ok Tryz.call80 Tryz.func80 rfl rfl rfl (Nat.le_of_ble_eq_true rfl) ?_
  have hp : 0 < xs.length := by omega
  refine rn1 @hp ?_
  refine HO_appE tyL_ok (e := 38) (sz := 4) (m := n) (ys := xs) (zl := zFc.map .d) rfl (by simp only [ST]) (by simp only [ST]; rfl) ⟨by simp only [ST], by simp only [ST]⟩ rfl rfl (by simp only [ST]; rfl) (by decide) h0 (by omega) (by simp only [ST]; omega) (by kernel_rfl) fun k => ?_
  refine rn0 ?_
  exact ⟨k, repD zFc k, repD_len _ _, rfl, by rw [repA_map, List.map_append]⟩
set_option maxHeartbeats 400000 in
theorem cloneC_ac (n : Nat) (xs : List D) (hx : xs.length = n * 3) (h0 : 0 < n) (h : n ≤ 1000000) :
    AC Tryz.prog noG 79 [.d (.sl 3 n xs)] [] (cslO 3 n xs) := by
  skip
  refine AC_of_R (N := 8) (res := [.tmp 2]) tyL_ok Tryz.call79 Tryz.func79 rfl rfl rfl (Nat.le_of_ble_eq_true rfl) ?_
  have hp : 0 < xs.length := by omega
  refine rn1 @hp ?_
  refine HO_appE tyL_ok (e := 68) (sz := 3) (m := n) (ys := xs) (zl := zCs.map .d) rfl (by simp only [ST]) (by simp only [ST]; rfl) ⟨by simp only [ST], by simp only [ST]⟩ rfl rfl (by simp only [ST]; rfl) (by decide) h0 (by omega) (by simp only [ST]; omega) (by kernel_rfl) fun k => ?_
  refine rn0 ?_
  exact ⟨k, repD zCs k, repD_len _ _, rfl, by rw [repA_map, List.map_append]⟩
end Go.Proofs.YtdbicadncccpoaaGreat

set_option linter.unusedVariables false
set_option linter.unusedSimpArgs false
set_option maxRecDepth 100000
namespace Go.Proofs.YtdbicadncccpoaaGreat
open Go Go.ChangeShapes Go.WideShapes
/-! slices.Insert: one element, into a row of the call's own; what it makes is laid for good. -/
/-- .. the row behind it. -/
def insO (sz n : Nat) (ys : List D) (v : AV) (r' : Rs) : Prop := (∃ (c : Nat) (zs : List D), n < c + 1 ∧ zs.length + ys.length = c * sz ∧ v = .csl 0 0 sz n c ∧ r' = [some (.obj ((ys ++ zs).map .d)), none]) ∨ (∃ (c : Nat) (zs : List D), n < c + 1 ∧ zs.length + ys.length = c * sz ∧ v = .csl 2 0 sz n c ∧ r' = [none, none, some (.obj ((ys ++ zs).map .d))])
theorem insO_lay {sz n : Nat} {ys : List D} (hy : ys.length = n * sz) (h0 : 0 < n) {f : FuncId} {P : Program} {G : Nat → List D} {args : List AV} {r : Rs} (hr : r.length ≤ 2) (h : AC P G f args r (insO sz n ys)) : AC P G f args r (fun v r' => v = .d (.sl sz n ys) ∧ r' = [none, none]) := by
  have h1 : AC P G f args r (fun v r' => v = .d (.sl sz n ys) ∧ (r' = [none, none] ∨ r' = [none, none, none])) := by
    refine h.lay fun v r' hv => ?_
    rcases hv with ⟨c, zs, hc, hz, hv, hr⟩ | ⟨c, zs, hc, hz, hv, hr⟩
    · refine ⟨0, (ys ++ zs).map .d, ys ++ zs, by rw [hr]; rfl, allD_map _, ?_⟩
      rw [hv, hr]
      refine ⟨?_, .inl rfl⟩
      simp only [fzA]
      rw [if_pos ⟨trivial, by omega⟩, List.drop_zero, ← hy, List.take_left]
    · refine ⟨2, (ys ++ zs).map .d, ys ++ zs, by rw [hr]; rfl, allD_map _, ?_⟩
      rw [hv, hr]
      refine ⟨?_, .inr rfl⟩
      simp only [fzA]
      rw [if_pos ⟨trivial, by omega⟩, List.drop_zero, ← hy, List.take_left]
  refine ⟨h1.1, fun E w vals hG hA => (h1.2 E w vals hG hA).mono fun e w' ⟨v, x, r', E', he, ho, k1, k2, k3⟩ => ?_⟩
  have hW : WeakR r' [none, none] := by
    rcases ho.2 with rfl | rfl
    · exact ⟨by simp, fun i x hx => by
        match i, hx with
        | 0, hx => simp at hx
        | 1, hx => simp at hx
        | i + 2, hx => simp at hx⟩
    · exact ⟨by simp, fun i x hx => by
        match i, hx with
        | 0, hx => simp at hx
        | 1, hx => simp at hx
        | i + 2, hx => simp at hx⟩
  rw [ho.1] at k1
  exact ⟨.d (.sl sz n ys), x, [none, none], E', he, ⟨rfl, rfl⟩, RA_weak hW _ x rfl k1, k2.weak hW rfl, k3.weak hW hr⟩
/-! What the row holds, step by step. -/
theorem tk_app {α : Type} {A B : List α} {a : Nat} (h : A.length = a) : (A ++ B).take a = A := by subst h; exact List.take_left
theorem dr_app {α : Type} {A B : List α} {a : Nat} (h : A.length = a) : (A ++ B).drop a = B := by subst h; exact List.drop_left
theorem dr_app2 {α : Type} {A B : List α} {a c : Nat} (h : A.length = a) : (A ++ B).drop (a + c) = B.drop c := by rw [← List.drop_drop, dr_app h]
theorem in1 {α : Type} {A B Z : List α} {a b s : Nat} (ha : A.length = a) (hb : B.length = b) : (A ++ B ++ Z).take (a + s) ++ ((A ++ B ++ Z).drop a).take b ++ (A ++ B ++ Z).drop (a + s + b) = (A ++ B ++ Z).take (a + s) ++ B ++ Z.drop s := by
  have h1 : ((A ++ B ++ Z).drop a).take b = B := by rw [List.append_assoc, dr_app ha, tk_app hb]
  have h2 : (A ++ B ++ Z).drop (a + s + b) = Z.drop s := by
    rw [show a + s + b = (a + b) + s by omega, dr_app2 (by rw [List.length_append, ha, hb])]
  rw [h1, h2]
theorem in2 {α : Type} {A B Z x : List α} {a b s : Nat} (ha : A.length = a) (hb : B.length = b) (hs : s ≤ Z.length) : ((A ++ B ++ Z).take (a + s) ++ B ++ Z.drop s).take a ++ x ++ ((A ++ B ++ Z).take (a + s) ++ B ++ Z.drop s).drop (a + s) = A ++ x ++ B ++ Z.drop s := by
  have hl : ((A ++ B ++ Z).take (a + s)).length = a + s := by rw [List.length_take, List.length_append, List.length_append]; omega
  have h1 : ((A ++ B ++ Z).take (a + s) ++ B ++ Z.drop s).take a = A := by
    rw [List.append_assoc, List.take_append_of_le_length (by omega), List.take_take, Nat.min_eq_left (by omega), List.append_assoc, tk_app ha]
  have h2 : ((A ++ B ++ Z).take (a + s) ++ B ++ Z.drop s).drop (a + s) = B ++ Z.drop s := by rw [List.append_assoc, dr_app hl]
  rw [h1, h2, List.append_assoc]; simp
theorem gr1 {α : Type} {A Y x : List α} {a s : Nat} (ha : A.length = a) : (A ++ Y).take a ++ x ++ (A ++ Y).drop (a + s) = A ++ x ++ Y.drop s := by rw [tk_app ha, dr_app2 ha]
theorem gr2 {α : Type} {A B Y x R : List α} {a b s : Nat} (ha : A.length = a) (hb : B.length = b) (hs : x.length = s) (hY : s ≤ Y.length) (hR : R = A ++ B) : (A ++ x ++ Y.drop s).take (a + s) ++ (R.drop a).take b ++ (A ++ x ++ Y.drop s).drop (a + s + b) = A ++ x ++ B ++ Y.drop (s + b) := by
  have hl : (A ++ x).length = a + s := by rw [List.length_append, ha, hs]
  have h3 : B.take b = B := List.take_of_length_le (by omega)
  rw [hR, dr_app ha, h3, tk_app hl, show a + s + b = (a + s) + b from rfl, dr_app2 hl, List.drop_drop]
theorem ia1 {α : Type} {A Z x : List α} {a s : Nat} (ha : A.length = a) : (A ++ Z).take a ++ x ++ (A ++ Z).drop (a + s) = A ++ x ++ Z.drop s := by rw [tk_app ha, dr_app2 ha]
theorem src_x {sz : Nat} {x : List D} (hx : x.length = sz) (h0 : 0 < sz) {a : Option Res} {r : Rs} : srcOf (a :: some (.obj (x.map .d)) :: r) sz (.osl 1 0 sz 1) = some (1, x) := by
  have h1 : (x.map AV.d).take sz = x.map .d := List.take_of_length_le (by rw [List.length_map]; omega)
  simp only [srcOf, objOf, List.getElem?_cons_succ, List.getElem?_cons_zero, List.drop_zero, Nat.one_mul, h1, allD_map]
  rw [if_pos ⟨trivial, by omega⟩]; rfl
set_option maxHeartbeats 400000 in
theorem insF_ac (n i k : Nat) (A B zs x : List D) (hA : A.length = i * 4) (hB : B.length = (n - i) * 4) (hz : zs.length = k * 4) (hx : x.length = 4) (h0 : 0 < n) (hi : i ≤ n) (h : n ≤ 1000000) :
    AC Tryz.prog noG 63 [.csl 0 0 4 n (n + k), .d (.c (.int .i64 i)), .osl 1 0 4 1] [some (.obj ((A ++ B ++ zs).map .d)), some (.obj (x.map .d))] (insO 4 (n + 1) (A ++ x ++ B)) := by
  refine AC.fit ?_
  refine AC_of_R (N := 95) (res := [.tmp 6]) tyL_ok Tryz.call63 Tryz.func63 rfl rfl rfl (Nat.le_of_ble_eq_true rfl) ?_
  have hrl : ((A ++ B ++ zs).map AV.d).length = (n + k) * 4 := by rw [List.length_map, List.length_append, List.length_append, hA, hB, hz]; omega
  by_cases hin : i = n
  · have hin2 : (i : Int) = n := by omega
    have hB0 : B = [] := List.eq_nil_of_length_eq_zero (by rw [hB, hin]; omega)
    subst hB0
    rw [hin] at hA
    refine rn1 @hin2 ?_
    refine ⟨by omega, ?_⟩
    refine HO_appC tyL_ok (e := 38) (sz := 4) (m := 1) (ys := x) (l := (A ++ zs).map .d) (l1 := (A ++ x ++ zs.drop 4).map .d) (l2 := fun k => (A ++ x ++ repD zFc k).map .d) (zl := zFc.map .d) rfl rfl (src_x hx (by decide)) rfl (by omega) (by simp only [ST]) (by simp only [ST]; rfl) ⟨by simp only [ST], by simp only [ST]⟩ (by simp only [ST]; rfl) (by decide) (by decide) (by omega) (by simp only [ST]; omega) (by kernel_rfl) rfl (fun hc => ?_) (fun k => ?_) (fun hc => ?_) (fun hc k2 => ?_)
    · skip
      simp only [← List.map_take, ← List.map_drop, ← List.map_append]
      rw [ia1 hA]
    · rw [repA_map]
      simp only [← List.map_take, ← List.map_drop, ← List.map_append]
      rw [tk_app hA]
    · refine rn0 ?_
      refine ⟨_, _, [0,1], [], (.inl ⟨n + k, zs.drop 4, by omega, by simp only [List.length_append, List.length_drop]; omega, rfl, rfl⟩), ⟨?_, (by first | (simp only [wfSt, wfRs, wfL, wfA, wfM, wfL_append, wfL_map_d, Bool.and_true, Bool.and_self, decide_true, Nat.reduceLT, Nat.reduceAdd, List.length_cons, List.length_nil, Nat.zero_add]; done) | rfl), ?_, (by first | (simp only [wfSt, wfRs, wfL, wfA, wfM, wfL_append, wfL_map_d, Bool.and_true, Bool.and_self, decide_true, Nat.reduceLT, Nat.reduceAdd, List.length_cons, List.length_nil, Nat.zero_add]; done) | rfl), rfl, rfl⟩⟩ <;> exact fitT
    · refine rn0 ?_
      refine ⟨_, _, [0,1,2], [], (.inr ⟨n + 1 + k2, repD zFc k2, by omega, by simp only [List.length_append, repD_len]; simp only [zFc, List.length_cons, List.length_nil]; omega, rfl, rfl⟩), ⟨?_, (by first | (simp only [wfSt, wfRs, wfL, wfA, wfM, wfL_append, wfL_map_d, Bool.and_true, Bool.and_self, decide_true, Nat.reduceLT, Nat.reduceAdd, List.length_cons, List.length_nil, Nat.zero_add]; done) | rfl), ?_, (by first | (simp only [wfSt, wfRs, wfL, wfA, wfM, wfL_append, wfL_map_d, Bool.and_true, Bool.and_self, decide_true, Nat.reduceLT, Nat.reduceAdd, List.length_cons, List.length_nil, Nat.zero_add]; done) | rfl), rfl, rfl⟩⟩ <;> exact fitT
  · have hin2 : ¬ (i : Int) = n := by omega
    refine rn1 @hin2 ?_
    refine ⟨by omega, ?_⟩
    refine HO_capC tyL_ok rfl rfl (by simp only [ST]; rfl) (by kernel_rfl) ?_
    have e1 : ((n : Int) + ((1 : Nat) : Int)).toNat = n + 1 := by omega
    have e2 : (n : Int) + ((1 : Nat) : Int) - i = ((n + 1 - i : Nat) : Int) := by omega
    have e3 : ((i : Int) + ((1 : Nat) : Int)).toNat = i + 1 := by omega
    by_cases hk0 : k = 0
    · subst hk0
      have hz0 : zs = [] := List.eq_nil_of_length_eq_zero (by omega)
      subst hz0
      have hcap : ((n : Int) + 1 > ((n + 0 : Nat) : Int)) := by omega
      refine rn1 (jn @hcap (jn @e1 (jn @e2 @e3))) ?_
      refine ⟨by omega, ?_⟩
      rw [List.append_nil] at hrl
      refine HO_appZ tyL_ok (e := 38) (sz := 4) (q := n + 1 - i) (l := (A ++ B).map .d) (l2 := fun k => (A ++ (repD zFc (n + 1 - i) ++ repD zFc k)).map .d) (zl := zFc.map .d) rfl rfl rfl rfl (by omega) (by simp only [ST]) (by simp only [ST]) ⟨by simp only [ST], by simp only [ST]⟩ (by simp only [ST]; rfl) (by decide) (by omega) (by omega) (by omega) (by simp only [ST]; omega) (by kernel_rfl) rfl (fun k => ?_) (fun k2 => ?_)
      · rw [repA_map, repA_map]
        simp only [← List.map_take, ← List.map_drop, ← List.map_append]
        rw [tk_app hA, List.append_assoc]
      have hY : (repD zFc (n + 1 - i) ++ repD zFc k2).length = (n + 1 - i + k2) * 4 := by rw [List.length_append, repD_len, repD_len]; simp only [zFc, List.length_cons, List.length_nil]; omega
      generalize repD zFc (n + 1 - i) ++ repD zFc k2 = Y at *
      have e4 : i + (n + 1 - i) = n + 1 := by omega
      refine rn1 (jn @e1 (jn @e2 (jn @e3 @e4))) ?_
      refine ⟨by omega, ?_⟩
      have hYs : 4 ≤ Y.length := by omega
      have hYs2 : 4 + (n - i) * 4 ≤ Y.length := by omega
      refine HO_copyCD tyL_ok (e := 38) (m := 1) (k := 1) (ys := x) (l := (A ++ Y).map .d) (l' := (A ++ x ++ Y.drop 4).map .d) rfl rfl (src_x hx (by decide)) rfl (by simp only [ST]) ⟨by simp only [ST], by simp only [ST]⟩ (by omega) (Nat.min_eq_left (by omega)) rfl ?_ (by kernel_rfl) rfl ?_
      · skip
        simp only [← List.map_take, ← List.map_drop, ← List.map_append]
        rw [gr1 hA]
      refine rn0 ?_
      refine HC_plan [] tyL_ok mix (by kernel_rfl) ?_
      refine rn1 (jn @e1 (jn @e2 (jn @e3 @e4))) ?_
      refine ⟨by omega, by omega, ?_⟩
      have h4 : (i + 1) * 4 = i * 4 + 4 := by omega
      refine HO_copyCC tyL_ok (e := 38) (k := n - i) (l := (A ++ x ++ Y.drop 4).map .d) (l2 := (A ++ B).map .d) (l' := (A ++ x ++ B ++ Y.drop (4 + (n - i) * 4)).map .d) rfl rfl rfl rfl rfl (by simp only [ST]) ⟨by simp only [ST], by simp only [ST]⟩ (by omega) (by omega) (Nat.min_eq_left (by omega)) ?_ (by kernel_rfl) rfl ?_
      · rw [h4]
        simp only [← List.map_take, ← List.map_drop, ← List.map_append]
        rw [gr2 hA hB hx hYs rfl]
      refine rn0 ?_
      refine ⟨_, _, [0,1,2], [], (.inr ⟨n + 1 + k2, Y.drop (4 + (n - i) * 4), by omega, by simp only [List.length_append, List.length_drop]; omega, rfl, rfl⟩), ⟨?_, (by first | (simp only [wfSt, wfRs, wfL, wfA, wfM, wfL_append, wfL_map_d, Bool.and_true, Bool.and_self, decide_true, Nat.reduceLT, Nat.reduceAdd, List.length_cons, List.length_nil, Nat.zero_add]; done) | rfl), ?_, (by first | (simp only [wfSt, wfRs, wfL, wfA, wfM, wfL_append, wfL_map_d, Bool.and_true, Bool.and_self, decide_true, Nat.reduceLT, Nat.reduceAdd, List.length_cons, List.length_nil, Nat.zero_add]; done) | rfl), rfl, rfl⟩⟩ <;> exact fitT
    · have hcap : ¬ ((n : Int) + 1 > ((n + k : Nat) : Int)) := by omega
      refine rn1 (jn @hcap (jn @e1 (jn @e2 @e3))) ?_
      refine ⟨by omega, by omega, ?_⟩
      refine HO_overlaps tyL_ok (fn := Tryz.f86) (tS := 39) (tR := 4) (e := 38) (l := x.map .d) (l2 := (A ++ B ++ zs).map .d) rfl rfl Tryz.func86 rfl rfl rfl rfl (by simp only [ST]) (by simp only [ST]) rfl rfl rfl rfl (by decide) (by decide) (by omega) (by omega) (by kernel_rfl) ?_
      refine rn1 (jn @e1 (jn @e2 @e3)) ?_
      refine HC_plan [] tyL_ok mix (by kernel_rfl) ?_
      refine rn1 (jn @e1 (jn @e2 @e3)) ?_
      refine ⟨by omega, by omega, ?_⟩
      have h4 : (i + 1) * 4 = i * 4 + 4 := by omega
      have hzs : 4 ≤ zs.length := by omega
      refine HO_copyCC tyL_ok (e := 38) (k := n - i) (l := (A ++ B ++ zs).map .d) (l2 := (A ++ B ++ zs).map .d) (l' := ((A ++ B ++ zs).take (i * 4 + 4) ++ B ++ zs.drop 4).map .d) rfl rfl rfl rfl rfl (by simp only [ST]) ⟨by simp only [ST], by simp only [ST]⟩ (by omega) (by omega) (by show min _ _ = _; omega) ?_ (by kernel_rfl) rfl ?_
      · rw [h4]
        simp only [← List.map_take, ← List.map_drop, ← List.map_append]
        rw [in1 hA hB]
      refine rn1 (jn @e1 (jn @e2 @e3)) ?_
      refine ⟨by omega, ?_⟩
      refine HO_copyCD tyL_ok (e := 38) (m := 1) (k := 1) (ys := x) (l := ((A ++ B ++ zs).take (i * 4 + 4) ++ B ++ zs.drop 4).map .d) (l' := (A ++ x ++ B ++ zs.drop 4).map .d) rfl rfl (src_x hx (by decide)) rfl (by simp only [ST]) ⟨by simp only [ST], by simp only [ST]⟩ (by omega) (Nat.min_eq_left (by omega)) rfl ?_ (by kernel_rfl) rfl ?_
      · skip
        simp only [← List.map_take, ← List.map_drop, ← List.map_append]
        rw [in2 hA hB hzs]
      refine rn0 ?_
      refine ⟨_, _, [0,1], [], (.inl ⟨n + k, zs.drop 4, by omega, by simp only [List.length_append, List.length_drop]; omega, rfl, rfl⟩), ⟨?_, (by first | (simp only [wfSt, wfRs, wfL, wfA, wfM, wfL_append, wfL_map_d, Bool.and_true, Bool.and_self, decide_true, Nat.reduceLT, Nat.reduceAdd, List.length_cons, List.length_nil, Nat.zero_add]; done) | rfl), ?_, (by first | (simp only [wfSt, wfRs, wfL, wfA, wfM, wfL_append, wfL_map_d, Bool.and_true, Bool.and_self, decide_true, Nat.reduceLT, Nat.reduceAdd, List.length_cons, List.length_nil, Nat.zero_add]; done) | rfl), rfl, rfl⟩⟩ <;> exact fitT
end Go.Proofs.YtdbicadncccpoaaGreat
