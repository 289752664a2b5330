import Derived.Test.YtfeoafddagdbfaaCPutF
set_option linter.unusedVariables false
set_option linter.unusedSimpArgs false
set_option maxRecDepth 100000
namespace Go.Proofs.Ytfeoafddagdbfaa
open Go Go.ChangeShapes Go.WideShapes
def rpcSt (f : Fct) (i : Nat) (acc : List UInt8) : List (Nat × AV) := [(3, .ptr 0 0), (5, .d (.c (.int .i64 0))), (7, .d (.c (.int .i64 i))), (6, .sl (.own 6) 1 acc.length (bD acc))]
def rpcRe (f : Fct) (acc : List UInt8) : Rs := [some (.obj ((fctE f).map .d)), none, none, none, none, none, some (.tok acc.length)]
set_option maxHeartbeats 1000000 in
theorem rputF_ac (b : List UInt8) (f : Fct) (ho : okF f) (hf : f.l.length ≤ 140737488352000) (hb : b.length ≤ 140737488200000) : AC Try.prog noG 24 [.d (.sl 1 b.length (bD b)), .d (.agg (fctE f))] []
    (fun v r' => v = .tup [.sl (.own 0) 1 (putFR b f).length (bD (putFR b f)), .d (.c (.int .i64 (chkE f)))] ∧ r' = [some (.tok (putFR b f).length)]) := by
  refine AC.fit ?_
  refine AC_of_R (N := 47) (res := [.tmp 4, .tmp 5]) ty_ok Try.call24 Try.func24 rfl rfl rfl (Nat.le_of_ble_eq_true rfl) ?_
  have hck := rfchk_ac f hf
  refine rn1 @fctE.eq_1 ?_
  (repeat (refine And.intro (by omega) ?_))
  refine HO_pureA ty_ok hck ?_
  by_cases hc : chkF f = true
  · have e1 : putFR b f = putF b f := if_pos hc
    rw [chkE_ok hc, e1]
    obtain ⟨k1, k2, k3, k4, k5⟩ := chkF_iff hc
    have s1 := txt_size k1
    have s2 := txt_size k2
    have s3 := txt_size k3
    have hF : putF b f = f.l.foldl putC (putTx (putTx (putTx b f.a) f.b) f.p ++ leb (zig (f.l.length : Int))) := rfl
    have g1 := putTx_bd b (s := f.a) (by omega)
    have g2 := putTx_bd (putTx b f.a) (s := f.b) (by omega)
    have g3 := putTx_bd (putTx (putTx b f.a) f.b) (s := f.p) (by omega)
    have c1 := rputText_ac b f.a (by omega) (by omega)
    have c2 := rputText_ac (putTx b f.a) f.b (by omega) (by omega)
    have c3 := rputText_ac (putTx (putTx b f.a) f.b) f.p (by omega) (by omega)
    generalize putTx b f.a = b1 at *
    generalize putTx b1 f.b = b2 at *
    generalize putTx b2 f.p = b3 at *
    have hpi := rputInt_ac b3 (f.l.length : Int) (by omega) (by omega) (by omega)
    have hb0l := leb_nat (n := f.l.length) (by omega)
    obtain ⟨b0, hb0⟩ : ∃ b0, b0 = b3 ++ leb (zig (f.l.length : Int)) := ⟨_, rfl⟩
    have hb0e : b0.length = b3.length + (leb (zig (f.l.length : Int))).length := by rw [hb0, List.length_append]
    rw [← hb0] at hpi hF
    rw [hF]
    refine rn0 ?_
    refine HO_callX ty_ok [] c1 (trivial) rfl ?_
    rintro v r' ⟨rfl, rfl⟩ _
    refine rn0 ?_
    refine HO_callX ty_ok [] c2 (trivial) rfl ?_
    rintro v r' ⟨rfl, rfl⟩ _
    refine rn0 ?_
    refine HO_callX ty_ok [] c3 (trivial) rfl ?_
    rintro v r' ⟨rfl, rfl⟩ _
    refine rn0 ?_
    refine HO_callX ty_ok [] hpi (trivial) rfl ?_
    rintro v r' ⟨rfl, rfl⟩ _
    refine rn0 ?_
    refine HC_loopR (fun i : Nat => rpcSt f i ((f.l.take i).foldl putC b0)) (fun i => rpcRe f ((f.l.take i).foldl putC b0)) (fun i => i ≤ f.l.length) (fun i => f.l.length - i) 0 [0, 0, 0, 0, 0, 0, 5] [] (by omega) ?_ ?_
    · exact ft1 (jn @rpcSt.eq_1 (jn @rpcRe.eq_1 (jn @List.take_zero.{0} (jn @List.foldl_nil.{0, 0} @fctE.eq_1))))
    intro i hi1
    refine HC_of_R ty_ok ?_
    by_cases hlt : i < f.l.length
    · have hi : (i : Int) < f.l.length := by omega
      have hd := flatE_drop cstE_len f.l i hlt
      have hle := flatE_len cstE_len f.l
      have hstep := fold_take putC f.l i hlt b0
      have hoc := ho f.l[i] (List.getElem_mem hlt)
      have hgc := good_size (k5 f.l[i] (List.getElem_mem hlt))
      have hacc := foldC_le (f.l.take i) b0 (fun t h => ⟨ho t (List.mem_of_mem_take h), k5 t (List.mem_of_mem_take h)⟩)
      rw [List.length_take] at hacc
      generalize f.l[i] = c at *
      generalize (f.l.take i).foldl putC b0 = acc at *
      have hk := rputC_ac acc c hoc (by omega)
      rw [← hstep] at hk
      simp only [cstE, List.cons_append, List.nil_append] at hd hk
      refine rn1 (jn @rpcSt.eq_1 (jn @rpcRe.eq_1 (jn @fctE.eq_1 (jn @hi (jn @hd (jn @hle @cstE.eq_1)))))) ?_
      (repeat (refine And.intro (by omega) ?_))
      refine HO_callX ty_ok [6] hk (⟨fun y h => by injection h with h; subst h; rfl, trivial⟩) (rfl) ?_
      rintro v r' ⟨rfl, rfl⟩ _
      refine rn0 ?_
      (repeat (refine And.intro (by omega) ?_))
      refine ⟨i + 1, by omega, by omega, [0, 1, 2, 3, 4, 5, 7], [], ?_⟩
      exact ft1 (jn @rpcSt.eq_1 (jn @rpcRe.eq_1 @fctE.eq_1))
    · have hi : ¬ (i : Int) < f.l.length := by omega
      rw [List.take_of_length_le (by omega)]
      refine rn1 (jn @rpcSt.eq_1 (jn @rpcRe.eq_1 (jn @fctE.eq_1 @hi))) ?_
      exact fv0 [6] []
  · have e1 : putFR b f = b := if_neg hc
    rw [chkE_no hc, e1]
    refine rn0 ?_
    exact fv0 [1] []
end Go.Proofs.Ytfeoafddagdbfaa
