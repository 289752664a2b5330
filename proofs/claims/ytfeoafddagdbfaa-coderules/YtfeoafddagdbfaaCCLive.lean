import Derived.Test.YtfeoafddagdbfaaCSim
import Derived.Test.YtfeoafddagdbfaaCRPutF
import Derived.Test.YtfeoafddagdbfaaCEnc
import Derived.Test.YtfeoafddagdbfaaCCmp
set_option linter.unusedVariables false
set_option linter.unusedSimpArgs false
set_option maxRecDepth 100000
namespace Go.Proofs.Ytfeoafddagdbfaa
open Go Go.ChangeShapes Go.WideShapes
theorem AC_tup2 {f : FuncId} {args : List AV} {sz n : Nat} {xs : List D} {e : D} {O : AV → Rs → Prop} (h : AC Try.prog noG f args [] O) (hO : ∀ v r', O v r' → v = .tup [.sl (.own 0) sz n xs, .d e]) : AC Try.prog noG f args [] (fun v r' => v = .tup [.d (.sl sz n xs), .d e] ∧ r' = []) :=
  AC.wk (h.mono (fun v r' hv => by rw [hO v r' hv]; exact wkv_tup ⟨WeakA.toD rfl, WeakA.refl _, trivial⟩)) rfl
theorem putF_dat (b : List UInt8) (f : Fct) (ho : okF f) (hf : f.l.length ≤ 140737488352000) (hb : b.length ≤ 140737488200000) : AC Try.prog noG 22 [.d (.sl 1 b.length (bD b)), .d (.agg (fctE f))] []
    (fun v r' => v = .tup [.d (.sl 1 (putFR b f).length (bD (putFR b f))), .d (.c (.int .i64 (chkE f)))] ∧ r' = []) := AC_tup2 (putF_ac b f ho hf hb) (by rintro v r' ⟨rfl, _⟩; rfl)
theorem rputF_dat (b : List UInt8) (f : Fct) (ho : okF f) (hf : f.l.length ≤ 140737488352000) (hb : b.length ≤ 140737488200000) : AC Try.prog noG 24 [.d (.sl 1 b.length (bD b)), .d (.agg (fctE f))] []
    (fun v r' => v = .tup [.d (.sl 1 (putFR b f).length (bD (putFR b f))), .d (.c (.int .i64 (chkE f)))] ∧ r' = []) := AC_tup2 (rputF_ac b f ho hf hb) (by rintro v r' ⟨rfl, _⟩; rfl)
theorem putFR_len {b : List UInt8} {f : Fct} (ho : okF f) : (putFR b f).length ≤ b.length + 2300 := by
  unfold putFR
  split
  · exact putF_le ho (by assumption)
  · omega
theorem rdF0_len {b : List UInt8} {k : Int} : (rdF0 b k).1.l.length ≤ 48 := by
  simp only [rdF0, thn, tx4, ct4]
  refine Nat.le_trans (rdG_len _ _ _ _) ?_
  exact Int.toNat_le.2 (rdC_most (by decide))
theorem rdF_len {b : List UInt8} {k : Int} : (rdF b k).1.l.length ≤ 48 := by
  unfold rdF
  split
  · split
    · exact rdF0_len
    · exact Nat.zero_le _
  · exact Nat.zero_le _
def fL : Fct := ⟨⟨#[97]⟩, ⟨#[97]⟩, ⟨#[112]⟩, [⟨true, 1, ⟨#[]⟩⟩]⟩
theorem fL_put : putFR [] fL = [2, 97, 2, 97, 2, 112, 2, 0, 2] := by decide +kernel
theorem fL_chk : chkE fL = 0 := by decide +kernel
theorem d00 : decE [0, 0] (dec0 (dcC [0, 0]) [0, 0]) = ([], 11) := by decide +kernel
theorem e0 : encR [] = ([0], 0) := by decide +kernel
set_option maxHeartbeats 1000000 in
theorem clive_ac : AC Try.prog noG 11 [] [] (fun v r' => v = .d (.c (.bool true)) ∧ r' = []) := by
  refine AC.pure ?_ (by rintro v rfl; rfl)
  refine AC_of_R (N := 50) (res := [.tmp 0]) ty_ok Try.call11 Try.func11 rfl rfl rfl (Nat.le_of_ble_eq_true rfl) ?_
  have h1 := putF_dat [] fL (by intro c hc; simp only [fL, List.mem_cons, List.not_mem_nil, or_false] at hc; subst hc; exact ⟨by decide, by decide⟩) (by decide) (by decide)
  rw [fL_put, fL_chk] at h1
  have h2 := dec_ac [0, 0] (by decide)
  rw [d00] at h2
  have h3 := enc_ac [] (by simp [okRs]) (by decide)
  rw [e0] at h3
  have h4 := sfact_ac fL fL (by decide) (by decide)
  rw [decide_eq_true rfl] at h4
  refine rn0 ?_
  refine HO_pureA ty_ok h1 ?_
  refine rn0 ?_
  refine HO_pureA ty_ok h2 ?_
  refine rn1 @deV.eq_1 ?_
  refine HO_pureA ty_ok h3 ?_
  refine rn1 @enV.eq_1 ?_
  refine HO_pureA ty_ok (same_ac [2, 97, 2, 97, 2, 112, 2, 0, 2] [2, 97, 2, 97, 2, 112, 2, 0, 2] (by decide) (by decide)) ?_
  refine rn0 ?_
  refine HO_pureA ty_ok (same_ac [0] [0] (by decide) (by decide)) ?_
  refine rn0 ?_
  refine HO_pureA ty_ok h4 ?_
  exact rz0
end Go.Proofs.Ytfeoafddagdbfaa
