import Derived.Test.YthdjblfiiogmgaaCClose
import Derived.Test.YthdjblfiiogmgaaCJ4
import Derived.Test.YthdjblfiiogmgaaCTableDoes
set_option linter.unusedVariables false
set_option linter.unusedSimpArgs false
set_option maxRecDepth 100000
namespace Go.Proofs.Ythdjblfiiogmgaa
open Go Go.ChangeShapes Go.WideShapes
theorem okFct_sz {f : Fct} (h : okFct f) : szF f := by
  have h2 := hRB
  have h3 := h.1
  have h4 := h.2.1
  refine ⟨by omega, by omega, by omega, by omega, fun c hc => ?_⟩
  have := (h.2.2 c hc).2
  omega
theorem o_akt : Opens Try.prog 80 aktE (fun _ => 1) (fun x => okFct x.f) := by
  have base := opens_struct (m := 6) Try.underlying80 (by kernel_rfl) (fun a h => by simp [fctE]) (opensF_c (sz := 1) (o_int (t := 3) (by kernel_rfl)) (opensF_c (sz := 4) o_fct (opensF_c (sz := 1) (o_int (t := 3) (by kernel_rfl)) (opensF_nil Try.prog 6) rfl (by kernel_rfl) (fun _ _ => rfl)) rfl (by kernel_rfl) (fun _ _ => rfl)) rfl (by kernel_rfl) (fun _ _ => rfl))
  exact base.mono (fun x => ⟨x.1, x.2.1, x.2.2.1⟩) (fun a _ => by simp [aktE, fctE]) (fun a _ => by omega) (fun a h => h.2.1)
theorem o_akts : Opens Try.prog 74 (fun l : List Actt => [.sl 6 l.length (flatE aktE l)]) (fun l => (l.map fun _ => 1).sum + 1) (fun l => l.length * 88 ≤ reachBytes ∧ ∀ x ∈ l, okFct x.f) :=
  opens_slice (e := 80) (by kernel_rfl) (by kernel_rfl) (by kernel_rfl) (fun a _ => rfl) o_akt
theorem okAk_t {l : List Actt} (h : l.length * 88 ≤ reachBytes ∧ ∀ x ∈ l, okFct x.f) : (∀ x ∈ l, szF x.f) ∧ l.length ≤ 140737488352000 := ⟨fun x hx => okFct_sz (h.2 x hx), by have := h.1; have := hRB; omega⟩
namespace tableDoesSaid
set_option maxRecDepth 100000 in
theorem lifted (os : Os) (started : os.Started) (H : Type) (enc : TypeId × Value → H) :
    ReturnsInHanded {} Try.checked os 10 .any (Rows.tableDoesSpec.pre6 enc Try.prog Try.f10 Rows.tableDoesRow.domain false) (Rows.tableDoesSpec.post enc Try.prog Try.f10 false true false false) := by
  refine returnsInHanded_of_change_sized (C := Try.checked) own started (by kernel_rfl) Try.func10
    (ChangeSpec.witness6 (enc := enc) (C := Try.checked) false ⟨#[], #[.int .i64 0, .slice none 0 0], []⟩ 8 (by kernel_rfl) (by kernel_rfl) (by kernel_rfl) (by kernel_rfl)) ?_
  intro W base args ds gs before hval hW _ hw _
  have hW0 := hW
  obtain ⟨p, q, hA0, hV, rfl, hfz, hnd⟩ := hW
  have hA : DataW.TrodAll enc Try.prog W 0 (fun _ => true) true Try.f10.params.toList args.toList ds p := hA0
  rw [Try.params10] at hA hval hw
  clear hA0
  obtain ⟨v0, vs0, d0, ds0, p0, q0, hargs, rfl, rfl, h0, r0⟩ := trodAll_cons hA
  obtain ⟨v1, vs1, d1, ds1, p1, q1, rfl, rfl, rfl, h1, r1⟩ := trodAll_cons r0
  obtain ⟨rfl, rfl, rfl⟩ := trodAll_nil r1
  obtain rfl : args = #[v0, v1] := by cases args; simp_all
  obtain ⟨rfl, rfl⟩ := trodVars_none hV
  obtain ⟨a0, o0, k0, m0⟩ := arg_one (f := fun n : Int => D.c (.int .i64 n)) Try.underlying3 rfl (opens_int Try.underlying3) (hval 0 3 v0 rfl rfl) (weights_of hw 0 rfl rfl) h0
  obtain ⟨a1, o1, k1, m1⟩ := arg_one (f := fun l : List Actt => D.sl 6 l.length (flatE aktE l)) Try.underlying74 rfl (o_akts) (hval 1 74 v1 rfl rfl) (weights_of hw 1 rfl rfl) h1
  refine (AC.calls (tableDoes_ac a0 a1 (okAk_t o1).2 (okAk_t o1).1) (fun g => by simp [noG, RM]) (by simp only [RAL]; exact ⟨_, _, rfl, k0, _, _, rfl, k1, rfl⟩)).mono fun e W' ⟨he, hk⟩ => ?_
  subst he
  exact ⟨_, rfl, post_of_kept kids full (by rw [Try.params10]; decide +kernel) (fun n hn => by cases hn) (tb := boolT) boolU rfl hW0 rfl rfl rfl hk⟩
theorem proved : Rows.TableDoesSaid :=
  OpenClaim.holds_of_wide 10 Try.f10 rfl rfl rfl rfl rfl rfl rfl ⟨rfl, rfl, rfl, rfl, rfl⟩ rfl rfl rfl rfl rfl (by kernel_rfl) Try.func10 (by kernel_rfl)
    (of_decide_eq_true (by kernel_rfl)) (by unfold Func.isWrapper; first | (rw [if_pos (by decide +kernel)]; kernel_rfl) | (rw [if_neg (by decide +kernel)]; exact ⟨rfl, rfl⟩))
    (fun os started H enc _ => lifted os started H enc)
end tableDoesSaid
end Go.Proofs.Ythdjblfiiogmgaa
