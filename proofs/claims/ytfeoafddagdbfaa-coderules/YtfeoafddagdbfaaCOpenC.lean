import Derived.Test.YtfeoafddagdbfaaCOpenS
import Derived.Test.YtfeoafddagdbfaaCEncM
import Derived.Test.YtfeoafddagdbfaaCWtF
set_option linter.unusedVariables false
set_option linter.unusedSimpArgs false
set_option maxRecDepth 100000
namespace Go.Proofs.Ytfeoafddagdbfaa
open Go Go.ChangeShapes Go.WideShapes
theorem hRB : reachBytes = 140737488351232 := rfl
def okCs (c : Cst) : Prop := okC c ∧ c.s.size ≤ reachBytes
def okFct (f : Fct) : Prop := (f.a.size ≤ reachBytes ∧ f.b.size ≤ reachBytes ∧ f.p.size ≤ reachBytes) ∧ f.l.length * 32 ≤ reachBytes ∧ ∀ c ∈ f.l, okCs c
def okTm (t : Trm) : Prop := t.v.size ≤ reachBytes ∧ okCs t.c
def okTml (l : List Trm) : Prop := l.length * 48 ≤ reachBytes ∧ ∀ t ∈ l, okTm t
def okLit (x : Lit) : Prop := okTm x.b ∧ x.p.size ≤ reachBytes ∧ okTml x.l ∧ okTm x.a
def okRule (r : Rul) : Prop := okTm r.h ∧ r.p.size ≤ reachBytes ∧ okTml r.l ∧ okTm r.t ∧ r.b.length * 136 ≤ reachBytes ∧ ∀ x ∈ r.b, okLit x
theorem o_int {t : TypeId} (h : Try.prog.underlying t = some (.int .i64)) : Opens Try.prog t (fun n : Int => [.c (.int .i64 n)]) (fun _ => 1) (fun n => IntKind.i64.min ≤ n ∧ n ≤ IntKind.i64.max) := opens_int h
theorem o_str : Opens Try.prog 9 (fun s : ByteArray => [.c (.string s)]) (fun s => s.size + 1) (fun s => s.size ≤ reachBytes) := opens_string (by kernel_rfl)
theorem o_boo : Opens Try.prog 4 (fun q : Bool => [.c (.bool q)]) (fun _ => 1) (fun _ => True) := opens_bool (by kernel_rfl)
theorem o_cst : Opens Try.prog 53 cstE (fun _ => 1) okCs := by
  have base := opens_struct (m := 3) Try.underlying53 (by kernel_rfl) (fun a _ => rfl) (opensF_c (sz := 1) o_boo (opensF_c (sz := 1) (o_int (t := 3) (by kernel_rfl)) (opensF_c (sz := 1) o_str (opensF_nil Try.prog 3) rfl (by kernel_rfl) (fun _ _ => rfl)) rfl (by kernel_rfl) (fun _ _ => rfl)) rfl (by kernel_rfl) (fun _ _ => rfl))
  exact base.mono (fun x => ⟨x.1, x.2.1, x.2.2.1⟩) (fun a _ => rfl) (fun a _ => by omega) (fun a h => ⟨h.2.1, h.2.2.1⟩)
theorem o_csts : Opens Try.prog 38 (fun l : List Cst => [.sl 3 l.length (flatE cstE l)]) (fun l => (l.map fun _ => 1).sum + 1) (fun l => l.length * 32 ≤ reachBytes ∧ ∀ c ∈ l, okCs c) :=
  opens_slice (e := 53) (by kernel_rfl) (by kernel_rfl) (by kernel_rfl) (fun a _ => rfl) o_cst
theorem o_fct : Opens Try.prog 40 fctE (fun _ => 1) okFct := by
  have base := opens_struct (m := 4) Try.underlying40 (by kernel_rfl) (fun a _ => rfl) (opensF_c (sz := 1) o_str (opensF_c (sz := 1) o_str (opensF_c (sz := 1) o_str (opensF_c (sz := 1) o_csts (opensF_nil Try.prog 4) rfl (by kernel_rfl) (fun _ _ => rfl)) rfl (by kernel_rfl) (fun _ _ => rfl)) rfl (by kernel_rfl) (fun _ _ => rfl)) rfl (by kernel_rfl) (fun _ _ => rfl))
  exact base.mono (fun x => ⟨x.1, x.2.1, x.2.2.1, x.2.2.2.1⟩) (fun a _ => rfl) (fun a _ => by omega) (fun a h => ⟨⟨h.1, h.2.1, h.2.2.1⟩, h.2.2.2.1⟩)
theorem o_fcts : Opens Try.prog 42 (fun l : List Fct => [.sl 4 l.length (flatE fctE l)]) (fun l => (l.map fun _ => 1).sum + 1) (fun l => l.length * 72 ≤ reachBytes ∧ ∀ f ∈ l, okFct f) :=
  opens_slice (e := 40) (by kernel_rfl) (by kernel_rfl) (by kernel_rfl) (fun a _ => rfl) o_fct
theorem o_trm : Opens Try.prog 55 trmE (fun _ => 1) okTm := by
  have base := opens_struct (m := 4) Try.underlying55 (by kernel_rfl) (fun a _ => rfl) (opensF_c (sz := 1) o_str (opensF_c (sz := 3) o_cst (opensF_nil Try.prog 4) rfl (by kernel_rfl) (fun _ _ => rfl)) rfl (by kernel_rfl) (fun _ _ => rfl))
  exact base.mono (fun x => ⟨x.1, x.2.1⟩) (fun a _ => rfl) (fun a _ => by omega) (fun a h => ⟨h.1, h.2.1⟩)
theorem o_trms : Opens Try.prog 56 (fun l : List Trm => [.sl 4 l.length (flatE trmE l)]) (fun l => (l.map fun _ => 1).sum + 1) okTml :=
  opens_slice (e := 55) (by kernel_rfl) (by kernel_rfl) (by kernel_rfl) (fun a _ => rfl) o_trm
theorem o_lit : Opens Try.prog 64 litE (fun _ => 1) okLit := by
  have base := opens_struct (m := 10) Try.underlying64 (by kernel_rfl) (fun a _ => rfl) (opensF_c (sz := 4) o_trm (opensF_c (sz := 1) o_str (opensF_c (sz := 1) o_trms (opensF_c (sz := 4) o_trm (opensF_nil Try.prog 10) rfl (by kernel_rfl) (fun _ _ => rfl)) rfl (by kernel_rfl) (fun _ _ => rfl)) rfl (by kernel_rfl) (fun _ _ => rfl)) rfl (by kernel_rfl) (fun _ _ => rfl))
  exact base.mono (fun x => ⟨x.1, x.2.1, x.2.2.1, x.2.2.2.1⟩) (fun a _ => rfl) (fun a _ => by omega) (fun a h => ⟨h.1, h.2.1, h.2.2.1, h.2.2.2.1⟩)
theorem o_lits : Opens Try.prog 57 (fun l : List Lit => [.sl 10 l.length (flatE litE l)]) (fun l => (l.map fun _ => 1).sum + 1) (fun l => l.length * 136 ≤ reachBytes ∧ ∀ x ∈ l, okLit x) :=
  opens_slice (e := 64) (by kernel_rfl) (by kernel_rfl) (by kernel_rfl) (fun a _ => rfl) o_lit
theorem o_rul : Opens Try.prog 59 rulE (fun _ => 1) okRule := by
  have base := opens_struct (m := 11) Try.underlying59 (by kernel_rfl) (fun a _ => rfl) (opensF_c (sz := 4) o_trm (opensF_c (sz := 1) o_str (opensF_c (sz := 1) o_trms (opensF_c (sz := 4) o_trm (opensF_c (sz := 1) o_lits (opensF_nil Try.prog 11) rfl (by kernel_rfl) (fun _ _ => rfl)) rfl (by kernel_rfl) (fun _ _ => rfl)) rfl (by kernel_rfl) (fun _ _ => rfl)) rfl (by kernel_rfl) (fun _ _ => rfl)) rfl (by kernel_rfl) (fun _ _ => rfl))
  exact base.mono (fun x => ⟨x.1, x.2.1, x.2.2.1, x.2.2.2.1, x.2.2.2.2.1⟩) (fun a _ => rfl) (fun a _ => by omega) (fun a h => ⟨h.1, h.2.1, h.2.2.1, h.2.2.2.1, h.2.2.2.2.1⟩)
theorem o_ruls : Opens Try.prog 22 (fun l : List Rul => [.sl 11 l.length (flatE rulE l)]) (fun l => (l.map fun _ => 1).sum + 1) (fun l => l.length * 160 ≤ reachBytes ∧ ∀ r ∈ l, okRule r) :=
  opens_slice (e := 59) (by kernel_rfl) (by kernel_rfl) (by kernel_rfl) (fun a _ => rfl) o_rul
theorem okFct_f {f : Fct} (h : okFct f) : okF f ∧ szF f := by
  obtain ⟨⟨h1, h2, h3⟩, h4, h5⟩ := h
  have := hRB
  refine ⟨fun c hc => (h5 c hc).1, by omega, by omega, by omega, by omega, fun c hc => ?_⟩
  have := (h5 c hc).2
  omega
theorem okTml_l {l : List Trm} (h : okTml l) : szL l ∧ okTs l := by
  have := hRB
  have := h.1
  exact ⟨by unfold szL; omega, fun t ht => (h.2 t ht).2.1⟩
theorem okRule_r {r : Rul} (h : okRule r) : szR r ∧ okRl r := by
  obtain ⟨h1, _, h3, h4, h5, h6⟩ := h
  have := hRB
  exact ⟨⟨(okTml_l h3).1, by omega, fun x hx => (okTml_l (h6 x hx).2.2.1).1⟩, h1.2.1, (okTml_l h3).2, h4.2.1, fun x hx => ⟨(h6 x hx).1.2.1, (okTml_l (h6 x hx).2.2.1).2, (h6 x hx).2.2.2.2.1⟩⟩
end Go.Proofs.Ytfeoafddagdbfaa
