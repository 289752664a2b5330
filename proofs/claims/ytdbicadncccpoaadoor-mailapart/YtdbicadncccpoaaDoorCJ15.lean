/- Parts of the proof: OpenS, OpenA, OpenM, MSeal, MOpen. -/
import Derived.Test.YtdbicadncccpoaaDoorCJ0
import Derived.Test.YtdbicadncccpoaaDoorCJ14
import Derived.Test.YtdbicadncccpoaaDoorCJ5
import Derived.Test.YtdbicadncccpoaaDoorCJ4
set_option linter.unusedVariables false
set_option linter.unusedSimpArgs false
set_option maxRecDepth 100000
namespace Go.Proofs.YtdbicadncccpoaaDoor
open Go Go.ChangeShapes Go.WideShapes
def OpensF (P : Program) (fs : List Field) (off : Nat) {α : Type} (en : α → List D) (ms : α → Nat) (ok : α → Prop) : Prop :=
  ∀ (H : Type) (enc : TypeId × Value → H) (W : World) (n : Nat) (cs : List Value) (ys : List (DataW H × List MemPlace)), ys.length = fs.length →
    (∀ (i : Nat) f, fs[i]? = some f → ∃ y, ys[i]? = some y ∧ DataW.trod enc P W 0 (fun _ => true) true n f.type ((cs.drop f.offset).take (P.cellsOf f.type)) = some y) →
    (∀ k ∈ DataW.weightsEach P (fs.map (·.type)) (ys.map (·.1)), k ≤ reachBytes) →
    ∃ a, ok a ∧ RL (oldT W) W (en a) ((cs.drop off).take (en a).length) ∧ ms a ≤ bkAll (ys.map (·.1))
theorem opensF_nil (P : Program) (off : Nat) : OpensF P [] off (fun _ : Unit => []) (fun _ => 0) (fun _ => True) := by
  intro H enc W n cs ys hl _ _
  refine ⟨(), trivial, by simp [RL], Nat.zero_le _⟩
theorem opensF_cons {P : Program} {f : Field} {fs : List Field} {off sz : Nat} {α β : Type} {en1 : α → List D} {ms1 : α → Nat} {ok1 : α → Prop} {en2 : β → List D} {ms2 : β → Nat} {ok2 : β → Prop} (hoff : f.offset = off) (hsz : P.cellsOf f.type = sz)
    (hen : ∀ a, ok1 a → (en1 a).length = sz) (h1 : Opens P f.type en1 ms1 ok1) (h2 : OpensF P fs (off + sz) en2 ms2 ok2) :
    OpensF P (f :: fs) off (fun a : α × β => en1 a.1 ++ en2 a.2) (fun a => ms1 a.1 + ms2 a.2) (fun a => ok1 a.1 ∧ ok2 a.2) := by
  intro H enc W n cs ys hl hall hw
  match ys, hl with
  | y :: ys, hl =>
    obtain ⟨y', hy, ht⟩ := hall 0 f rfl
    have hy' : y = y' := by simpa using hy
    subst hy'
    simp only [List.map_cons, DataW.weightsEach, List.mem_append] at hw
    obtain ⟨a, o1, r1, b1⟩ := h1 H enc W n _ y ht (fun k hk => hw k (.inl hk))
    obtain ⟨b, o2, r2, b2⟩ := h2 H enc W n cs ys (by simpa using hl) (fun i g hg => by simpa using hall (i + 1) g (by simpa using hg)) (fun k hk => hw k (.inr hk))
    refine ⟨(a, b), ⟨o1, o2⟩, ?_, by simp only [List.map_cons, bkAll]; omega⟩
    simp only [List.length_append]
    rw [List.take_add, hen a o1, List.drop_drop]
    rw [hoff, hsz] at r1
    exact RL_append _ _ _ _ r1 r2
theorem opens_struct {P : Program} {t : TypeId} {fs : Array Field} {m : Nat} {α : Type} {en : α → List D} {ms : α → Nat} {ok : α → Prop} (ht : P.underlying t = some (.struct fs)) (hm : P.cellsOf t = m) (hen : ∀ a, ok a → (en a).length = m)
    (h : OpensF P fs.toList 0 en ms ok) : Opens P t en (fun a => ms a + 1) ok := by
  intro H enc W fuel cs x hx hw
  obtain ⟨xs, n, _, rfl, hl, hlen, hf⟩ := DataW.trod_struct ht hx
  obtain ⟨a, h1, h2, h3⟩ := h H enc W n cs xs (by simpa using hlen) (fun i f hf' => by
    have h1 := hf i f (by simpa using hf')
    have hi : i < xs.length := by
      have := (List.getElem?_eq_some_iff.1 hf').1
      simp at this; omega
    exact ⟨xs[i], List.getElem?_eq_getElem hi, by rw [h1, List.getElem?_eq_getElem hi]⟩) (fun k hk => hw k (by simpa [DataW.weights, ht] using hk))
  refine ⟨a, h1, ?_, by simp only [bk]; omega⟩
  rw [List.drop_zero, hen a h1, List.take_of_length_le (by omega)] at h2
  exact h2
theorem opensF_c {P : Program} {f : Field} {fs : List Field} {off sz : Nat} {α β : Type} {en1 : α → List D} {ms1 : α → Nat} {ok1 : α → Prop} {en2 : β → List D} {ms2 : β → Nat} {ok2 : β → Prop} (h1 : Opens P f.type en1 ms1 ok1) (h2 : OpensF P fs (off + sz) en2 ms2 ok2) (hoff : f.offset = off) (hsz : P.cellsOf f.type = sz)
    (hen : ∀ a, ok1 a → (en1 a).length = sz) : OpensF P (f :: fs) off (fun a : α × β => en1 a.1 ++ en2 a.2) (fun a => ms1 a.1 + ms2 a.2) (fun a => ok1 a.1 ∧ ok2 a.2) := opensF_cons hoff hsz hen h1 h2
end Go.Proofs.YtdbicadncccpoaaDoor

set_option linter.unusedVariables false
set_option linter.unusedSimpArgs false
set_option maxRecDepth 100000
namespace Go.Proofs.YtdbicadncccpoaaDoor
open Go Go.ChangeShapes Go.WideShapes
theorem opens_array {P : Program} {t e : TypeId} {α : Type} {en : α → List D} {ms : α → Nat} {ok : α → Prop} {n sz : Nat} (ht : P.underlying t = some (.array n e)) (hsz : P.cellsOf e = sz) (hct : P.cellsOf t = n * sz) (hen : ∀ a, ok a → (en a).length = sz) (h : Opens P e en ms ok) :
    Opens P t (fun l : List α => l.flatMap en) (fun _ => 1) (fun l => l.length = n ∧ ∀ a ∈ l, ok a) := by
  intro H enc W fuel cs x hx hw
  obtain ⟨xs, m, _, rfl, hl, hlen, hf⟩ := DataW.trod_array ht hx
  have hlist : ∀ k, k ≤ n → ∃ l : List α, l.length = k ∧ (∀ a ∈ l, ok a) ∧ RL (oldT W) W (l.flatMap en) (cs.take (k * sz)) := by
    intro k
    induction k with
    | zero => exact fun _ => ⟨[], rfl, fun a ha => by simp at ha, by simp [RL]⟩
    | succ k ih =>
      intro hk
      obtain ⟨l, hl1, hok, hr⟩ := ih (by omega)
      have hi : k < xs.length := by omega
      have h1 := hf k (by omega)
      rw [List.getElem?_eq_getElem hi, hsz] at h1
      have hm : xs[k].1 ∈ xs.map (·.1) := List.mem_map.2 ⟨xs[k], List.getElem_mem hi, rfl⟩
      obtain ⟨a, o1, r1, _⟩ := h H enc W m _ xs[k] h1 (fun q hq => hw q (by
        simp only [DataW.weights, ht]
        exact weightsAll_mem hm q hq))
      refine ⟨l ++ [a], by simp [hl1], ?_, ?_⟩
      · intro y hy
        simp only [List.mem_append, List.mem_cons, List.not_mem_nil, or_false] at hy
        rcases hy with hy | rfl
        · exact hok y hy
        · exact o1
      · rw [List.flatMap_append, List.flatMap_cons, List.flatMap_nil, List.append_nil, Nat.succ_mul, List.take_add]
        exact RL_append _ _ _ _ hr r1
  obtain ⟨l, h1, h2, h3⟩ := hlist n (Nat.le_refl _)
  refine ⟨l, ⟨h1, h2⟩, ?_, by simp only [bk]; omega⟩
  rw [List.take_of_length_le (by omega)] at h3
  exact h3
end Go.Proofs.YtdbicadncccpoaaDoor

set_option linter.unusedVariables false
set_option linter.unusedSimpArgs false
set_option maxRecDepth 100000
namespace Go.Proofs.YtdbicadncccpoaaDoor
open Go Go.ChangeShapes Go.WideShapes
theorem hRB : reachBytes = 140737488351232 := rfl
def okCs (c : Cst) : Prop := okC c ∧ c.s.size ≤ reachBytes
def okFct (f : Fct) : Prop := (f.a.size ≤ reachBytes ∧ f.b.size ≤ reachBytes ∧ f.p.size ≤ reachBytes) ∧ f.l.length * 32 ≤ reachBytes ∧ ∀ c ∈ f.l, okCs c
def okPk (p : Pkt) : Prop := (p.fr.size ≤ reachBytes ∧ p.to.size ≤ reachBytes) ∧ (-9223372036854775808 ≤ p.sq ∧ p.sq ≤ 9223372036854775807) ∧ (-9223372036854775808 ≤ p.ak ∧ p.ak ≤ 9223372036854775807) ∧ (-9223372036854775808 ≤ p.kd ∧ p.kd ≤ 9223372036854775807) ∧ (-9223372036854775808 ≤ p.ep ∧ p.ep ≤ 9223372036854775807) ∧ okFct p.f ∧ p.tg.length = 32
theorem o_int {t : TypeId} (h : Tryd.prog.underlying t = some (.int .i64)) : Opens Tryd.prog t (fun n : Int => [.c (.int .i64 n)]) (fun _ => 1) (fun n => IntKind.i64.min ≤ n ∧ n ≤ IntKind.i64.max) := opens_int h
theorem o_str : Opens Tryd.prog 9 (fun s : ByteArray => [.c (.string s)]) (fun s => s.size + 1) (fun s => s.size ≤ reachBytes) := opens_string (by kernel_rfl)
theorem o_boo : Opens Tryd.prog 4 (fun q : Bool => [.c (.bool q)]) (fun _ => 1) (fun _ => True) := opens_bool (by kernel_rfl)
theorem o_cst : Opens Tryd.prog 92 cstE (fun _ => 1) okCs := by
  have base := opens_struct (m := 3) Tryd.underlying92 (by kernel_rfl) (fun a _ => rfl) (opensF_c (sz := 1) o_boo (opensF_c (sz := 1) (o_int (t := 3) (by kernel_rfl)) (opensF_c (sz := 1) o_str (opensF_nil Tryd.prog 3) rfl (by kernel_rfl) (fun _ _ => rfl)) rfl (by kernel_rfl) (fun _ _ => rfl)) rfl (by kernel_rfl) (fun _ _ => rfl))
  exact base.mono (fun x => ⟨x.1, x.2.1, x.2.2.1⟩) (fun a _ => rfl) (fun a _ => by omega) (fun a h => ⟨h.2.1, h.2.2.1⟩)
theorem o_csts : Opens Tryd.prog 23 (fun l : List Cst => [.sl 3 l.length (flatE cstE l)]) (fun l => (l.map fun _ => 1).sum + 1) (fun l => l.length * 32 ≤ reachBytes ∧ ∀ c ∈ l, okCs c) :=
  opens_slice (e := 92) (by kernel_rfl) (by kernel_rfl) (by kernel_rfl) (fun a _ => rfl) o_cst
theorem o_fct : Opens Tryd.prog 25 fctE (fun _ => 1) okFct := by
  have base := opens_struct (m := 4) Tryd.underlying25 (by kernel_rfl) (fun a _ => rfl) (opensF_c (sz := 1) o_str (opensF_c (sz := 1) o_str (opensF_c (sz := 1) o_str (opensF_c (sz := 1) o_csts (opensF_nil Tryd.prog 4) rfl (by kernel_rfl) (fun _ _ => rfl)) rfl (by kernel_rfl) (fun _ _ => rfl)) rfl (by kernel_rfl) (fun _ _ => rfl)) rfl (by kernel_rfl) (fun _ _ => rfl))
  exact base.mono (fun x => ⟨x.1, x.2.1, x.2.2.1, x.2.2.2.1⟩) (fun a _ => rfl) (fun a _ => by omega) (fun a h => ⟨⟨h.1, h.2.1, h.2.2.1⟩, h.2.2.2.1⟩)
theorem okFct_f {f : Fct} (h : okFct f) : okF f ∧ szF f := by
  obtain ⟨⟨h1, h2, h3⟩, h4, h5⟩ := h
  have := hRB
  refine ⟨fun c hc => (h5 c hc).1, by omega, by omega, by omega, by omega, fun c hc => ?_⟩
  have := (h5 c hc).2
  omega
theorem o_u8 : Opens Tryd.prog 5 (fun b : UInt8 => [.c (.int .u8 (b.toNat : Int))]) (fun _ => 1) (fun _ => True) := by
  refine (opens_int (k := .u8) (by kernel_rfl)).mono (fun n => UInt8.ofNat n.toNat) (fun n hn => ?_) (fun _ _ => Nat.le_refl _) (fun _ _ => trivial)
  have e1 : IntKind.u8.min = 0 := rfl
  have e2 : IntKind.u8.max = 255 := rfl
  rw [e1, e2] at hn
  have : (UInt8.ofNat n.toNat).toNat = n.toNat := by rw [UInt8.toNat_ofNat']; omega
  rw [this]
  have : ((n.toNat : Nat) : Int) = n := by omega
  rw [this]
theorem o_dig : Opens Tryd.prog 27 bD (fun _ => 1) (fun l => l.length = 32) := by
  have base := opens_array (P := Tryd.prog) (t := 27) (e := 5) (n := 32) (sz := 1) (by kernel_rfl) (by kernel_rfl) (by kernel_rfl) (fun _ _ => rfl) o_u8
  exact base.mono (fun l => l) (fun l _ => (flat_bD l).symm) (fun _ _ => Nat.le_refl _) (fun l h => h.1)
theorem o_item : Opens Tryd.prog 29 (fun x : Int × Int × Fct × List UInt8 => itE x.1 x.2.1 x.2.2.1 x.2.2.2) (fun _ => 1) (fun x => ((-9223372036854775808 ≤ x.1 ∧ x.1 ≤ 9223372036854775807) ∧ (-9223372036854775808 ≤ x.2.1 ∧ x.2.1 ≤ 9223372036854775807)) ∧ okFct x.2.2.1 ∧ x.2.2.2.length = 32) := by
  have base := opens_struct (m := 38) Tryd.underlying29 (by kernel_rfl) (fun a h => by simp [fctE, bD, h.2.2.2.1]) (opensF_c (sz := 1) (o_int (t := 3) (by kernel_rfl)) (opensF_c (sz := 1) (o_int (t := 3) (by kernel_rfl)) (opensF_c (sz := 4) o_fct (opensF_c (sz := 32) o_dig (opensF_nil Tryd.prog 38) rfl (by kernel_rfl) (fun l h => by rw [bD_len, h])) rfl (by kernel_rfl) (fun _ _ => rfl)) rfl (by kernel_rfl) (fun _ _ => rfl)) rfl (by kernel_rfl) (fun _ _ => rfl))
  exact base.mono (fun x => (x.1, x.2.1, x.2.2.1, x.2.2.2.1)) (fun a _ => by simp [itE, fctE]) (fun a _ => by omega) (fun a h => ⟨⟨h.1, h.2.1⟩, h.2.2.1, h.2.2.2.1⟩)
theorem o_pkt : Opens Tryd.prog 33 pktE (fun _ => 1) okPk := by
  have hfr := opens_struct (m := 40) Tryd.underlying31 (by kernel_rfl) (fun a h => by simp [itE, bD, h.2.2.1.2.2]) (opensF_c (sz := 1) (o_int (t := 3) (by kernel_rfl)) (opensF_c (sz := 1) (o_int (t := 3) (by kernel_rfl)) (opensF_c (sz := 38) o_item (opensF_nil Tryd.prog 40) rfl (by kernel_rfl) (fun l h => by simp [itE, bD, h.2.2])) rfl (by kernel_rfl) (fun _ _ => rfl)) rfl (by kernel_rfl) (fun _ _ => rfl))
  have base := opens_struct (m := 42) Tryd.underlying33 (by kernel_rfl) (fun a h => by simp [itE, bD, h.2.2.1.2.2.1.2.2]) (opensF_c (sz := 1) o_str (opensF_c (sz := 1) o_str (opensF_c (sz := 40) hfr (opensF_nil Tryd.prog 42) rfl (by kernel_rfl) (fun a h => by simp [itE, bD, h.2.2.1.2.2])) rfl (by kernel_rfl) (fun _ _ => rfl)) rfl (by kernel_rfl) (fun _ _ => rfl))
  exact base.mono (fun x => ⟨x.1, x.2.1, x.2.2.1.1, x.2.2.1.2.1, x.2.2.1.2.2.1.1, x.2.2.1.2.2.1.2.1, x.2.2.1.2.2.1.2.2.1, x.2.2.1.2.2.1.2.2.2⟩) (fun a _ => by simp [pktE]) (fun a _ => by omega) (fun a h => ⟨⟨h.1, h.2.1⟩, h.2.2.1.1, h.2.2.1.2.1, h.2.2.1.2.2.1.1.1, h.2.2.1.2.2.1.1.2, h.2.2.1.2.2.1.2.1, h.2.2.1.2.2.1.2.2⟩)
theorem okPk_p {p : Pkt} (h : okPk p) : szPk p ∧ okP p := by
  obtain ⟨⟨h1, h2⟩, h3, h4, h5, h6, h7, h8⟩ := h
  have := hRB
  exact ⟨⟨by omega, by omega, (okFct_f h7).2⟩, h3, h4, h5, h6, (okFct_f h7).1, h8⟩
def wPk : Value := .agg #[.string .empty, .string .empty, .int .i64 0, .int .i64 0, .int .i64 0, .int .i64 0, .string .empty, .string .empty, .string .empty, .slice none 0 0, .int .u8 0, .int .u8 0, .int .u8 0, .int .u8 0, .int .u8 0, .int .u8 0, .int .u8 0, .int .u8 0, .int .u8 0, .int .u8 0, .int .u8 0, .int .u8 0, .int .u8 0, .int .u8 0, .int .u8 0, .int .u8 0, .int .u8 0, .int .u8 0, .int .u8 0, .int .u8 0, .int .u8 0, .int .u8 0, .int .u8 0, .int .u8 0, .int .u8 0, .int .u8 0, .int .u8 0, .int .u8 0, .int .u8 0, .int .u8 0, .int .u8 0, .int .u8 0]
def wPkD {H : Type} : DataW H := .agg [.lit (.string []), .lit (.string []), .agg [.lit (.int .i64 0), .lit (.int .i64 0), .agg [.lit (.int .i64 0), .lit (.int .i64 0), .agg [.lit (.string []), .lit (.string []), .lit (.string []), .nil], .agg [.lit (.int .u8 0), .lit (.int .u8 0), .lit (.int .u8 0), .lit (.int .u8 0), .lit (.int .u8 0), .lit (.int .u8 0), .lit (.int .u8 0), .lit (.int .u8 0), .lit (.int .u8 0), .lit (.int .u8 0), .lit (.int .u8 0), .lit (.int .u8 0), .lit (.int .u8 0), .lit (.int .u8 0), .lit (.int .u8 0), .lit (.int .u8 0), .lit (.int .u8 0), .lit (.int .u8 0), .lit (.int .u8 0), .lit (.int .u8 0), .lit (.int .u8 0), .lit (.int .u8 0), .lit (.int .u8 0), .lit (.int .u8 0), .lit (.int .u8 0), .lit (.int .u8 0), .lit (.int .u8 0), .lit (.int .u8 0), .lit (.int .u8 0), .lit (.int .u8 0), .lit (.int .u8 0), .lit (.int .u8 0)]]]]
end Go.Proofs.YtdbicadncccpoaaDoor

set_option linter.unusedVariables false
set_option linter.unusedSimpArgs false
set_option maxRecDepth 100000
namespace Go.Proofs.YtdbicadncccpoaaDoor
open Go Go.ChangeShapes Go.WideShapes
def mailS : ByteArray := ⟨#[109, 97, 105, 108]⟩
theorem mailS_size : mailS.size = 4 := rfl
theorem names_ac (n : Int) (l : List ByteArray) (bk : List Pr) (h0 : 0 < l.length) (h : l.length ≤ 140737488352) :
    AC Tryd.prog noG 42 [.ptr 2 0] (rg n l bk) (fun v r' => v = .d (.sl 1 l.length (sD l)) ∧ r' = rg n l bk) := by
  refine AC_of_R (N := 10) (res := [.tmp 2]) ty_ok Tryd.call42 Tryd.func42 rfl rfl rfl (Nat.le_of_ble_eq_true rfl) ?_
  refine rn1 (jn @rg.eq_1 @rgO.eq_1) ?_
  refine HO_callX ty_ok [0, 1, 2] (none_ac n l bk) (rg_hand _ _ _ _ _ _ _ rfl rfl rfl) (rg_wf _ _ _) ?_
  rintro v r' ⟨rfl, rfl⟩ _
  refine rn1 (jn @rg.eq_1 @rgO.eq_1) ?_
  refine HO_pureA ty_ok (clone_ac l h0 h) ?_
  exact rz0
theorem nobody_ac (n : Int) (l : List ByteArray) (bk : List Pr) (h0 : 0 < l.length) (h : l.length ≤ 140737488352) :
    AC Tryd.prog noG 24 [.ptr 2 0] (rg n l bk) (fun v r' => v = .d (.c (.bool false)) ∧ r' = rg n l bk) := by
  refine AC_of_R (N := 7) (res := [.tmp 2]) ty_ok Tryd.call24 Tryd.func24 rfl rfl rfl (Nat.le_of_ble_eq_true rfl) ?_
  have h1 : ¬ (l.length : Int) = 0 := by omega
  refine rn1 (jn @rg.eq_1 @rgO.eq_1) ?_
  refine HO_callX ty_ok [0, 1, 2] (names_ac n l bk h0 h) (rg_hand _ _ _ _ _ _ _ rfl rfl rfl) (rg_wf _ _ _) ?_
  rintro v r' ⟨rfl, rfl⟩ _
  exact rz1 (jn @rg.eq_1 (jn @rgO.eq_1 @h1))
theorem nobody_n : AC Tryd.prog noG 24 [np] [] (fun v r' => v = .d (.c (.bool true)) ∧ r' = []) := by
  refine AC.pure ?_ (by rintro v rfl; rfl)
  refine AC_of_R (N := 7) (res := [.tmp 2]) ty_ok Tryd.call24 Tryd.func24 rfl rfl rfl (Nat.le_of_ble_eq_true rfl) ?_
  refine rn1 @np.eq_1 ?_
  refine HO_pureA ty_ok names_n ?_
  exact rz0
def sealE (l : List ByteArray) (bk : List Pr) (p : Pkt) : Int := if mayB p = true then signE l bk p.fr mailS (putP p) else 2
def sealX (n : Int) (l : List ByteArray) (bk : List Pr) (p : Pkt) : List UInt8 := if mayB p = true ∧ signE l bk p.fr mailS (putP p) = 0 then putP p ++ rtag n p.fr mailS (putP p) else []
def sealB (l : List ByteArray) (bk : List Pr) (p : Pkt) : List Pr := if mayB p = true then signB l bk p.fr mailS (putP p) else bk
theorem putP_len (p : Pkt) (ho : okP p) (hm : mayB p = true) : (putP p).length ≤ 300000 := by
  have h := putX_len p ho
  rw [putX, hm, if_pos rfl] at h
  exact h
set_option maxHeartbeats 400000 in
theorem seal_ac (n : Int) (l : List ByteArray) (bk : List Pr) (p : Pkt) (h0 : 0 < l.length) (h : l.length ≤ 140737488352) (hf : p.f.l.length ≤ 140737488352000) (ho : okP p) :
    AC Tryd.prog noG 10 [.ptr 2 0, .d (.agg (pktE p))] (rg n l bk) (fun v r' => v = .tup [.d (.sl 1 (sealX n l bk p).length (bD (sealX n l bk p))), .d (.c (.int .i64 (sealE l bk p)))] ∧ r' = rg n l (sealB l bk p)) := by
  refine AC.fit ?_
  refine AC_of_R (N := 33) (res := [.tmp 4, .tmp 5]) ty_ok Tryd.call10 Tryd.func10 rfl rfl rfl (Nat.le_of_ble_eq_true rfl) ?_
  have kp := put_ac p hf ho
  have ko := put_own p hf ho
  have kl := putP_len p ho
  obtain ⟨t1, t2, t3, t4, t5, t6⟩ := tg32 p.tg ho.2.2.2.2.2
  rw [sealX, sealE, sealB]
  rw [ptV] at kp
  simp only [pktE, itE, List.cons_append, List.nil_append] at kp ko
  refine rn1 (jn @rg.eq_1 (jn @rgO.eq_1 (jn @pktE.eq_1 (jn @itE.eq_1 (jn @t1 (jn @t2 (jn @t3 (jn @t4 (jn @t5 (jn @t6 @tA_allD)))))))))) ?_
  refine HO_callX ty_ok [0, 1, 2] (nobody_ac n l bk h0 h) (rg_hand _ _ _ _ _ _ _ rfl rfl rfl) (rg_wf _ _ _) ?_
  rintro v r' ⟨rfl, rfl⟩ _
  cases hm : mayB p with
  | false =>
    have e1 : putX p = [] := by rw [putX, hm]; rfl
    have e2 : putE p = 2 := by rw [putE, hm]; rfl
    rw [e1, e2] at kp
    simp only [Bool.false_eq_true, ↓reduceIte, false_and]
    refine rn1 (jn @rg.eq_1 (jn @rgO.eq_1 (jn @t1 (jn @t2 (jn @t3 (jn @t4 (jn @t5 (jn @t6 @tA_allD)))))))) ?_
    refine HO_pureA ty_ok kp ?_
    refine rn0 ?_
    exact fv1 [0,1,2] [] (jn @rg.eq_1 @rgO.eq_1)
  | true =>
    have kq := ko hm
    have kl := kl hm
    have ks := sign_ac n l bk p.fr mailS (putP p) (by rw [mailS_size]; decide) (by omega)
    have kt : signE l bk p.fr mailS (putP p) = 0 → signT n l bk p.fr mailS (putP p) = rtag n p.fr mailS (putP p) := fun h => by rw [signT, if_pos h]
    have kn := signT_len n l bk p.fr mailS (putP p)
    rw [if_pos rfl, if_pos rfl]
    simp only [true_and]
    clear ko kp
    generalize putP p = W at *
    generalize signE l bk p.fr mailS W = e at *
    generalize signT n l bk p.fr mailS W = Z at *
    generalize signB l bk p.fr mailS W = B at *
    generalize rtag n p.fr mailS W = T at *
    obtain ⟨z1, z2, z3, z4, z5, z6⟩ := tg32 Z kn
    have hsp : splice [.d (.c (.int .u8 0)), .d (.c (.int .u8 0)), .d (.c (.int .u8 0)), .d (.c (.int .u8 0)), .d (.c (.int .u8 0)), .d (.c (.int .u8 0)), .d (.c (.int .u8 0)), .d (.c (.int .u8 0)), .d (.c (.int .u8 0)), .d (.c (.int .u8 0)), .d (.c (.int .u8 0)), .d (.c (.int .u8 0)), .d (.c (.int .u8 0)), .d (.c (.int .u8 0)), .d (.c (.int .u8 0)), .d (.c (.int .u8 0)), .d (.c (.int .u8 0)), .d (.c (.int .u8 0)), .d (.c (.int .u8 0)), .d (.c (.int .u8 0)), .d (.c (.int .u8 0)), .d (.c (.int .u8 0)), .d (.c (.int .u8 0)), .d (.c (.int .u8 0)), .d (.c (.int .u8 0)), .d (.c (.int .u8 0)), .d (.c (.int .u8 0)), .d (.c (.int .u8 0)), .d (.c (.int .u8 0)), .d (.c (.int .u8 0)), .d (.c (.int .u8 0)), .d (.c (.int .u8 0))] 0 (tA Z) = tA Z := (dig32 Z kn).2.2.2.2
    refine rn1 (jn @rg.eq_1 (jn @rgO.eq_1 (jn @t1 (jn @t2 (jn @t3 (jn @t4 (jn @t5 (jn @t6 @tA_allD)))))))) ?_
    refine HO_callX ty_ok [] kq (trivial) rfl ?_
    rintro v r' ⟨rfl, rfl⟩ _
    refine rn1 (jn @t1 (jn @t2 (jn @t3 (jn @t4 (jn @t5 (jn @t6 @tA_allD)))))) ?_
    refine HO_callX ty_ok [0, 1, 2] (ks) (rg_hand _ _ _ _ _ _ _ rfl rfl rfl) (rg_wf _ _ _) ?_
    rintro v r' ⟨rfl, rfl⟩ _
    by_cases he : e = 0
    · rw [if_pos he, ← kt he]
      refine rn1 (jn @rg.eq_1 (jn @rgO.eq_1 (jn @he (jn @z1 (jn @z2 (jn @z3 (jn @z4 (jn @z5 (jn @z6 (jn @hsp @tA_allD)))))))))) ?_
      refine ⟨⟨by decide, by decide⟩, ⟨by omega, by omega⟩, ?_⟩
      exact fv1 [0,1,2] [] (jn @rg.eq_1 @rgO.eq_1)
    · rw [if_neg he]
      refine rn1 (jn @rg.eq_1 (jn @rgO.eq_1 (jn @he (jn @z1 (jn @z2 (jn @z3 (jn @z4 (jn @z5 (jn @z6 (jn @hsp @tA_allD)))))))))) ?_
      exact fv1 [0,1,2] [] (jn @rg.eq_1 @rgO.eq_1)
def opnP (n : Int) (l : List ByteArray) (b : List UInt8) : Pkt × Int :=
  if b.length < 32 then (zP, 11)
  else if (getP (b.take (b.length - 32))).2 ≠ 0 then (zP, (getP (b.take (b.length - 32))).2)
  else if (memB (getP (b.take (b.length - 32))).1.fr l && decide (rtag n (getP (b.take (b.length - 32))).1.fr mailS (b.take (b.length - 32)) = b.drop (b.length - 32))) = true then ((getP (b.take (b.length - 32))).1, 0) else (zP, 202)
def mpRg (n : Int) (l : List ByteArray) : Rs := [some (.map (kM n l)), some (.map (bM [])), some (.obj (rgO l 0 1)), some (.obj (rqO n l [] 4)), some (.tok 0)]
theorem rings_ok (l : List ByteArray) (h : newE l = 0) :
    AC Tryd.prog noG 9 [.d (.sl 1 l.length (sD l))] [] (fun v r' => v = .tup [.ptr 2 0, .ptr 3 0] ∧ r' = mpRg 5 l) := by
  refine AC.fit ?_
  refine AC_of_R (N := 20) (res := [.tmp 2, .tmp 3]) ty_ok Tryd.call9 Tryd.func9 rfl rfl rfl (Nat.le_of_ble_eq_true rfl) ?_
  refine rn0 ?_
  refine HO_callX ty_ok [] (new_ok 5 l (by decide) (by decide) h) (trivial) rfl ?_
  rintro v r' ⟨rfl, rfl⟩ _
  refine rn1 (jn @rg.eq_1 @rgO.eq_1) ?_
  refine HO_callX ty_ok [] (rnew_ok 5 l (by decide) (by decide) h) (trivial) rfl ?_
  rintro v r' ⟨rfl, rfl⟩ _
  refine rn1 (jn @rg.eq_1 (jn @rgO.eq_1 (jn @rq.eq_1 @rqO.eq_1))) ?_
  exact fv1 [0,1,2,3,4] [] (jn @mpRg.eq_1 (jn @rgO.eq_1 (jn @rqO.eq_1 (jn @rg.eq_1 @rq.eq_1))))
theorem rings_bad (l : List ByteArray) (h : newE l ≠ 0) :
    AC Tryd.prog noG 9 [.d (.sl 1 l.length (sD l))] [] (fun v r' => v = .tup [np, np] ∧ r' = []) := by
  refine AC.fit ?_
  refine AC_of_R (N := 20) (res := [.tmp 2, .tmp 3]) ty_ok Tryd.call9 Tryd.func9 rfl rfl rfl (Nat.le_of_ble_eq_true rfl) ?_
  refine rn0 ?_
  refine HO_callX ty_ok [] (new_bad 5 l (by decide) (by decide) h) (trivial) rfl ?_
  rintro v r' ⟨rfl, rfl⟩ _
  refine rn1 @h ?_
  refine HO_callX ty_ok [] (rnew_bad 5 l h) (trivial) rfl ?_
  rintro v r' ⟨rfl, rfl⟩ _
  refine rn1 @h ?_
  exact fv1 [] [] @np.eq_1
end Go.Proofs.YtdbicadncccpoaaDoor

set_option linter.unusedVariables false
set_option linter.unusedSimpArgs false
set_option maxRecDepth 100000
namespace Go.Proofs.YtdbicadncccpoaaDoor
open Go Go.ChangeShapes Go.WideShapes
set_option maxHeartbeats 400000 in
theorem open_n (b : List UInt8) : AC Tryd.prog noG 14 [np, .d (.sl 1 b.length (bD b))] [] (fun v r' => v = gpV (zP, 1) ∧ r' = []) := by
  refine AC.fit ?_
  refine AC_of_R (N := 43) (res := [.cell 4 33, .tmp 5]) ty_ok Tryd.call14 Tryd.func14 rfl rfl rfl (Nat.le_of_ble_eq_true rfl) ?_
  have hz : ([UInt8.ofNat 0, UInt8.ofNat 0, UInt8.ofNat 0, UInt8.ofNat 0, UInt8.ofNat 0, UInt8.ofNat 0, UInt8.ofNat 0, UInt8.ofNat 0, UInt8.ofNat 0, UInt8.ofNat 0, UInt8.ofNat 0, UInt8.ofNat 0, UInt8.ofNat 0, UInt8.ofNat 0, UInt8.ofNat 0, UInt8.ofNat 0, UInt8.ofNat 0, UInt8.ofNat 0, UInt8.ofNat 0, UInt8.ofNat 0, UInt8.ofNat 0, UInt8.ofNat 0, UInt8.ofNat 0, UInt8.ofNat 0, UInt8.ofNat 0, UInt8.ofNat 0, UInt8.ofNat 0, UInt8.ofNat 0, UInt8.ofNat 0, UInt8.ofNat 0, UInt8.ofNat 0, UInt8.ofNat 0] : List UInt8) = tg0 := rfl
  obtain ⟨z1, z2, z3, z4, z5, z6⟩ := tg32 tg0 rfl
  refine rn1 (jn @np.eq_1 (jn @hz (jn @z1 (jn @z2 (jn @z3 (jn @z4 (jn @z5 (jn @z6 @tA_allD)))))))) ?_
  refine HO_pureA ty_ok nobody_n ?_
  refine rn1 (jn @hz (jn @z1 (jn @z2 (jn @z3 (jn @z4 (jn @z5 (jn @z6 @tA_allD))))))) ?_
  simp only [gpV, zP, pktE, itE, zF, flatE_nil, List.cons_append, List.nil_append, List.length_nil]
  exact fv0 [] []
theorem split32 (b : List UInt8) (h : ¬ b.length < 32) : ∃ P S : List UInt8, b = P ++ S ∧ S.length = 32 := ⟨b.take (b.length - 32), b.drop (b.length - 32), (List.take_append_drop _ _).symm, by rw [List.length_drop]; omega⟩
def opnQ (n : Int) (l : List ByteArray) (P S : List UInt8) : Pkt × Int :=
  if (getP P).2 ≠ 0 then (zP, (getP P).2) else if (memB (getP P).1.fr l && decide (rtag n (getP P).1.fr mailS P = S)) = true then ((getP P).1, 0) else (zP, 202)
theorem opnP_Q (n : Int) (l : List ByteArray) (P S : List UInt8) (h : S.length = 32) : opnP n l (P ++ S) = opnQ n l P S := by
  have e : (P ++ S).length - 32 = P.length := by rw [List.length_append]; omega
  unfold opnP opnQ
  rw [if_neg (by rw [List.length_append]; omega), e, List.take_left, List.drop_left]
set_option maxHeartbeats 400000 in
theorem open_ac (n : Int) (l : List ByteArray) (bk : List Pr) (b : List UInt8) (h0 : 0 < l.length) (h : l.length ≤ 140737488352) (hb : b.length ≤ 140737488350000) :
    AC Tryd.prog noG 14 [.ptr 2 0, .d (.sl 1 b.length (bD b))] (rg n l bk) (fun v r' => v = gpV (opnP n l b) ∧ r' = rg n l bk) := by
  refine AC.fit ?_
  refine AC_of_R (N := 43) (res := [.cell 4 33, .tmp 5]) ty_ok Tryd.call14 Tryd.func14 rfl rfl rfl (Nat.le_of_ble_eq_true rfl) ?_
  have hz : ([UInt8.ofNat 0, UInt8.ofNat 0, UInt8.ofNat 0, UInt8.ofNat 0, UInt8.ofNat 0, UInt8.ofNat 0, UInt8.ofNat 0, UInt8.ofNat 0, UInt8.ofNat 0, UInt8.ofNat 0, UInt8.ofNat 0, UInt8.ofNat 0, UInt8.ofNat 0, UInt8.ofNat 0, UInt8.ofNat 0, UInt8.ofNat 0, UInt8.ofNat 0, UInt8.ofNat 0, UInt8.ofNat 0, UInt8.ofNat 0, UInt8.ofNat 0, UInt8.ofNat 0, UInt8.ofNat 0, UInt8.ofNat 0, UInt8.ofNat 0, UInt8.ofNat 0, UInt8.ofNat 0, UInt8.ofNat 0, UInt8.ofNat 0, UInt8.ofNat 0, UInt8.ofNat 0, UInt8.ofNat 0] : List UInt8) = tg0 := rfl
  obtain ⟨z1, z2, z3, z4, z5, z6⟩ := tg32 tg0 rfl
  refine rn1 (jn @rg.eq_1 (jn @rgO.eq_1 (jn @hz (jn @z1 (jn @z2 (jn @z3 (jn @z4 (jn @z5 (jn @z6 @tA_allD))))))))) ?_
  refine HO_callX ty_ok [0, 1, 2] (nobody_ac n l bk h0 h) (rg_hand _ _ _ _ _ _ _ rfl rfl rfl) (rg_wf _ _ _) ?_
  rintro v r' ⟨rfl, rfl⟩ _
  by_cases hl : b.length < 32
  · have hi : (b.length : Int) < 32 := by omega
    rw [opnP, if_pos hl]
    refine rn1 (jn @rg.eq_1 (jn @rgO.eq_1 (jn @hi (jn @hz (jn @z1 (jn @z2 (jn @z3 (jn @z4 (jn @z5 (jn @z6 @tA_allD)))))))))) ?_
    simp only [gpV, zP, pktE, itE, zF, flatE_nil, List.cons_append, List.nil_append, List.length_nil]
    exact fv1 [0,1,2] [] (jn @rg.eq_1 @rgO.eq_1)
  obtain ⟨P, S, rfl, hS⟩ := split32 b hl
  rw [opnP_Q n l P S hS, opnQ]
  have hbl : (P ++ S).length = P.length + 32 := by rw [List.length_append, hS]
  rw [hbl] at hb ⊢
  have hi : ¬ (((P.length + 32 : Nat) : Int) < 32) := by omega
  have e0 : ((P.length + 32 : Nat) : Int) - 32 = P.length := by omega
  have e3 : P.length + 32 - P.length = S.length := by omega
  have d1 : (bD (P ++ S)).take P.length = bD P := by rw [bD_take, List.take_left]
  have d2 : (bD (P ++ S)).drop P.length = bD S := by rw [bD_drop, List.drop_left]
  have kg := get_ac P (by omega)
  obtain ⟨g1, g2, g3, g4⟩ := getP_small P
  rw [gpV] at kg
  generalize getP P = gp at *
  obtain ⟨q, ge⟩ := gp
  simp only at g1 g2 g3 g4 kg
  obtain ⟨u1, u2, u3, u4, u5, u6⟩ := tg32 q.tg g2.2.2.2.2.2
  have kv := verify_ac n l bk q.fr mailS P S (by rw [mailS_size]; omega) (by omega)
  generalize (memB q.fr l && decide (rtag n q.fr mailS P = S)) = w at *
  simp only [pktE, itE, List.cons_append, List.nil_append] at kg
  refine rn1 (jn @rg.eq_1 (jn @rgO.eq_1 (jn @hi (jn @e0 (jn @d1 @d2))))) ?_
  (repeat (refine And.intro (by omega) ?_))
  refine HO_pureA ty_ok kg ?_
  by_cases he : ge = 0
  · rw [if_neg (by simpa using he)]
    refine rn1 (jn @he (jn @u1 (jn @u2 (jn @u3 (jn @u4 (jn @u5 (jn @u6 @tA_allD))))))) ?_
    refine HC_plan [] ty_ok mix (by kernel_rfl) ?_
    refine rn1 (jn @rg.eq_1 (jn @rgO.eq_1 (jn @e0 (jn @e3 (jn @d1 (jn @d2 (jn @u1 (jn @u2 (jn @u3 (jn @u4 (jn @u5 (jn @u6 @tA_allD)))))))))))) ?_
    (repeat (refine And.intro (by omega) ?_))
    refine HO_callX ty_ok [0, 1, 2] (kv) (rg_hand _ _ _ _ _ _ _ rfl rfl rfl) (rg_wf _ _ _) ?_
    rintro v r' ⟨rfl, rfl⟩ _
    cases w with
    | true =>
      refine rn1 (jn @rg.eq_1 (jn @rgO.eq_1 (jn @u1 (jn @u2 (jn @u3 (jn @u4 (jn @u5 (jn @u6 @tA_allD)))))))) ?_
      simp only [gpV, pktE, itE, List.cons_append, List.nil_append]
      exact fv1 [0,1,2] [] (jn @rg.eq_1 @rgO.eq_1)
    | false =>
      refine rn1 (jn @rg.eq_1 (jn @rgO.eq_1 (jn @hz (jn @z1 (jn @z2 (jn @z3 (jn @z4 (jn @z5 (jn @z6 (jn @u1 (jn @u2 (jn @u3 (jn @u4 (jn @u5 (jn @u6 @tA_allD))))))))))))))) ?_
      simp only [gpV, zP, pktE, itE, zF, flatE_nil, List.cons_append, List.nil_append, List.length_nil]
      exact fv1 [0,1,2] [] (jn @rg.eq_1 @rgO.eq_1)
  · rw [if_pos he]
    refine rn1 (jn @he (jn @hz (jn @z1 (jn @z2 (jn @z3 (jn @z4 (jn @z5 (jn @z6 (jn @u1 (jn @u2 (jn @u3 (jn @u4 (jn @u5 (jn @u6 @tA_allD)))))))))))))) ?_
    simp only [gpV, zP, pktE, itE, zF, flatE_nil, List.cons_append, List.nil_append, List.length_nil]
    exact fv1 [0,1,2] [] (jn @rg.eq_1 @rgO.eq_1)
set_option maxHeartbeats 400000 in
theorem ropen_ac (n : Int) (l : List ByteArray) (bk : List Pr) (b : List UInt8) (h0 : -9223372036854775808 ≤ n) (h1 : n ≤ 9223372036854775807) (hl6 : l.length ≤ 1000) (hb : b.length ≤ 140737488350000) :
    AC Tryd.prog noG 16 [.ptr 0 0, .d (.sl 1 b.length (bD b))] (rq n l bk) (fun v r' => v = gpV (opnP n l b) ∧ r' = rq n l bk) := by
  refine AC.fit ?_
  refine AC_of_R (N := 42) (res := [.cell 4 33, .tmp 5]) ty_ok Tryd.call16 Tryd.func16 rfl rfl rfl (Nat.le_of_ble_eq_true rfl) ?_
  have hz : ([UInt8.ofNat 0, UInt8.ofNat 0, UInt8.ofNat 0, UInt8.ofNat 0, UInt8.ofNat 0, UInt8.ofNat 0, UInt8.ofNat 0, UInt8.ofNat 0, UInt8.ofNat 0, UInt8.ofNat 0, UInt8.ofNat 0, UInt8.ofNat 0, UInt8.ofNat 0, UInt8.ofNat 0, UInt8.ofNat 0, UInt8.ofNat 0, UInt8.ofNat 0, UInt8.ofNat 0, UInt8.ofNat 0, UInt8.ofNat 0, UInt8.ofNat 0, UInt8.ofNat 0, UInt8.ofNat 0, UInt8.ofNat 0, UInt8.ofNat 0, UInt8.ofNat 0, UInt8.ofNat 0, UInt8.ofNat 0, UInt8.ofNat 0, UInt8.ofNat 0, UInt8.ofNat 0, UInt8.ofNat 0] : List UInt8) = tg0 := rfl
  obtain ⟨z1, z2, z3, z4, z5, z6⟩ := tg32 tg0 rfl
  by_cases hl : b.length < 32
  · have hi : (b.length : Int) < 32 := by omega
    rw [opnP, if_pos hl]
    refine rn1 (jn @rq.eq_1 (jn @rqO.eq_1 (jn @hi (jn @hz (jn @z1 (jn @z2 (jn @z3 (jn @z4 (jn @z5 (jn @z6 @tA_allD)))))))))) ?_
    simp only [gpV, zP, pktE, itE, zF, flatE_nil, List.cons_append, List.nil_append, List.length_nil]
    exact fv1 [0,1] [] (jn @rq.eq_1 @rqO.eq_1)
  obtain ⟨P, S, rfl, hS⟩ := split32 b hl
  rw [opnP_Q n l P S hS, opnQ]
  have hbl : (P ++ S).length = P.length + 32 := by rw [List.length_append, hS]
  rw [hbl] at hb ⊢
  have hi : ¬ (((P.length + 32 : Nat) : Int) < 32) := by omega
  have e0 : ((P.length + 32 : Nat) : Int) - 32 = P.length := by omega
  have e3 : P.length + 32 - P.length = S.length := by omega
  have d1 : (bD (P ++ S)).take P.length = bD P := by rw [bD_take, List.take_left]
  have d2 : (bD (P ++ S)).drop P.length = bD S := by rw [bD_drop, List.drop_left]
  have kg := rget_ac P (by omega)
  obtain ⟨g1, g2, g3, g4⟩ := getP_small P
  rw [gpV] at kg
  generalize getP P = gp at *
  obtain ⟨q, ge⟩ := gp
  simp only at g1 g2 g3 g4 kg
  obtain ⟨u1, u2, u3, u4, u5, u6⟩ := tg32 q.tg g2.2.2.2.2.2
  have kv := rverify_ac n l bk q.fr mailS P S h0 h1 hl6 (by omega) (by rw [mailS_size]; omega) (by omega)
  generalize (memB q.fr l && decide (rtag n q.fr mailS P = S)) = w at *
  simp only [pktE, itE, List.cons_append, List.nil_append] at kg
  refine rn1 (jn @rq.eq_1 (jn @rqO.eq_1 (jn @hi (jn @hz (jn @z1 (jn @z2 (jn @z3 (jn @z4 (jn @z5 (jn @z6 (jn @tA_allD (jn @e0 (jn @d1 @d2))))))))))))) ?_
  (repeat (refine And.intro (by omega) ?_))
  refine HO_pureA ty_ok kg ?_
  by_cases he : ge = 0
  · rw [if_neg (by simpa using he)]
    refine rn1 (jn @he (jn @u1 (jn @u2 (jn @u3 (jn @u4 (jn @u5 (jn @u6 @tA_allD))))))) ?_
    refine HC_plan [] ty_ok mix (by kernel_rfl) ?_
    refine rn1 (jn @rq.eq_1 (jn @rqO.eq_1 (jn @e0 (jn @e3 (jn @d1 (jn @d2 (jn @u1 (jn @u2 (jn @u3 (jn @u4 (jn @u5 (jn @u6 @tA_allD)))))))))))) ?_
    (repeat (refine And.intro (by omega) ?_))
    refine HO_callX ty_ok [0, 1] (kv) (rq_hand _ _ _ _ _ _ rfl rfl) (rq_wf _ _ _) ?_
    rintro v r' ⟨rfl, rfl⟩ _
    cases w with
    | true =>
      refine rn1 (jn @rq.eq_1 (jn @rqO.eq_1 (jn @u1 (jn @u2 (jn @u3 (jn @u4 (jn @u5 (jn @u6 @tA_allD)))))))) ?_
      simp only [gpV, pktE, itE, List.cons_append, List.nil_append]
      exact fv1 [0,1] [] (jn @rq.eq_1 @rqO.eq_1)
    | false =>
      refine rn1 (jn @rq.eq_1 (jn @rqO.eq_1 (jn @hz (jn @z1 (jn @z2 (jn @z3 (jn @z4 (jn @z5 (jn @z6 (jn @u1 (jn @u2 (jn @u3 (jn @u4 (jn @u5 (jn @u6 @tA_allD))))))))))))))) ?_
      simp only [gpV, zP, pktE, itE, zF, flatE_nil, List.cons_append, List.nil_append, List.length_nil]
      exact fv1 [0,1] [] (jn @rq.eq_1 @rqO.eq_1)
  · rw [if_pos he]
    refine rn1 (jn @he (jn @hz (jn @z1 (jn @z2 (jn @z3 (jn @z4 (jn @z5 (jn @z6 (jn @u1 (jn @u2 (jn @u3 (jn @u4 (jn @u5 (jn @u6 @tA_allD)))))))))))))) ?_
    simp only [gpV, zP, pktE, itE, zF, flatE_nil, List.cons_append, List.nil_append, List.length_nil]
    exact fv1 [0,1] [] (jn @rq.eq_1 @rqO.eq_1)
end Go.Proofs.YtdbicadncccpoaaDoor
