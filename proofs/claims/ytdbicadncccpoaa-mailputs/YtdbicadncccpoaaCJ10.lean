/- Parts of the proof: MailPuts, OpenS, OpenA, OpenM. -/
import Derived.Test.YtdbicadncccpoaaCJ9
import Derived.Test.YtdbicadncccpoaaCJ8
import Derived.Test.YtdbicadncccpoaaCJ0
set_option linter.unusedVariables false
set_option linter.unusedSimpArgs false
set_option maxRecDepth 100000
namespace Go.Proofs.Ytdbicadncccpoaa
open Go Go.ChangeShapes Go.WideShapes
theorem getK_small {b : List UInt8} {s1 s2 : ByteArray} {n1 n2 n3 k nx : Int} {p : Pkt} (h : getC.getK b s1 s2 n1 n2 n3 k = some (p, nx)) : p.f.l.length ≤ 48 := by
  unfold getC.getK at h
  split at h
  · simp only [Option.some.injEq, Prod.mk.injEq] at h
    obtain ⟨rfl, rfl⟩ := h
    simp [zF]
  · split at h
    · split at h
      · split at h
        · simp only [Option.some.injEq, Prod.mk.injEq] at h
          obtain ⟨rfl, rfl⟩ := h
          exact rdF_len
        · simp at h
      · simp only [Option.some.injEq, Prod.mk.injEq] at h
        obtain ⟨rfl, rfl⟩ := h
        simp [zF]
    · simp at h
theorem getP_small (b : List UInt8) : (getP b).1.f.l.length ≤ 48 ∧ okP (getP b).1 ∧ (getP b).1.fr.size ≤ 65536 ∧ (getP b).1.to.size ≤ 65536 := by
  have hz : (zP.f.l.length ≤ 48 ∧ okP zP ∧ zP.fr.size ≤ 65536 ∧ zP.to.size ≤ 65536) := ⟨by decide, ⟨by decide, by decide, by decide, by decide, by simp [zP, zF, okF], rfl⟩, by decide, by decide⟩
  unfold getP
  rcases hg : getC b with _ | ⟨p, k⟩
  · exact hz
  · simp only
    split
    · obtain ⟨h1, h2, h3, _⟩ := getC_at hg
      unfold getC at hg
      split at hg
      · exact ⟨getK_small hg, h1, h2, h3⟩
      · simp at hg
    · exact hz
def szPk (p : Pkt) : Prop := p.fr.size ≤ 140737488352000 ∧ p.to.size ≤ 140737488352000 ∧ szF p.f
set_option maxHeartbeats 400000 in
theorem mailPuts_ac (p : Pkt) (b : List UInt8) (hs : szPk p) (ho : okP p) (hb : b.length ≤ 140737488355000) :
    AC Try.prog noG 3 [.d (.agg (pktE p)), .d (.sl 1 b.length (bD b))] [] (fun v r' => v = .d (.c (.bool true)) ∧ r' = []) := by
  refine AC.pure ?_ (by rintro v rfl; rfl)
  refine AC_of_R (N := 71) (res := [.tmp 4]) ty_ok Try.call3 Try.func3 rfl rfl rfl (Nat.le_of_ble_eq_true rfl) ?_
  have hf : p.f.l.length ≤ 140737488352000 := hs.2.2.2.2.2.1
  have hw := wP_ac p hs.1 hs.2.1 hs.2.2 ho.2.2.2.2.2
  have kp := put_ac p hf ho
  have kq := rput_ac p hf ho
  have pl := putX_len p ho
  have sm := same_ac (putX p) (putX p) (by omega) (by omega)
  rw [decide_eq_true rfl] at sm
  have kg := get_ac b hb
  have kr := rget_ac b hb
  obtain ⟨g1, g2, g3, g4⟩ := getP_small b
  rw [ptV] at kp kq
  rw [gpV] at kg kr
  generalize getP b = gp at *
  obtain ⟨q, ge⟩ := gp
  simp only at g1 g2 kg kr
  have ks := rps_ac q q (by omega) (by omega) g2.2.2.2.2.2 g2.2.2.2.2.2
  rw [decide_eq_true rfl] at ks
  generalize putX p = X at *
  generalize putE p = xe at *
  obtain ⟨t1, t2, t3, t4, t5, t6⟩ := tg32 p.tg ho.2.2.2.2.2
  obtain ⟨u1, u2, u3, u4, u5, u6⟩ := tg32 q.tg g2.2.2.2.2.2
  simp only [pktE, itE, List.cons_append, List.nil_append] at hw kp kq kg kr ks
  refine rn1 (jn @pktE.eq_1 (jn @itE.eq_1 (jn @t1 (jn @t2 (jn @t3 (jn @t4 (jn @t5 (jn @t6 @tA_allD)))))))) ?_
  refine HO_callX ty_ok [] hw (trivial) rfl ?_
  rintro v r' ⟨⟨n, rfl⟩, rfl⟩ _
  by_cases hn : n > 200
  · refine rn1 @hn ?_
    refine HO_pureA ty_ok mlive_ac ?_
    exact rz0
  by_cases hb5 : b.length ≤ 5000
  · have g5 : ¬ (b.length : Int) > 5000 := by omega
    refine rn1 (jn @hn @g5) ?_
    refine HO_pureA ty_ok (lent_ac b (by omega)) ?_
    refine rn1 (jn @t1 (jn @t2 (jn @t3 (jn @t4 (jn @t5 (jn @t6 @tA_allD)))))) ?_
    refine HO_pureA ty_ok kp ?_
    refine rn1 (jn @t1 (jn @t2 (jn @t3 (jn @t4 (jn @t5 (jn @t6 @tA_allD)))))) ?_
    refine HO_pureA ty_ok kq ?_
    refine rn0 ?_
    refine HO_pureA ty_ok kg ?_
    refine rn1 (jn @u1 (jn @u2 (jn @u3 (jn @u4 (jn @u5 (jn @u6 @tA_allD)))))) ?_
    refine HO_pureA ty_ok kr ?_
    refine rn1 (jn @u1 (jn @u2 (jn @u3 (jn @u4 (jn @u5 (jn @u6 @tA_allD)))))) ?_
    refine HO_pureA ty_ok sm ?_
    refine rn1 (jn @u1 (jn @u2 (jn @u3 (jn @u4 (jn @u5 (jn @u6 @tA_allD)))))) ?_
    refine HO_pureA ty_ok ks ?_
    refine rn0 ?_
    refine HO_pureA ty_ok (kept_ac b (by omega)) ?_
    refine rn0 ?_
    refine HO_pureA ty_ok mlive_ac ?_
    exact rz0
  · have g5 : (b.length : Int) > 5000 := by omega
    refine rn1 (jn @hn @g5) ?_
    refine HO_pureA ty_ok mlive_ac ?_
    exact rz0
end Go.Proofs.Ytdbicadncccpoaa

set_option linter.unusedVariables false
set_option linter.unusedSimpArgs false
set_option maxRecDepth 100000
namespace Go.Proofs.Ytdbicadncccpoaa
open Go Go.ChangeShapes Go.WideShapes
def OpensF (P : Program) (fs : List Field) (off : Nat) {α : Type} (en : α → List D) (ms : α → Nat) (ok : α → Prop) : Prop :=
  ∀ (H : Type) (enc : TypeId × Value → H) (W : World) (n : Nat) (cs : List Value) (ys : List (DataW H × List MemPlace)), ys.length = fs.length →
    (∀ (i : Nat) f, fs[i]? = some f → ∃ y, ys[i]? = some y ∧ DataW.trod enc P W 0 (fun _ => true) true n f.type ((cs.drop f.offset).take (P.cellsOf f.type)) = some y) →
    (∀ k ∈ DataW.weightsEach P (fs.map (·.type)) (ys.map (·.1)), k ≤ reachBytes) →
    ∃ a, ok a ∧ RL (oldT W) W (en a) ((cs.drop off).take (en a).length) ∧ ms a ≤ bkAll (ys.map (·.1))
theorem opensF_nil (P : Program) (off : Nat) : OpensF P [] off (fun _ : Unit => []) (fun _ => 0) (fun _ => True) := by
  intro H enc W n cs ys hl _ _
  refine ⟨(), trivial, by simp [RL], Nat.zero_le _⟩
theorem opensF_cons {P : Program} {f : Field} {fs : List Field} {off sz : Nat} {α β : Type} {en1 : α → List D} {ms1 : α → Nat} {ok1 : α → Prop} {en2 : β → List D} {ms2 : β → Nat} {ok2 : β → Prop} (hoff : f.offset = off) (hsz : P.cellsOf f.type = sz)
    (hen : ∀ a, ok1 a → (en1 a).length = sz) (h1 : Opens P f.type en1 ms1 ok1) (h2 : OpensF P fs (off + sz) en2 ms2 ok2) :
    OpensF P (f :: fs) off (fun a : α × β => en1 a.1 ++ en2 a.2) (fun a => ms1 a.1 + ms2 a.2) (fun a => ok1 a.1 ∧ ok2 a.2) := by
  intro H enc W n cs ys hl hall hw
  match ys, hl with
  | y :: ys, hl =>
    obtain ⟨y', hy, ht⟩ := hall 0 f rfl
    have hy' : y = y' := by simpa using hy
    subst hy'
    simp only [List.map_cons, DataW.weightsEach, List.mem_append] at hw
    obtain ⟨a, o1, r1, b1⟩ := h1 H enc W n _ y ht (fun k hk => hw k (.inl hk))
    obtain ⟨b, o2, r2, b2⟩ := h2 H enc W n cs ys (by simpa using hl) (fun i g hg => by simpa using hall (i + 1) g (by simpa using hg)) (fun k hk => hw k (.inr hk))
    refine ⟨(a, b), ⟨o1, o2⟩, ?_, by simp only [List.map_cons, bkAll]; omega⟩
    simp only [List.length_append]
    rw [List.take_add, hen a o1, List.drop_drop]
    rw [hoff, hsz] at r1
    exact RL_append _ _ _ _ r1 r2
theorem opens_struct {P : Program} {t : TypeId} {fs : Array Field} {m : Nat} {α : Type} {en : α → List D} {ms : α → Nat} {ok : α → Prop} (ht : P.underlying t = some (.struct fs)) (hm : P.cellsOf t = m) (hen : ∀ a, ok a → (en a).length = m)
    (h : OpensF P fs.toList 0 en ms ok) : Opens P t en (fun a => ms a + 1) ok := by
  intro H enc W fuel cs x hx hw
  obtain ⟨xs, n, _, rfl, hl, hlen, hf⟩ := DataW.trod_struct ht hx
  obtain ⟨a, h1, h2, h3⟩ := h H enc W n cs xs (by simpa using hlen) (fun i f hf' => by
    have h1 := hf i f (by simpa using hf')
    have hi : i < xs.length := by
      have := (List.getElem?_eq_some_iff.1 hf').1
      simp at this; omega
    exact ⟨xs[i], List.getElem?_eq_getElem hi, by rw [h1, List.getElem?_eq_getElem hi]⟩) (fun k hk => hw k (by simpa [DataW.weights, ht] using hk))
  refine ⟨a, h1, ?_, by simp only [bk]; omega⟩
  rw [List.drop_zero, hen a h1, List.take_of_length_le (by omega)] at h2
  exact h2
theorem opensF_c {P : Program} {f : Field} {fs : List Field} {off sz : Nat} {α β : Type} {en1 : α → List D} {ms1 : α → Nat} {ok1 : α → Prop} {en2 : β → List D} {ms2 : β → Nat} {ok2 : β → Prop} (h1 : Opens P f.type en1 ms1 ok1) (h2 : OpensF P fs (off + sz) en2 ms2 ok2) (hoff : f.offset = off) (hsz : P.cellsOf f.type = sz)
    (hen : ∀ a, ok1 a → (en1 a).length = sz) : OpensF P (f :: fs) off (fun a : α × β => en1 a.1 ++ en2 a.2) (fun a => ms1 a.1 + ms2 a.2) (fun a => ok1 a.1 ∧ ok2 a.2) := opensF_cons hoff hsz hen h1 h2
end Go.Proofs.Ytdbicadncccpoaa

set_option linter.unusedVariables false
set_option linter.unusedSimpArgs false
set_option maxRecDepth 100000
namespace Go.Proofs.Ytdbicadncccpoaa
open Go Go.ChangeShapes Go.WideShapes
theorem opens_array {P : Program} {t e : TypeId} {α : Type} {en : α → List D} {ms : α → Nat} {ok : α → Prop} {n sz : Nat} (ht : P.underlying t = some (.array n e)) (hsz : P.cellsOf e = sz) (hct : P.cellsOf t = n * sz) (hen : ∀ a, ok a → (en a).length = sz) (h : Opens P e en ms ok) :
    Opens P t (fun l : List α => l.flatMap en) (fun _ => 1) (fun l => l.length = n ∧ ∀ a ∈ l, ok a) := by
  intro H enc W fuel cs x hx hw
  obtain ⟨xs, m, _, rfl, hl, hlen, hf⟩ := DataW.trod_array ht hx
  have hlist : ∀ k, k ≤ n → ∃ l : List α, l.length = k ∧ (∀ a ∈ l, ok a) ∧ RL (oldT W) W (l.flatMap en) (cs.take (k * sz)) := by
    intro k
    induction k with
    | zero => exact fun _ => ⟨[], rfl, fun a ha => by simp at ha, by simp [RL]⟩
    | succ k ih =>
      intro hk
      obtain ⟨l, hl1, hok, hr⟩ := ih (by omega)
      have hi : k < xs.length := by omega
      have h1 := hf k (by omega)
      rw [List.getElem?_eq_getElem hi, hsz] at h1
      have hm : xs[k].1 ∈ xs.map (·.1) := List.mem_map.2 ⟨xs[k], List.getElem_mem hi, rfl⟩
      obtain ⟨a, o1, r1, _⟩ := h H enc W m _ xs[k] h1 (fun q hq => hw q (by
        simp only [DataW.weights, ht]
        exact weightsAll_mem hm q hq))
      refine ⟨l ++ [a], by simp [hl1], ?_, ?_⟩
      · intro y hy
        simp only [List.mem_append, List.mem_cons, List.not_mem_nil, or_false] at hy
        rcases hy with hy | rfl
        · exact hok y hy
        · exact o1
      · rw [List.flatMap_append, List.flatMap_cons, List.flatMap_nil, List.append_nil, Nat.succ_mul, List.take_add]
        exact RL_append _ _ _ _ hr r1
  obtain ⟨l, h1, h2, h3⟩ := hlist n (Nat.le_refl _)
  refine ⟨l, ⟨h1, h2⟩, ?_, by simp only [bk]; omega⟩
  rw [List.take_of_length_le (by omega)] at h3
  exact h3
end Go.Proofs.Ytdbicadncccpoaa

set_option linter.unusedVariables false
set_option linter.unusedSimpArgs false
set_option maxRecDepth 100000
namespace Go.Proofs.Ytdbicadncccpoaa
open Go Go.ChangeShapes Go.WideShapes
theorem hRB : reachBytes = 140737488351232 := rfl
def okCs (c : Cst) : Prop := okC c ∧ c.s.size ≤ reachBytes
def okFct (f : Fct) : Prop := (f.a.size ≤ reachBytes ∧ f.b.size ≤ reachBytes ∧ f.p.size ≤ reachBytes) ∧ f.l.length * 32 ≤ reachBytes ∧ ∀ c ∈ f.l, okCs c
def okPk (p : Pkt) : Prop := (p.fr.size ≤ reachBytes ∧ p.to.size ≤ reachBytes) ∧ (-9223372036854775808 ≤ p.sq ∧ p.sq ≤ 9223372036854775807) ∧ (-9223372036854775808 ≤ p.ak ∧ p.ak ≤ 9223372036854775807) ∧ (-9223372036854775808 ≤ p.kd ∧ p.kd ≤ 9223372036854775807) ∧ (-9223372036854775808 ≤ p.ep ∧ p.ep ≤ 9223372036854775807) ∧ okFct p.f ∧ p.tg.length = 32
theorem o_int {t : TypeId} (h : Try.prog.underlying t = some (.int .i64)) : Opens Try.prog t (fun n : Int => [.c (.int .i64 n)]) (fun _ => 1) (fun n => IntKind.i64.min ≤ n ∧ n ≤ IntKind.i64.max) := opens_int h
theorem o_str : Opens Try.prog 9 (fun s : ByteArray => [.c (.string s)]) (fun s => s.size + 1) (fun s => s.size ≤ reachBytes) := opens_string (by kernel_rfl)
theorem o_boo : Opens Try.prog 4 (fun q : Bool => [.c (.bool q)]) (fun _ => 1) (fun _ => True) := opens_bool (by kernel_rfl)
theorem o_cst : Opens Try.prog 120 cstE (fun _ => 1) okCs := by
  have base := opens_struct (m := 3) Try.underlying120 (by kernel_rfl) (fun a _ => rfl) (opensF_c (sz := 1) o_boo (opensF_c (sz := 1) (o_int (t := 3) (by kernel_rfl)) (opensF_c (sz := 1) o_str (opensF_nil Try.prog 3) rfl (by kernel_rfl) (fun _ _ => rfl)) rfl (by kernel_rfl) (fun _ _ => rfl)) rfl (by kernel_rfl) (fun _ _ => rfl))
  exact base.mono (fun x => ⟨x.1, x.2.1, x.2.2.1⟩) (fun a _ => rfl) (fun a _ => by omega) (fun a h => ⟨h.2.1, h.2.2.1⟩)
theorem o_csts : Opens Try.prog 22 (fun l : List Cst => [.sl 3 l.length (flatE cstE l)]) (fun l => (l.map fun _ => 1).sum + 1) (fun l => l.length * 32 ≤ reachBytes ∧ ∀ c ∈ l, okCs c) :=
  opens_slice (e := 120) (by kernel_rfl) (by kernel_rfl) (by kernel_rfl) (fun a _ => rfl) o_cst
theorem o_fct : Opens Try.prog 24 fctE (fun _ => 1) okFct := by
  have base := opens_struct (m := 4) Try.underlying24 (by kernel_rfl) (fun a _ => rfl) (opensF_c (sz := 1) o_str (opensF_c (sz := 1) o_str (opensF_c (sz := 1) o_str (opensF_c (sz := 1) o_csts (opensF_nil Try.prog 4) rfl (by kernel_rfl) (fun _ _ => rfl)) rfl (by kernel_rfl) (fun _ _ => rfl)) rfl (by kernel_rfl) (fun _ _ => rfl)) rfl (by kernel_rfl) (fun _ _ => rfl))
  exact base.mono (fun x => ⟨x.1, x.2.1, x.2.2.1, x.2.2.2.1⟩) (fun a _ => rfl) (fun a _ => by omega) (fun a h => ⟨⟨h.1, h.2.1, h.2.2.1⟩, h.2.2.2.1⟩)
theorem okFct_f {f : Fct} (h : okFct f) : okF f ∧ szF f := by
  obtain ⟨⟨h1, h2, h3⟩, h4, h5⟩ := h
  have := hRB
  refine ⟨fun c hc => (h5 c hc).1, by omega, by omega, by omega, by omega, fun c hc => ?_⟩
  have := (h5 c hc).2
  omega
theorem o_u8 : Opens Try.prog 5 (fun b : UInt8 => [.c (.int .u8 (b.toNat : Int))]) (fun _ => 1) (fun _ => True) := by
  refine (opens_int (k := .u8) (by kernel_rfl)).mono (fun n => UInt8.ofNat n.toNat) (fun n hn => ?_) (fun _ _ => Nat.le_refl _) (fun _ _ => trivial)
  have e1 : IntKind.u8.min = 0 := rfl
  have e2 : IntKind.u8.max = 255 := rfl
  rw [e1, e2] at hn
  have : (UInt8.ofNat n.toNat).toNat = n.toNat := by rw [UInt8.toNat_ofNat']; omega
  rw [this]
  have : ((n.toNat : Nat) : Int) = n := by omega
  rw [this]
theorem o_dig : Opens Try.prog 26 bD (fun _ => 1) (fun l => l.length = 32) := by
  have base := opens_array (P := Try.prog) (t := 26) (e := 5) (n := 32) (sz := 1) (by kernel_rfl) (by kernel_rfl) (by kernel_rfl) (fun _ _ => rfl) o_u8
  exact base.mono (fun l => l) (fun l _ => (flat_bD l).symm) (fun _ _ => Nat.le_refl _) (fun l h => h.1)
theorem o_item : Opens Try.prog 28 (fun x : Int × Int × Fct × List UInt8 => itE x.1 x.2.1 x.2.2.1 x.2.2.2) (fun _ => 1) (fun x => ((-9223372036854775808 ≤ x.1 ∧ x.1 ≤ 9223372036854775807) ∧ (-9223372036854775808 ≤ x.2.1 ∧ x.2.1 ≤ 9223372036854775807)) ∧ okFct x.2.2.1 ∧ x.2.2.2.length = 32) := by
  have base := opens_struct (m := 38) Try.underlying28 (by kernel_rfl) (fun a h => by simp [fctE, bD, h.2.2.2.1]) (opensF_c (sz := 1) (o_int (t := 3) (by kernel_rfl)) (opensF_c (sz := 1) (o_int (t := 3) (by kernel_rfl)) (opensF_c (sz := 4) o_fct (opensF_c (sz := 32) o_dig (opensF_nil Try.prog 38) rfl (by kernel_rfl) (fun l h => by rw [bD_len, h])) rfl (by kernel_rfl) (fun _ _ => rfl)) rfl (by kernel_rfl) (fun _ _ => rfl)) rfl (by kernel_rfl) (fun _ _ => rfl))
  exact base.mono (fun x => (x.1, x.2.1, x.2.2.1, x.2.2.2.1)) (fun a _ => by simp [itE, fctE]) (fun a _ => by omega) (fun a h => ⟨⟨h.1, h.2.1⟩, h.2.2.1, h.2.2.2.1⟩)
theorem o_pkt : Opens Try.prog 32 pktE (fun _ => 1) okPk := by
  have hfr := opens_struct (m := 40) Try.underlying30 (by kernel_rfl) (fun a h => by simp [itE, bD, h.2.2.1.2.2]) (opensF_c (sz := 1) (o_int (t := 3) (by kernel_rfl)) (opensF_c (sz := 1) (o_int (t := 3) (by kernel_rfl)) (opensF_c (sz := 38) o_item (opensF_nil Try.prog 40) rfl (by kernel_rfl) (fun l h => by simp [itE, bD, h.2.2])) rfl (by kernel_rfl) (fun _ _ => rfl)) rfl (by kernel_rfl) (fun _ _ => rfl))
  have base := opens_struct (m := 42) Try.underlying32 (by kernel_rfl) (fun a h => by simp [itE, bD, h.2.2.1.2.2.1.2.2]) (opensF_c (sz := 1) o_str (opensF_c (sz := 1) o_str (opensF_c (sz := 40) hfr (opensF_nil Try.prog 42) rfl (by kernel_rfl) (fun a h => by simp [itE, bD, h.2.2.1.2.2])) rfl (by kernel_rfl) (fun _ _ => rfl)) rfl (by kernel_rfl) (fun _ _ => rfl))
  exact base.mono (fun x => ⟨x.1, x.2.1, x.2.2.1.1, x.2.2.1.2.1, x.2.2.1.2.2.1.1, x.2.2.1.2.2.1.2.1, x.2.2.1.2.2.1.2.2.1, x.2.2.1.2.2.1.2.2.2⟩) (fun a _ => by simp [pktE]) (fun a _ => by omega) (fun a h => ⟨⟨h.1, h.2.1⟩, h.2.2.1.1, h.2.2.1.2.1, h.2.2.1.2.2.1.1.1, h.2.2.1.2.2.1.1.2, h.2.2.1.2.2.1.2.1, h.2.2.1.2.2.1.2.2⟩)
theorem okPk_p {p : Pkt} (h : okPk p) : szPk p ∧ okP p := by
  obtain ⟨⟨h1, h2⟩, h3, h4, h5, h6, h7, h8⟩ := h
  have := hRB
  exact ⟨⟨by omega, by omega, (okFct_f h7).2⟩, h3, h4, h5, h6, (okFct_f h7).1, h8⟩
end Go.Proofs.Ytdbicadncccpoaa
