import Derived.Test.YtfeoafddagdbfaaCSim
import Derived.Test.YtfeoafddagdbfaaCPutF
import Derived.Test.YtfeoafddagdbfaaCEncM
set_option linter.unusedVariables false
set_option linter.unusedSimpArgs false
set_option maxRecDepth 100000
namespace Go.Proofs.Ytfeoafddagdbfaa
open Go Go.ChangeShapes Go.WideShapes
/-- These bytes lie at this place, and end at that one. -/
def At (b : List UInt8) (k : Int) (x : List UInt8) (nx : Int) : Prop := ∃ kn : Nat, k = kn ∧ nx = ((kn + x.length : Nat) : Int) ∧ kn + x.length ≤ b.length ∧ (b.drop kn).take x.length = x
theorem At.parts {b : List UInt8} {k nx : Int} {x : List UInt8} (h : At b k x nx) : ∃ p r : List UInt8, b = p ++ x ++ r ∧ k = p.length ∧ nx = ((p ++ x).length : Nat) := by
  obtain ⟨kn, h1, h2, h3, h4⟩ := h
  refine ⟨b.take kn, b.drop (kn + x.length), ?_, ?_, ?_⟩
  · have h5 : b = b.take kn ++ b.drop kn := (List.take_append_drop kn b).symm
    have h6 : b.drop kn = (b.drop kn).take x.length ++ (b.drop kn).drop x.length := (List.take_append_drop _ _).symm
    rw [h4, List.drop_drop] at h6
    rw [List.append_assoc, ← h6]
    exact h5
  · rw [List.length_take]; omega
  · rw [List.length_append, List.length_take]; omega
theorem At.of_parts {p x r : List UInt8} : At (p ++ x ++ r) p.length x ((p ++ x).length : Nat) :=
  ⟨p.length, rfl, by rw [List.length_append], by simp only [List.length_append]; omega, by rw [List.append_assoc, List.drop_left, List.take_left]⟩
theorem At.app {b : List UInt8} {k m nx : Int} {x y : List UInt8} (h1 : At b k x m) (h2 : At b m y nx) : At b k (x ++ y) nx := by
  obtain ⟨k1, a1, a2, a3, a4⟩ := h1
  obtain ⟨k2, c1, c2, c3, c4⟩ := h2
  have e : k2 = k1 + x.length := by omega
  subst e
  refine ⟨k1, a1, by rw [List.length_append]; omega, by rw [List.length_append]; omega, ?_⟩
  rw [List.length_append, List.take_add, a4, List.drop_drop, c4]
theorem At.split {b : List UInt8} {k nx : Int} {x y : List UInt8} (h : At b k (x ++ y) nx) : ∃ m, At b k x m ∧ At b m y nx := by
  obtain ⟨kn, h1, h2, h3, h4⟩ := h
  rw [List.length_append] at h2 h3 h4
  rw [List.take_add] at h4
  have hl : ((b.drop kn).take x.length).length = x.length := by rw [List.length_take, List.length_drop]; omega
  obtain ⟨e1, e2⟩ := List.append_inj h4 hl
  refine ⟨((kn + x.length : Nat) : Int), ⟨kn, h1, rfl, by omega, e1⟩, ⟨kn + x.length, rfl, by omega, by omega, ?_⟩⟩
  rw [List.drop_drop] at e2
  exact e2
theorem At.nil {b : List UInt8} {k : Int} (h0 : 0 ≤ k) (h1 : k ≤ b.length) : At b k [] k := ⟨k.toNat, by omega, by simp; omega, by simp; omega, by simp⟩
theorem At.nil_eq {b : List UInt8} {k nx : Int} (h : At b k [] nx) : nx = k ∧ 0 ≤ k ∧ k ≤ b.length := by
  obtain ⟨kn, h1, h2, h3, _⟩ := h
  simp only [List.length_nil] at h2 h3
  omega
theorem At.bd {b : List UInt8} {k nx : Int} {x : List UInt8} (h : At b k x nx) : 0 ≤ k ∧ nx = k + x.length ∧ nx ≤ b.length := by
  obtain ⟨kn, h1, h2, h3, _⟩ := h
  omega
theorem At.one {b : List UInt8} {k nx : Int} {x : UInt8} (h : At b k [x] nx) : 0 ≤ k ∧ k < b.length ∧ b.getD k.toNat 0 = x ∧ nx = k + 1 := by
  obtain ⟨kn, h1, h2, h3, h4⟩ := h
  simp only [List.length_cons, List.length_nil] at h2 h3 h4
  have hk : k.toNat = kn := by omega
  have hlt : kn < b.length := by omega
  rw [List.drop_eq_getElem_cons hlt, List.take_succ_cons, List.take_zero] at h4
  injection h4 with h4
  exact ⟨by omega, by omega, by rw [hk, List.getD_eq_getElem?_getD, List.getElem?_eq_getElem hlt]; exact h4, by omega⟩
theorem At.of_one {b : List UInt8} {k : Int} (h0 : 0 ≤ k) (h1 : k < b.length) : At b k [b.getD k.toNat 0] (k + 1) := by
  have hlt : k.toNat < b.length := by omega
  refine ⟨k.toNat, by omega, by simp; omega, by simp; omega, ?_⟩
  rw [List.length_cons, List.length_nil, List.drop_eq_getElem_cons hlt, List.take_succ_cons, List.take_zero, List.getD_eq_getElem?_getD, List.getElem?_eq_getElem hlt]
  rfl
/-! ### What is laid stands behind any bytes -/
theorem putTx_app (b : List UInt8) (s : ByteArray) : putTx b s = b ++ putTx [] s := by simp [putTx]
theorem putC_app (b : List UInt8) (c : Cst) : putC b c = b ++ putC [] c := by
  unfold putC
  split
  · simp
  · rw [putTx_app (b ++ [1]), putTx_app ([] ++ [1])]; simp
theorem putT_app (b : List UInt8) (t : Trm) : putT b t = b ++ putT [] t := by
  unfold putT
  split
  · simp
  · split
    · rw [putC_app (b ++ [2]), putC_app ([] ++ [2])]; simp
    · rw [putTx_app (b ++ [1]), putTx_app ([] ++ [1])]; simp
theorem fold_app {α : Type} {w : List UInt8 → α → List UInt8} (hw : ∀ b a, w b a = b ++ w [] a) : ∀ (l : List α) (b : List UInt8), l.foldl w b = b ++ l.foldl w []
  | [], b => by simp
  | a :: l, b => by
    rw [List.foldl_cons, List.foldl_cons, fold_app hw l (w b a), fold_app hw l (w [] a), hw b a, List.append_assoc]
theorem putTs_app (b : List UInt8) (l : List Trm) : putTs b l = b ++ (leb (zig (l.length : Int)) ++ l.foldl putT []) := by
  unfold putTs
  rw [fold_app putT_app, List.append_assoc]
theorem putLt_app (b : List UInt8) (x : Lit) : putLt b x = b ++ putLt [] x := by
  unfold putLt
  rw [putT_app (putTs _ _), putTs_app (putTx _ _), putTx_app (putT b x.b), putT_app b x.b]
  rw [putT_app (putTs (putTx (putT [] x.b) x.p) x.l), putTs_app (putTx (putT [] x.b) x.p), putTx_app (putT [] x.b)]
  simp only [List.append_assoc]
theorem putR_app (b : List UInt8) (r : Rul) : putR b r = b ++ putR [] r := by
  unfold putR putRH
  rw [fold_app putLt_app, fold_app putLt_app r.b (putT (putTs (putTx (putT [] r.h) r.p) r.l) r.t ++ leb (zig (r.b.length : Int)))]
  rw [putT_app (putTs (putTx (putT b r.h) r.p) r.l), putTs_app (putTx (putT b r.h) r.p), putTx_app (putT b r.h), putT_app b r.h]
  rw [putT_app (putTs (putTx (putT [] r.h) r.p) r.l), putTs_app (putTx (putT [] r.h) r.p), putTx_app (putT [] r.h)]
  simp only [List.append_assoc]
def WF (f : Fct) : List UInt8 := putTx [] f.a ++ (putTx [] f.b ++ (putTx [] f.p ++ (leb (zig (f.l.length : Int)) ++ f.l.foldl putC [])))
theorem putF_app (b : List UInt8) (f : Fct) : putF b f = b ++ WF f := by
  unfold putF WF
  rw [fold_app putC_app, putTx_app (putTx (putTx b f.a) f.b), putTx_app (putTx b f.a), putTx_app b f.a]
  simp only [List.append_assoc]
def WL (x : Lit) : List UInt8 := putT [] x.b ++ (putTx [] x.p ++ ((leb (zig (x.l.length : Int)) ++ x.l.foldl putT []) ++ putT [] x.a))
theorem putLt_W (b : List UInt8) (x : Lit) : putLt b x = b ++ WL x := by
  unfold putLt WL
  rw [putT_app (putTs _ _), putTs_app (putTx _ _), putTx_app (putT b x.b), putT_app b x.b]
  simp only [List.append_assoc]
def WR (r : Rul) : List UInt8 := putT [] r.h ++ (putTx [] r.p ++ ((leb (zig (r.l.length : Int)) ++ r.l.foldl putT []) ++ (putT [] r.t ++ (leb (zig (r.b.length : Int)) ++ r.b.foldl putLt []))))
theorem putR_W (b : List UInt8) (r : Rul) : putR b r = b ++ WR r := by
  unfold putR putRH WR
  rw [fold_app putLt_app, putT_app (putTs _ _), putTs_app (putTx _ _), putTx_app (putT b r.h), putT_app b r.h]
  simp only [List.append_assoc]
theorem fold_cons {α : Type} {w : List UInt8 → α → List UInt8} (hw : ∀ b a, w b a = b ++ w [] a) (a : α) (l : List α) : (a :: l).foldl w [] = w [] a ++ l.foldl w [] := by
  rw [List.foldl_cons, fold_app hw]
/-! ### What is laid is read -/
theorem rdN_at {b : List UInt8} {k nx n : Int} (h0 : -9223372036854775808 ≤ n) (h1 : n ≤ 9223372036854775807) (h : At b k (leb (zig n)) nx) : rdN b k 0 = (n, nx, 0) := by
  obtain ⟨p, r, rfl, rfl, rfl⟩ := h.parts
  unfold rdN
  rw [if_pos rfl, rdInt_put p n r h0 h1, if_pos rfl, List.length_append]
theorem rdC_at {b : List UInt8} {k nx : Int} {n : Nat} {m : Int} (hm : (n : Int) ≤ m) (h1 : m ≤ 1000000) (h : At b k (leb (zig (n : Int))) nx) : rdC b m k 0 = ((n : Int), nx, 0) := by
  unfold rdC
  rw [rdN_at (by omega) (by omega) h, if_pos rfl, if_neg (by simp only; omega)]
theorem rdT_at {b : List UInt8} {k nx : Int} {s : ByteArray} (hs : s.size ≤ 65536) (h : At b k (putTx [] s) nx) : rdT b k 0 = (s, nx, 0) := by
  obtain ⟨p, r, rfl, rfl, rfl⟩ := h.parts
  unfold rdT
  rw [if_pos rfl, ← putTx_app, txt_put p s r hs, if_pos rfl]
theorem rdK_at {b : List UInt8} {k nx : Int} {x : UInt8} {m : Nat} (hx : x.toNat ≤ m) (h : At b k [x] nx) : rdK b m k 0 = (x.toNat, nx, 0) := by
  obtain ⟨h0, h1, h2, h3⟩ := h.one
  unfold rdK
  rw [if_pos rfl, if_neg (by omega), h2, if_neg (by omega), h3]
theorem rdV_at {b : List UInt8} {k nx : Int} {c : Cst} (hg : goodC c = true) (ho : okC c) (h : At b k (putC [] c) nx) : rdV b k 0 = (c, nx, 0) := by
  have hs := good_size hg
  obtain ⟨q, n, s⟩ := c
  unfold putC at h
  unfold goodC at hg
  cases q with
  | true =>
    simp only [if_true, decide_eq_true_eq, List.nil_append] at h hg
    obtain ⟨m, h1, h2⟩ := h.split
    unfold rdV
    rw [rdK_at (m := 1) (by decide) h1, if_neg (by simp only; decide), rdN_at ho.1 ho.2 h2, hg]
  | false =>
    simp only [Bool.false_eq_true, if_false, Bool.and_eq_true, decide_eq_true_eq, List.nil_append] at h hg
    rw [putTx_app] at h
    obtain ⟨m, h1, h2⟩ := h.split
    unfold rdV
    simp only at hs
    rw [rdK_at (m := 1) (by decide) h1, if_pos (by simp only; decide), rdT_at (by omega) h2, hg.1]
theorem rdTm_at {b : List UInt8} {k nx : Int} {t : Trm} (hr : rightT t = true) (ho : okC t.c) (h : At b k (putT [] t) nx) : rdTm b k 0 = (t, nx, 0) ∧ badC b k 0 = false := by
  have hT := rightT_ok hr ho
  obtain ⟨v, c⟩ := t
  simp only at ho
  have hT2 := hT.2
  simp only at hT2
  unfold putT at h
  dsimp only at h
  have key : ∀ {x : UInt8}, At b k [x] (k + 1) → rdTm b k 0 = (⟨v, c⟩, nx, 0) → (x = 0 ∨ (⟨v, c⟩ : Trm) ≠ zT) → rdTm b k 0 = (⟨v, c⟩, nx, 0) ∧ badC b k 0 = false := by
    intro x h1 h2 h3
    refine ⟨h2, ?_⟩
    unfold badC
    rw [h2, h1.one.2.2.1]
    simp only [hr, Bool.not_true, Bool.false_or, decide_true, Bool.true_and]
    rcases h3 with rfl | h3
    · rfl
    · rw [decide_eq_false h3, Bool.and_false]
  by_cases hz : (⟨v, c⟩ : Trm) = zT
  · rw [if_pos hz, List.nil_append] at h
    have h1 := h.one
    refine key (x := 0) (by rw [← h1.2.2.2]; exact h) ?_ (.inl rfl)
    unfold rdTm
    rw [rdK_at (m := 2) (by decide) h, if_neg (by simp only; decide), if_neg (by simp only; decide), hz]
  · rw [if_neg hz] at h
    by_cases hv : v = ⟨#[]⟩
    · rw [if_pos hv, putC_app, List.nil_append] at h
      obtain ⟨m, h1, h2⟩ := h.split
      have hm := h1.one.2.2.2
      refine key (x := 2) (by rw [← hm]; exact h1) ?_ (.inr hz)
      have hg : goodC c = true := by
        simp only [rightT] at hr
        rw [if_pos hv] at hr
        by_cases hc : c = zC
        · exact absurd (by rw [hv, hc]; rfl) hz
        · rw [decide_eq_false hc, Bool.false_or] at hr; exact hr
      unfold rdTm
      rw [rdK_at (m := 2) (by decide) h1, if_neg (by simp only; decide), if_pos (by simp only; decide), rdV_at hg ho h2, hv]
    · rw [if_neg hv, putTx_app, List.nil_append] at h
      obtain ⟨m, h1, h2⟩ := h.split
      have hm := h1.one.2.2.2
      refine key (x := 1) (by rw [← hm]; exact h1) ?_ (.inr hz)
      have hc : c = zC := by
        simp only [rightT] at hr
        rw [if_neg hv, Bool.and_eq_true, decide_eq_true_eq] at hr
        exact hr.2
      unfold rdTm
      rw [rdK_at (m := 2) (by decide) h1, if_pos (by simp only; decide), rdT_at (by omega) h2, hc]
theorem rdG_at {α : Type} {w : List UInt8 → α → List UInt8} {one : Int → Int → Bool → α × Int × Int × Bool} {good : α → Prop} {b : List UInt8} (hw : ∀ b a, w b a = b ++ w [] a)
    (H : ∀ a k nx, good a → At b k (w [] a) nx → one k 0 false = (a, nx, 0, false)) : ∀ (l : List α) (k nx : Int), (∀ a ∈ l, good a) → At b k (l.foldl w []) nx → rdG one l.length k 0 false = (l, nx, 0, false)
  | [], k, nx, _, h => by
    rw [List.foldl_nil] at h
    rw [h.nil_eq.1]; rfl
  | a :: l, k, nx, hg, h => by
    rw [fold_cons hw] at h
    obtain ⟨m, h1, h2⟩ := h.split
    rw [List.length_cons, rdG, if_pos rfl, H a k m (hg a (by simp)) h1]
    simp only
    rw [rdG_at hw H l m nx (fun x hx => hg x (by simp [hx])) h2]
theorem rdMany_at {b : List UInt8} : ∀ (l : List Trm) (k nx : Int), (∀ t ∈ l, rightT t = true ∧ okC t.c) → At b k (l.foldl putT []) nx → rdMany (badC b) b l.length k 0 false = (l, nx, 0, false)
  | [], k, nx, _, h => by
    rw [List.foldl_nil] at h
    rw [h.nil_eq.1]; rfl
  | a :: l, k, nx, hg, h => by
    rw [fold_cons putT_app] at h
    obtain ⟨m, h1, h2⟩ := h.split
    have ha := hg a (by simp)
    obtain ⟨e1, e2⟩ := rdTm_at ha.1 ha.2 h1
    rw [List.length_cons, rdMany, if_pos rfl, e1, e2]
    simp only [Bool.or_false]
    rw [rdMany_at l m nx (fun x hx => hg x (by simp [hx])) h2]
theorem rdTms_at {b : List UInt8} {k nx : Int} {l : List Trm} (hl : l.length ≤ 48) (hg : ∀ t ∈ l, rightT t = true ∧ okC t.c) (h : At b k (leb (zig (l.length : Int)) ++ l.foldl putT []) nx) : rdTms (badC b) b k 0 false = (l, nx, 0, false) := by
  obtain ⟨m, h1, h2⟩ := h.split
  unfold rdTms
  rw [rdC_at (by omega) (by decide) h1]
  simp only [Int.toNat_natCast]
  exact rdMany_at l m nx hg h2
theorem rdOne_at {b : List UInt8} {k nx : Int} {t : Trm} (hr : rightT t = true) (ho : okC t.c) (h : At b k (putT [] t) nx) : rdOne (badC b) b k 0 false = (t, nx, 0, false) := by
  obtain ⟨e1, e2⟩ := rdTm_at hr ho h
  unfold rdOne
  rw [e1, e2]; rfl
theorem rightL_all {l : List Trm} (h : rightL l = true) (ho : okTs l) : l.length ≤ 48 ∧ ∀ t ∈ l, rightT t = true ∧ okC t.c := by
  simp only [rightL, Bool.and_eq_true, decide_eq_true_eq, List.all_eq_true] at h
  exact ⟨h.1, fun t ht => ⟨h.2 t ht, ho t ht⟩⟩
theorem rdLit_at {b : List UInt8} {k nx : Int} {x : Lit} (hr : rightI x = true) (ho : okI x) (h : At b k (putLt [] x) nx) : rdLit (badC b) b k 0 false = (x, nx, 0, false) := by
  rw [putLt_W, List.nil_append, WL] at h
  simp only [rightI, Bool.and_eq_true] at hr
  obtain ⟨m1, h1, h⟩ := h.split
  obtain ⟨m2, h2, h⟩ := h.split
  obtain ⟨m3, h3, h4⟩ := h.split
  have hL := rightL_all hr.2.2.2 ho.2.1
  have hp := txt_size hr.2.2.1
  simp only [rdLit, thn, tx4]
  rw [rdOne_at hr.1 ho.1 h1]
  simp only
  rw [rdT_at (by omega) h2]
  simp only
  rw [rdTms_at hL.1 hL.2 h3]
  simp only
  rw [rdOne_at hr.2.1 ho.2.2 h4]
theorem rdRul_at {b : List UInt8} {k nx : Int} {r : Rul} (hr : rightR r = true) (ho : okRl r) (h : At b k (putR [] r) nx) : rdRul (badC b) b k 0 false = (r, nx, 0, false) := by
  rw [putR_W, List.nil_append, WR] at h
  simp only [rightR, Bool.and_eq_true, decide_eq_true_eq, List.all_eq_true] at hr
  obtain ⟨m1, h1, h⟩ := h.split
  obtain ⟨m2, h2, h⟩ := h.split
  obtain ⟨m3, h3, h⟩ := h.split
  obtain ⟨m4, h4, h⟩ := h.split
  obtain ⟨m5, h5, h6⟩ := h.split
  have hL := rightL_all hr.2.2.2.1 ho.2.1
  have hp := txt_size hr.2.2.1
  simp only [rdRul, thn, tx4, ct4]
  rw [rdOne_at hr.1 ho.1 h1]
  simp only
  rw [rdT_at (by omega) h2]
  simp only
  rw [rdTms_at hL.1 hL.2 h3]
  simp only
  rw [rdOne_at hr.2.1 ho.2.2.1 h4]
  simp only
  rw [rdC_at (n := r.b.length) (by omega) (by decide) h5]
  simp only [Int.toNat_natCast]
  rw [rdG_at (good := fun x => rightI x = true ∧ okI x) putLt_app (fun a k nx hg ha => rdLit_at hg.1 hg.2 ha) r.b m5 nx (fun x hx => ⟨hr.2.2.2.2.2 x hx, ho.2.2.2 x hx⟩) h6]
theorem rdF_at {b : List UInt8} {k nx : Int} {f : Fct} (hc : chkF f = true) (ho : okF f) (h : At b k (WF f) nx) : rdF b k = (f, nx, 0) := by
  obtain ⟨c1, c2, c3, c4, c5⟩ := chkF_iff hc
  have t1 := txt_size c1
  have t2 := txt_size c2
  have t3 := txt_size c3
  unfold WF at h
  obtain ⟨m1, h1, h⟩ := h.split
  obtain ⟨m2, h2, h⟩ := h.split
  obtain ⟨m3, h3, h⟩ := h.split
  obtain ⟨m4, h4, h5⟩ := h.split
  have e : rdF0 b k = (f, nx, 0, false) := by
    simp only [rdF0, thn, tx4, ct4]
    rw [rdT_at (by omega) h1]
    simp only
    rw [rdT_at (by omega) h2]
    simp only
    rw [rdT_at (by omega) h3]
    simp only
    rw [rdC_at (n := f.l.length) (by omega) (by decide) h4]
    simp only [Int.toNat_natCast]
    rw [rdG_at (good := fun c => goodC c = true ∧ okC c) putC_app (fun a k nx hg ha => by unfold cv4; rw [rdV_at hg.1 hg.2 ha]) f.l m4 nx (fun x hx => ⟨c5 x hx, ho x hx⟩) h5]
  unfold rdF
  rw [e, if_pos rfl, if_pos hc]
theorem dec_at {b : List UInt8} {l : List Rul} (hl : l.length ≤ 768) (hg : ∀ r ∈ l, rightR r = true ∧ okRl r) (hb : b = leb (zig (l.length : Int)) ++ l.foldl putR []) : decE b (dec0 (dcC b) b) = (l, 0) := by
  have h : At b 0 (leb (zig (l.length : Int)) ++ l.foldl putR []) b.length := ⟨0, rfl, by rw [← hb]; omega, by rw [← hb]; omega, by rw [← hb]; simp⟩
  obtain ⟨m, h1, h2⟩ := h.split
  unfold dec0
  rw [rdC_at (by omega) (by decide) h1]
  simp only [Int.toNat_natCast]
  rw [rdG_at (good := fun r => rightR r = true ∧ okRl r) putR_app (fun a k nx hg ha => by unfold dcC lkR; rw [rdRul_at hg.1 hg.2 ha]; simp [hg.1]) l m b.length hg h2]
  unfold decE
  rw [if_pos rfl, if_neg (by simp only; omega)]
end Go.Proofs.Ytfeoafddagdbfaa
