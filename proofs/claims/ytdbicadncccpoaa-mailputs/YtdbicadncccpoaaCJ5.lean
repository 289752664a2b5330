/- Parts of the proof: Trip, TripI. -/
import Derived.Test.YtdbicadncccpoaaCJ4
import Derived.Test.YtdbicadncccpoaaCJ2
set_option linter.unusedVariables false
set_option linter.unusedSimpArgs false
set_option maxRecDepth 100000
namespace Go.Proofs.Ytdbicadncccpoaa
open Go Go.ChangeShapes Go.WideShapes
/-- These bytes lie at this place, and end at that one. -/
def At (b : List UInt8) (k : Int) (x : List UInt8) (nx : Int) : Prop := ∃ kn : Nat, k = kn ∧ nx = ((kn + x.length : Nat) : Int) ∧ kn + x.length ≤ b.length ∧ (b.drop kn).take x.length = x
theorem At.parts {b : List UInt8} {k nx : Int} {x : List UInt8} (h : At b k x nx) : ∃ p r : List UInt8, b = p ++ x ++ r ∧ k = p.length ∧ nx = ((p ++ x).length : Nat) := by
  obtain ⟨kn, h1, h2, h3, h4⟩ := h
  refine ⟨b.take kn, b.drop (kn + x.length), ?_, ?_, ?_⟩
  · have h5 : b = b.take kn ++ b.drop kn := (List.take_append_drop kn b).symm
    have h6 : b.drop kn = (b.drop kn).take x.length ++ (b.drop kn).drop x.length := (List.take_append_drop _ _).symm
    rw [h4, List.drop_drop] at h6
    rw [List.append_assoc, ← h6]
    exact h5
  · rw [List.length_take]; omega
  · rw [List.length_append, List.length_take]; omega
theorem At.of_parts {p x r : List UInt8} : At (p ++ x ++ r) p.length x ((p ++ x).length : Nat) :=
  ⟨p.length, rfl, by rw [List.length_append], by simp only [List.length_append]; omega, by rw [List.append_assoc, List.drop_left, List.take_left]⟩
theorem At.app {b : List UInt8} {k m nx : Int} {x y : List UInt8} (h1 : At b k x m) (h2 : At b m y nx) : At b k (x ++ y) nx := by
  obtain ⟨k1, a1, a2, a3, a4⟩ := h1
  obtain ⟨k2, c1, c2, c3, c4⟩ := h2
  have e : k2 = k1 + x.length := by omega
  subst e
  refine ⟨k1, a1, by rw [List.length_append]; omega, by rw [List.length_append]; omega, ?_⟩
  rw [List.length_append, List.take_add, a4, List.drop_drop, c4]
theorem At.split {b : List UInt8} {k nx : Int} {x y : List UInt8} (h : At b k (x ++ y) nx) : ∃ m, At b k x m ∧ At b m y nx := by
  obtain ⟨kn, h1, h2, h3, h4⟩ := h
  rw [List.length_append] at h2 h3 h4
  rw [List.take_add] at h4
  have hl : ((b.drop kn).take x.length).length = x.length := by rw [List.length_take, List.length_drop]; omega
  obtain ⟨e1, e2⟩ := List.append_inj h4 hl
  refine ⟨((kn + x.length : Nat) : Int), ⟨kn, h1, rfl, by omega, e1⟩, ⟨kn + x.length, rfl, by omega, by omega, ?_⟩⟩
  rw [List.drop_drop] at e2
  exact e2
theorem At.nil {b : List UInt8} {k : Int} (h0 : 0 ≤ k) (h1 : k ≤ b.length) : At b k [] k := ⟨k.toNat, by omega, by simp; omega, by simp; omega, by simp⟩
theorem At.nil_eq {b : List UInt8} {k nx : Int} (h : At b k [] nx) : nx = k ∧ 0 ≤ k ∧ k ≤ b.length := by
  obtain ⟨kn, h1, h2, h3, _⟩ := h
  simp only [List.length_nil] at h2 h3
  omega
theorem At.bd {b : List UInt8} {k nx : Int} {x : List UInt8} (h : At b k x nx) : 0 ≤ k ∧ nx = k + x.length ∧ nx ≤ b.length := by
  obtain ⟨kn, h1, h2, h3, _⟩ := h
  omega
theorem At.one {b : List UInt8} {k nx : Int} {x : UInt8} (h : At b k [x] nx) : 0 ≤ k ∧ k < b.length ∧ b.getD k.toNat 0 = x ∧ nx = k + 1 := by
  obtain ⟨kn, h1, h2, h3, h4⟩ := h
  simp only [List.length_cons, List.length_nil] at h2 h3 h4
  have hk : k.toNat = kn := by omega
  have hlt : kn < b.length := by omega
  rw [List.drop_eq_getElem_cons hlt, List.take_succ_cons, List.take_zero] at h4
  injection h4 with h4
  exact ⟨by omega, by omega, by rw [hk, List.getD_eq_getElem?_getD, List.getElem?_eq_getElem hlt]; exact h4, by omega⟩
theorem At.of_one {b : List UInt8} {k : Int} (h0 : 0 ≤ k) (h1 : k < b.length) : At b k [b.getD k.toNat 0] (k + 1) := by
  have hlt : k.toNat < b.length := by omega
  refine ⟨k.toNat, by omega, by simp; omega, by simp; omega, ?_⟩
  rw [List.length_cons, List.length_nil, List.drop_eq_getElem_cons hlt, List.take_succ_cons, List.take_zero, List.getD_eq_getElem?_getD, List.getElem?_eq_getElem hlt]
  rfl
/-! ### What is laid stands behind any bytes -/
theorem putTx_app (b : List UInt8) (s : ByteArray) : putTx b s = b ++ putTx [] s := by simp [putTx]
theorem putC_app (b : List UInt8) (c : Cst) : putC b c = b ++ putC [] c := by
  unfold putC
  split
  · simp
  · rw [putTx_app (b ++ [1]), putTx_app ([] ++ [1])]; simp
theorem putT_app (b : List UInt8) (t : Trm) : putT b t = b ++ putT [] t := by
  unfold putT
  split
  · simp
  · split
    · rw [putC_app (b ++ [2]), putC_app ([] ++ [2])]; simp
    · rw [putTx_app (b ++ [1]), putTx_app ([] ++ [1])]; simp
theorem fold_app {α : Type} {w : List UInt8 → α → List UInt8} (hw : ∀ b a, w b a = b ++ w [] a) : ∀ (l : List α) (b : List UInt8), l.foldl w b = b ++ l.foldl w []
  | [], b => by simp
  | a :: l, b => by
    rw [List.foldl_cons, List.foldl_cons, fold_app hw l (w b a), fold_app hw l (w [] a), hw b a, List.append_assoc]
theorem putTs_app (b : List UInt8) (l : List Trm) : putTs b l = b ++ (leb (zig (l.length : Int)) ++ l.foldl putT []) := by
  unfold putTs
  rw [fold_app putT_app, List.append_assoc]
theorem putLt_app (b : List UInt8) (x : Lit) : putLt b x = b ++ putLt [] x := by
  unfold putLt
  rw [putT_app (putTs _ _), putTs_app (putTx _ _), putTx_app (putT b x.b), putT_app b x.b]
  rw [putT_app (putTs (putTx (putT [] x.b) x.p) x.l), putTs_app (putTx (putT [] x.b) x.p), putTx_app (putT [] x.b)]
  simp only [List.append_assoc]
theorem putR_app (b : List UInt8) (r : Rul) : putR b r = b ++ putR [] r := by
  unfold putR putRH
  rw [fold_app putLt_app, fold_app putLt_app r.b (putT (putTs (putTx (putT [] r.h) r.p) r.l) r.t ++ leb (zig (r.b.length : Int)))]
  rw [putT_app (putTs (putTx (putT b r.h) r.p) r.l), putTs_app (putTx (putT b r.h) r.p), putTx_app (putT b r.h), putT_app b r.h]
  rw [putT_app (putTs (putTx (putT [] r.h) r.p) r.l), putTs_app (putTx (putT [] r.h) r.p), putTx_app (putT [] r.h)]
  simp only [List.append_assoc]
def WF (f : Fct) : List UInt8 := putTx [] f.a ++ (putTx [] f.b ++ (putTx [] f.p ++ (leb (zig (f.l.length : Int)) ++ f.l.foldl putC [])))
theorem putF_app (b : List UInt8) (f : Fct) : putF b f = b ++ WF f := by
  unfold putF WF
  rw [fold_app putC_app, putTx_app (putTx (putTx b f.a) f.b), putTx_app (putTx b f.a), putTx_app b f.a]
  simp only [List.append_assoc]
def WL (x : Lit) : List UInt8 := putT [] x.b ++ (putTx [] x.p ++ ((leb (zig (x.l.length : Int)) ++ x.l.foldl putT []) ++ putT [] x.a))
theorem putLt_W (b : List UInt8) (x : Lit) : putLt b x = b ++ WL x := by
  unfold putLt WL
  rw [putT_app (putTs _ _), putTs_app (putTx _ _), putTx_app (putT b x.b), putT_app b x.b]
  simp only [List.append_assoc]
def WR (r : Rul) : List UInt8 := putT [] r.h ++ (putTx [] r.p ++ ((leb (zig (r.l.length : Int)) ++ r.l.foldl putT []) ++ (putT [] r.t ++ (leb (zig (r.b.length : Int)) ++ r.b.foldl putLt []))))
theorem putR_W (b : List UInt8) (r : Rul) : putR b r = b ++ WR r := by
  unfold putR putRH WR
  rw [fold_app putLt_app, putT_app (putTs _ _), putTs_app (putTx _ _), putTx_app (putT b r.h), putT_app b r.h]
  simp only [List.append_assoc]
theorem fold_cons {α : Type} {w : List UInt8 → α → List UInt8} (hw : ∀ b a, w b a = b ++ w [] a) (a : α) (l : List α) : (a :: l).foldl w [] = w [] a ++ l.foldl w [] := by
  rw [List.foldl_cons, fold_app hw]
/-! ### What is laid is read -/
theorem rdN_at {b : List UInt8} {k nx n : Int} (h0 : -9223372036854775808 ≤ n) (h1 : n ≤ 9223372036854775807) (h : At b k (leb (zig n)) nx) : rdN b k 0 = (n, nx, 0) := by
  obtain ⟨p, r, rfl, rfl, rfl⟩ := h.parts
  unfold rdN
  rw [if_pos rfl, rdInt_put p n r h0 h1, if_pos rfl, List.length_append]
theorem rdC_at {b : List UInt8} {k nx : Int} {n : Nat} {m : Int} (hm : (n : Int) ≤ m) (h1 : m ≤ 1000000) (h : At b k (leb (zig (n : Int))) nx) : rdC b m k 0 = ((n : Int), nx, 0) := by
  unfold rdC
  rw [rdN_at (by omega) (by omega) h, if_pos rfl, if_neg (by simp only; omega)]
theorem rdT_at {b : List UInt8} {k nx : Int} {s : ByteArray} (hs : s.size ≤ 65536) (h : At b k (putTx [] s) nx) : rdT b k 0 = (s, nx, 0) := by
  obtain ⟨p, r, rfl, rfl, rfl⟩ := h.parts
  unfold rdT
  rw [if_pos rfl, ← putTx_app, txt_put p s r hs, if_pos rfl]
theorem rdK_at {b : List UInt8} {k nx : Int} {x : UInt8} {m : Nat} (hx : x.toNat ≤ m) (h : At b k [x] nx) : rdK b m k 0 = (x.toNat, nx, 0) := by
  obtain ⟨h0, h1, h2, h3⟩ := h.one
  unfold rdK
  rw [if_pos rfl, if_neg (by omega), h2, if_neg (by omega), h3]
theorem rdV_at {b : List UInt8} {k nx : Int} {c : Cst} (hg : goodC c = true) (ho : okC c) (h : At b k (putC [] c) nx) : rdV b k 0 = (c, nx, 0) := by
  have hs := good_size hg
  obtain ⟨q, n, s⟩ := c
  unfold putC at h
  unfold goodC at hg
  cases q with
  | true =>
    simp only [if_true, decide_eq_true_eq, List.nil_append] at h hg
    obtain ⟨m, h1, h2⟩ := h.split
    unfold rdV
    rw [rdK_at (m := 1) (by decide) h1, if_neg (by simp only; decide), rdN_at ho.1 ho.2 h2, hg]
  | false =>
    simp only [Bool.false_eq_true, if_false, Bool.and_eq_true, decide_eq_true_eq, List.nil_append] at h hg
    rw [putTx_app] at h
    obtain ⟨m, h1, h2⟩ := h.split
    unfold rdV
    simp only at hs
    rw [rdK_at (m := 1) (by decide) h1, if_pos (by simp only; decide), rdT_at (by omega) h2, hg.1]
theorem rdTm_at {b : List UInt8} {k nx : Int} {t : Trm} (hr : rightT t = true) (ho : okC t.c) (h : At b k (putT [] t) nx) : rdTm b k 0 = (t, nx, 0) ∧ badC b k 0 = false := by
  have hT := rightT_ok hr ho
  obtain ⟨v, c⟩ := t
  simp only at ho
  have hT2 := hT.2
  simp only at hT2
  unfold putT at h
  dsimp only at h
  have key : ∀ {x : UInt8}, At b k [x] (k + 1) → rdTm b k 0 = (⟨v, c⟩, nx, 0) → (x = 0 ∨ (⟨v, c⟩ : Trm) ≠ zT) → rdTm b k 0 = (⟨v, c⟩, nx, 0) ∧ badC b k 0 = false := by
    intro x h1 h2 h3
    refine ⟨h2, ?_⟩
    unfold badC
    rw [h2, h1.one.2.2.1]
    simp only [hr, Bool.not_true, Bool.false_or, decide_true, Bool.true_and]
    rcases h3 with rfl | h3
    · rfl
    · rw [decide_eq_false h3, Bool.and_false]
  by_cases hz : (⟨v, c⟩ : Trm) = zT
  · rw [if_pos hz, List.nil_append] at h
    have h1 := h.one
    refine key (x := 0) (by rw [← h1.2.2.2]; exact h) ?_ (.inl rfl)
    unfold rdTm
    rw [rdK_at (m := 2) (by decide) h, if_neg (by simp only; decide), if_neg (by simp only; decide), hz]
  · rw [if_neg hz] at h
    by_cases hv : v = ⟨#[]⟩
    · rw [if_pos hv, putC_app, List.nil_append] at h
      obtain ⟨m, h1, h2⟩ := h.split
      have hm := h1.one.2.2.2
      refine key (x := 2) (by rw [← hm]; exact h1) ?_ (.inr hz)
      have hg : goodC c = true := by
        simp only [rightT] at hr
        rw [if_pos hv] at hr
        by_cases hc : c = zC
        · exact absurd (by rw [hv, hc]; rfl) hz
        · rw [decide_eq_false hc, Bool.false_or] at hr; exact hr
      unfold rdTm
      rw [rdK_at (m := 2) (by decide) h1, if_neg (by simp only; decide), if_pos (by simp only; decide), rdV_at hg ho h2, hv]
    · rw [if_neg hv, putTx_app, List.nil_append] at h
      obtain ⟨m, h1, h2⟩ := h.split
      have hm := h1.one.2.2.2
      refine key (x := 1) (by rw [← hm]; exact h1) ?_ (.inr hz)
      have hc : c = zC := by
        simp only [rightT] at hr
        rw [if_neg hv, Bool.and_eq_true, decide_eq_true_eq] at hr
        exact hr.2
      unfold rdTm
      rw [rdK_at (m := 2) (by decide) h1, if_pos (by simp only; decide), rdT_at (by omega) h2, hc]
theorem rdG_at {α : Type} {w : List UInt8 → α → List UInt8} {one : Int → Int → Bool → α × Int × Int × Bool} {good : α → Prop} {b : List UInt8} (hw : ∀ b a, w b a = b ++ w [] a)
    (H : ∀ a k nx, good a → At b k (w [] a) nx → one k 0 false = (a, nx, 0, false)) : ∀ (l : List α) (k nx : Int), (∀ a ∈ l, good a) → At b k (l.foldl w []) nx → rdG one l.length k 0 false = (l, nx, 0, false)
  | [], k, nx, _, h => by
    rw [List.foldl_nil] at h
    rw [h.nil_eq.1]; rfl
  | a :: l, k, nx, hg, h => by
    rw [fold_cons hw] at h
    obtain ⟨m, h1, h2⟩ := h.split
    rw [List.length_cons, rdG, if_pos rfl, H a k m (hg a (by simp)) h1]
    simp only
    rw [rdG_at hw H l m nx (fun x hx => hg x (by simp [hx])) h2]
theorem rdMany_at {b : List UInt8} : ∀ (l : List Trm) (k nx : Int), (∀ t ∈ l, rightT t = true ∧ okC t.c) → At b k (l.foldl putT []) nx → rdMany (badC b) b l.length k 0 false = (l, nx, 0, false)
  | [], k, nx, _, h => by
    rw [List.foldl_nil] at h
    rw [h.nil_eq.1]; rfl
  | a :: l, k, nx, hg, h => by
    rw [fold_cons putT_app] at h
    obtain ⟨m, h1, h2⟩ := h.split
    have ha := hg a (by simp)
    obtain ⟨e1, e2⟩ := rdTm_at ha.1 ha.2 h1
    rw [List.length_cons, rdMany, if_pos rfl, e1, e2]
    simp only [Bool.or_false]
    rw [rdMany_at l m nx (fun x hx => hg x (by simp [hx])) h2]
theorem rdTms_at {b : List UInt8} {k nx : Int} {l : List Trm} (hl : l.length ≤ 48) (hg : ∀ t ∈ l, rightT t = true ∧ okC t.c) (h : At b k (leb (zig (l.length : Int)) ++ l.foldl putT []) nx) : rdTms (badC b) b k 0 false = (l, nx, 0, false) := by
  obtain ⟨m, h1, h2⟩ := h.split
  unfold rdTms
  rw [rdC_at (by omega) (by decide) h1]
  simp only [Int.toNat_natCast]
  exact rdMany_at l m nx hg h2
theorem rdOne_at {b : List UInt8} {k nx : Int} {t : Trm} (hr : rightT t = true) (ho : okC t.c) (h : At b k (putT [] t) nx) : rdOne (badC b) b k 0 false = (t, nx, 0, false) := by
  obtain ⟨e1, e2⟩ := rdTm_at hr ho h
  unfold rdOne
  rw [e1, e2]; rfl
theorem rightL_all {l : List Trm} (h : rightL l = true) (ho : okTs l) : l.length ≤ 48 ∧ ∀ t ∈ l, rightT t = true ∧ okC t.c := by
  simp only [rightL, Bool.and_eq_true, decide_eq_true_eq, List.all_eq_true] at h
  exact ⟨h.1, fun t ht => ⟨h.2 t ht, ho t ht⟩⟩
theorem rdLit_at {b : List UInt8} {k nx : Int} {x : Lit} (hr : rightI x = true) (ho : okI x) (h : At b k (putLt [] x) nx) : rdLit (badC b) b k 0 false = (x, nx, 0, false) := by
  rw [putLt_W, List.nil_append, WL] at h
  simp only [rightI, Bool.and_eq_true] at hr
  obtain ⟨m1, h1, h⟩ := h.split
  obtain ⟨m2, h2, h⟩ := h.split
  obtain ⟨m3, h3, h4⟩ := h.split
  have hL := rightL_all hr.2.2.2 ho.2.1
  have hp := txt_size hr.2.2.1
  simp only [rdLit, thn, tx4]
  rw [rdOne_at hr.1 ho.1 h1]
  simp only
  rw [rdT_at (by omega) h2]
  simp only
  rw [rdTms_at hL.1 hL.2 h3]
  simp only
  rw [rdOne_at hr.2.1 ho.2.2 h4]
theorem rdRul_at {b : List UInt8} {k nx : Int} {r : Rul} (hr : rightR r = true) (ho : okRl r) (h : At b k (putR [] r) nx) : rdRul (badC b) b k 0 false = (r, nx, 0, false) := by
  rw [putR_W, List.nil_append, WR] at h
  simp only [rightR, Bool.and_eq_true, decide_eq_true_eq, List.all_eq_true] at hr
  obtain ⟨m1, h1, h⟩ := h.split
  obtain ⟨m2, h2, h⟩ := h.split
  obtain ⟨m3, h3, h⟩ := h.split
  obtain ⟨m4, h4, h⟩ := h.split
  obtain ⟨m5, h5, h6⟩ := h.split
  have hL := rightL_all hr.2.2.2.1 ho.2.1
  have hp := txt_size hr.2.2.1
  simp only [rdRul, thn, tx4, ct4]
  rw [rdOne_at hr.1 ho.1 h1]
  simp only
  rw [rdT_at (by omega) h2]
  simp only
  rw [rdTms_at hL.1 hL.2 h3]
  simp only
  rw [rdOne_at hr.2.1 ho.2.2.1 h4]
  simp only
  rw [rdC_at (n := r.b.length) (by omega) (by decide) h5]
  simp only [Int.toNat_natCast]
  rw [rdG_at (good := fun x => rightI x = true ∧ okI x) putLt_app (fun a k nx hg ha => rdLit_at hg.1 hg.2 ha) r.b m5 nx (fun x hx => ⟨hr.2.2.2.2.2 x hx, ho.2.2.2 x hx⟩) h6]
theorem rdF_at {b : List UInt8} {k nx : Int} {f : Fct} (hc : chkF f = true) (ho : okF f) (h : At b k (WF f) nx) : rdF b k = (f, nx, 0) := by
  obtain ⟨c1, c2, c3, c4, c5⟩ := chkF_iff hc
  have t1 := txt_size c1
  have t2 := txt_size c2
  have t3 := txt_size c3
  unfold WF at h
  obtain ⟨m1, h1, h⟩ := h.split
  obtain ⟨m2, h2, h⟩ := h.split
  obtain ⟨m3, h3, h⟩ := h.split
  obtain ⟨m4, h4, h5⟩ := h.split
  have e : rdF0 b k = (f, nx, 0, false) := by
    simp only [rdF0, thn, tx4, ct4]
    rw [rdT_at (by omega) h1]
    simp only
    rw [rdT_at (by omega) h2]
    simp only
    rw [rdT_at (by omega) h3]
    simp only
    rw [rdC_at (n := f.l.length) (by omega) (by decide) h4]
    simp only [Int.toNat_natCast]
    rw [rdG_at (good := fun c => goodC c = true ∧ okC c) putC_app (fun a k nx hg ha => by unfold cv4; rw [rdV_at hg.1 hg.2 ha]) f.l m4 nx (fun x hx => ⟨c5 x hx, ho x hx⟩) h5]
  unfold rdF
  rw [e, if_pos rfl, if_pos hc]
theorem dec_at {b : List UInt8} {l : List Rul} (hl : l.length ≤ 768) (hg : ∀ r ∈ l, rightR r = true ∧ okRl r) (hb : b = leb (zig (l.length : Int)) ++ l.foldl putR []) : decE b (dec0 (dcC b) b) = (l, 0) := by
  have h : At b 0 (leb (zig (l.length : Int)) ++ l.foldl putR []) b.length := ⟨0, rfl, by rw [← hb]; omega, by rw [← hb]; omega, by rw [← hb]; simp⟩
  obtain ⟨m, h1, h2⟩ := h.split
  unfold dec0
  rw [rdC_at (by omega) (by decide) h1]
  simp only [Int.toNat_natCast]
  rw [rdG_at (good := fun r => rightR r = true ∧ okRl r) putR_app (fun a k nx hg ha => by unfold dcC lkR; rw [rdRul_at hg.1 hg.2 ha]; simp [hg.1]) l m b.length hg h2]
  unfold decE
  rw [if_pos rfl, if_neg (by simp only; omega)]
end Go.Proofs.Ytdbicadncccpoaa

set_option linter.unusedVariables false
set_option linter.unusedSimpArgs false
set_option maxRecDepth 100000
namespace Go.Proofs.Ytdbicadncccpoaa
open Go Go.ChangeShapes Go.WideShapes
/-! ### What is read was laid so -/
theorem rdN_inv {b : List UInt8} {k e nx n : Int} (h : rdN b k e = (n, nx, 0)) : e = 0 ∧ (-9223372036854775808 ≤ n ∧ n ≤ 9223372036854775807) ∧ At b k (leb (zig n)) nx := by
  unfold rdN at h
  split at h
  · split at h
    · rename_i h1 h2
      have hb := rdInt_bd b k
      have hr : rdInt b k = (n, nx, 0) := by rw [← h]; exact Prod.ext rfl (Prod.ext rfl h2)
      obtain ⟨kn, g1, g2, g3, g4⟩ := rdInt_inv b k n nx hr
      rw [hr] at hb
      exact ⟨h1, hb.1, kn, g1, g2, g3, g4⟩
    · rename_i h1 h2
      simp only [Prod.mk.injEq] at h
      exact absurd h.2.2 h2
  · rename_i h1
    simp only [Prod.mk.injEq] at h
    exact absurd h.2.2 h1
theorem rdC_inv {b : List UInt8} {m k e nx n : Int} (h : rdC b m k e = (n, nx, 0)) : e = 0 ∧ (0 ≤ n ∧ n ≤ m) ∧ At b k (leb (zig n)) nx := by
  unfold rdC at h
  split at h
  · split at h
    · simp at h
    · rename_i h2
      have h3 := rdN_inv h
      rw [h] at h2
      simp only at h2
      exact ⟨h3.1, by omega, h3.2.2⟩
  · rename_i h1
    simp only [Prod.mk.injEq] at h
    exact absurd h.2.2 h1
theorem rdT_inv {b : List UInt8} {k e nx : Int} {s : ByteArray} (h : rdT b k e = (s, nx, 0)) : e = 0 ∧ s.size ≤ 65536 ∧ At b k (putTx [] s) nx := by
  unfold rdT at h
  split at h
  · split at h
    · rename_i h1 h2
      have hr : txt b k = (s, nx, 0) := by rw [← h]; exact Prod.ext rfl (Prod.ext rfl h2)
      obtain ⟨kn, g1, g2, g3, g4, g5⟩ := txt_inv b k s nx hr
      exact ⟨h1, g5, kn, g1, g2, g3, g4⟩
    · rename_i h1 h2
      simp only [Prod.mk.injEq] at h
      exact absurd h.2.2 h2
  · rename_i h1
    simp only [Prod.mk.injEq] at h
    exact absurd h.2.2 h1
theorem rdK_inv {b : List UInt8} {m q : Nat} {k e nx : Int} (hk : e = 0 → 0 ≤ k) (h : rdK b m k e = (q, nx, 0)) : e = 0 ∧ ∃ x : UInt8, q = x.toNat ∧ x = b.getD k.toNat 0 ∧ q ≤ m ∧ At b k [x] nx := by
  unfold rdK at h
  split at h
  · rename_i he
    split at h
    · simp at h
    · split at h
      · simp at h
      · rename_i h1 h2
        simp only [Prod.mk.injEq] at h
        obtain ⟨g1, g2, _⟩ := h
        refine ⟨he, _, g1.symm, rfl, by omega, ?_⟩
        rw [← g2]
        exact At.of_one (hk he) (by omega)
  · rename_i h1
    simp only [Prod.mk.injEq] at h
    exact absurd h.2.2 h1
theorem u8_of_nat {x : UInt8} {n : Nat} (h : x.toNat = n) : x = UInt8.ofNat n := by rw [← h, UInt8.ofNat_toNat]
theorem rdV_inv {b : List UInt8} {k e nx : Int} {c : Cst} (hk : e = 0 → 0 ≤ k) (h : rdV b k e = (c, nx, 0)) : e = 0 ∧ okC c ∧ At b k (putC [] c) nx := by
  unfold rdV at h
  rcases hK : rdK b 1 k e with ⟨q, k1, e1⟩
  rw [hK] at h
  simp only at h
  split at h
  · rename_i h1
    rcases hT : rdT b k1 e1 with ⟨s, k2, e2⟩
    rw [hT] at h
    simp only [Prod.mk.injEq] at h
    obtain ⟨rfl, rfl, rfl⟩ := h
    obtain ⟨rfl, _, h3⟩ := rdT_inv hT
    obtain ⟨he, x, g1, _, _, g4⟩ := rdK_inv hk hK
    have hx : x = 1 := u8_of_nat (n := 1) (by omega)
    refine ⟨he, ⟨by simp only; decide, by simp only; decide⟩, ?_⟩
    show At b k (putTx ([] ++ [1]) s) _
    rw [putTx_app, List.nil_append]
    rw [hx] at g4
    exact g4.app h3
  · rename_i h1
    rcases hT : rdN b k1 e1 with ⟨s, k2, e2⟩
    rw [hT] at h
    simp only [Prod.mk.injEq] at h
    obtain ⟨rfl, rfl, rfl⟩ := h
    obtain ⟨rfl, hb, h3⟩ := rdN_inv hT
    obtain ⟨he, x, g1, _, g3, g4⟩ := rdK_inv hk hK
    have hx : x = 0 := u8_of_nat (n := 0) (by omega)
    refine ⟨he, hb, ?_⟩
    show At b k ([] ++ [0] ++ leb (zig s)) _
    rw [List.nil_append]
    rw [hx] at g4
    exact g4.app h3
theorem rdTm_inv {b : List UInt8} {k e nx : Int} {t : Trm} (hk : e = 0 → 0 ≤ k) (h : rdTm b k e = (t, nx, 0)) (hb : badC b k e = false) : e = 0 ∧ (rightT t = true ∧ okC t.c) ∧ At b k (putT [] t) nx := by
  unfold badC at hb
  rw [h] at hb
  simp only [decide_true, Bool.true_and, Bool.and_eq_false_iff, Bool.not_eq_false', decide_eq_true_eq, Bool.or_eq_false_iff, decide_eq_false_iff_not, Bool.not_eq_eq_eq_not, Bool.not_false] at hb
  unfold rdTm at h
  rcases hK : rdK b 2 k e with ⟨q, k1, e1⟩
  rw [hK] at h
  simp only at h
  have key : e1 = 0 → e = 0 ∧ ∃ x : UInt8, q = x.toNat ∧ x = b.getD k.toNat 0 ∧ q ≤ 2 ∧ At b k [x] k1 := fun he => by subst he; exact rdK_inv hk hK
  split at h
  · rename_i h1
    rcases hT : rdT b k1 e1 with ⟨s, k2, e2⟩
    rw [hT] at h
    simp only [Prod.mk.injEq] at h
    obtain ⟨rfl, rfl, rfl⟩ := h
    obtain ⟨he1, _, h3⟩ := rdT_inv hT
    obtain ⟨he, x, g1, g2, _, g4⟩ := key he1
    have hx : x = 1 := u8_of_nat (n := 1) (by omega)
    rcases hb with hb | hb
    · rw [← g2] at hb; omega
    · refine ⟨he, ⟨hb.1, okC_zC⟩, ?_⟩
      have hs : ¬ s = ⟨#[]⟩ := fun hs => hb.2 (by rw [hs]; rfl)
      unfold putT
      rw [if_neg hb.2, if_neg hs]
      show At b k (putTx ([] ++ [1]) s) _
      rw [putTx_app, List.nil_append]
      rw [hx] at g4
      exact g4.app h3
  · split at h
    · rename_i h1
      rcases hT : rdV b k1 e1 with ⟨c, k2, e2⟩
      rw [hT] at h
      simp only [Prod.mk.injEq] at h
      obtain ⟨rfl, rfl, rfl⟩ := h
      have hk1 : e1 = 0 → 0 ≤ k1 := fun he => by
        obtain ⟨_, x, _, _, _, g4⟩ := key he
        have := g4.bd; omega
      obtain ⟨he1, ho, h3⟩ := rdV_inv hk1 hT
      obtain ⟨he, x, g1, g2, _, g4⟩ := key he1
      have hx : x = 2 := u8_of_nat (n := 2) (by omega)
      rcases hb with hb | hb
      · rw [← g2] at hb; omega
      · refine ⟨he, ⟨hb.1, ho⟩, ?_⟩
        unfold putT
        rw [if_neg hb.2, if_pos rfl]
        show At b k (putC ([] ++ [2]) c) _
        rw [putC_app, List.nil_append]
        rw [hx] at g4
        exact g4.app h3
    · rename_i h1 h2
      simp only [Prod.mk.injEq] at h
      obtain ⟨rfl, rfl, rfl⟩ := h
      obtain ⟨he, x, g1, g2, g3, g4⟩ := key rfl
      have hx : x = 0 := u8_of_nat (n := 0) (by omega)
      refine ⟨he, ⟨rfl, okC_zC⟩, ?_⟩
      unfold putT
      rw [if_pos rfl, List.nil_append]
      rw [hx] at g4
      exact g4
theorem rdOne_inv {b : List UInt8} {k e nx : Int} {o o' : Bool} {t : Trm} (hk : e = 0 → o = false → 0 ≤ k ∧ k ≤ b.length) (h : rdOne (badC b) b k e o = (t, nx, 0, o')) (ho : o' = false) : e = 0 ∧ o = false ∧ (rightT t = true ∧ okC t.c) ∧ At b k (putT [] t) nx := by
  unfold rdOne at h
  simp only [Prod.mk.injEq] at h
  obtain ⟨h1, h2, h3, h4⟩ := h
  rw [ho, Bool.or_eq_false_iff] at h4
  obtain ⟨g1, g2, g3⟩ := rdTm_inv (t := t) (nx := nx) (fun he => (hk he h4.1).1) (by rw [← h1, ← h2]; exact Prod.ext rfl (Prod.ext rfl h3)) h4.2
  exact ⟨g1, h4.1, g2, g3⟩
theorem rdG_inv {α : Type} {w : List UInt8 → α → List UInt8} {one : Int → Int → Bool → α × Int × Int × Bool} {P : α → Prop} {b : List UInt8} (hw : ∀ b a, w b a = b ++ w [] a)
    (H : ∀ (k e : Int) (o : Bool) (a : α) (nx : Int) (o' : Bool), (e = 0 → o = false → 0 ≤ k ∧ k ≤ b.length) → one k e o = (a, nx, 0, o') → o' = false → e = 0 ∧ o = false ∧ P a ∧ At b k (w [] a) nx) :
    ∀ (n : Nat) (k e : Int) (o : Bool) (l : List α) (nx : Int) (o' : Bool), (e = 0 → o = false → 0 ≤ k ∧ k ≤ b.length) → rdG one n k e o = (l, nx, 0, o') → o' = false → e = 0 ∧ o = false ∧ l.length = n ∧ (∀ a ∈ l, P a) ∧ At b k (l.foldl w []) nx
  | 0, k, e, o, l, nx, o', hk, h, ho => by
    rw [rdG] at h
    simp only [Prod.mk.injEq] at h
    obtain ⟨rfl, rfl, rfl, rfl⟩ := h
    exact ⟨rfl, ho, rfl, by simp, At.nil (hk rfl ho).1 (hk rfl ho).2⟩
  | n + 1, k, e, o, l, nx, o', hk, h, ho => by
    rw [rdG] at h
    split at h
    · rename_i he
      rcases h1 : one k e o with ⟨a, k1, e1, o1⟩
      rw [h1] at h
      simp only at h
      rcases h2 : rdG one n k1 e1 o1 with ⟨l2, k2, e2, o2⟩
      rw [h2] at h
      simp only [Prod.mk.injEq] at h
      obtain ⟨rfl, rfl, rfl, rfl⟩ := h
      have hk1 : e1 = 0 → o1 = false → 0 ≤ k1 ∧ k1 ≤ b.length := fun h3 h4 => by
        subst h3
        have := (H k e o a k1 o1 hk h1 h4).2.2.2.bd
        omega
      obtain ⟨r1, r2, r3, r4, r5⟩ := rdG_inv hw H n k1 e1 o1 l2 k2 o2 hk1 h2 ho
      subst r1
      obtain ⟨g1, g2, g3, g4⟩ := H k e o a k1 o1 hk h1 r2
      refine ⟨g1, g2, by rw [List.length_cons, r3], ?_, ?_⟩
      · intro x hx
        simp only [List.mem_cons] at hx
        rcases hx with rfl | hx
        · exact g3
        · exact r4 x hx
      · rw [fold_cons hw]
        exact g4.app r5
    · rename_i he
      simp only [Prod.mk.injEq] at h
      exact absurd h.2.2.1 he
theorem many_G {β : Int → Int → Bool} {b : List UInt8} : ∀ n k e o, rdMany β b n k e o = rdG (rdOne β b) n k e o
  | 0, k, e, o => rfl
  | n + 1, k, e, o => by
    rw [rdMany, rdG]
    simp only [rdOne, many_G n]
theorem rdTms_inv {b : List UInt8} {k e nx : Int} {o o' : Bool} {l : List Trm} (h : rdTms (badC b) b k e o = (l, nx, 0, o')) (ho : o' = false) :
    e = 0 ∧ o = false ∧ (l.length ≤ 48 ∧ ∀ t ∈ l, rightT t = true ∧ okC t.c) ∧ At b k (leb (zig (l.length : Int)) ++ l.foldl putT []) nx := by
  unfold rdTms at h
  rcases hC : rdC b 48 k e with ⟨n, k1, e1⟩
  rw [hC, many_G] at h
  simp only at h
  have hk1 : e1 = 0 → o = false → 0 ≤ k1 ∧ k1 ≤ b.length := fun he _ => by
    subst he
    have := (rdC_inv hC).2.2.bd; omega
  obtain ⟨g1, g2, g3, g4, g5⟩ := rdG_inv (P := fun t => rightT t = true ∧ okC t.c) putT_app (fun k e o a nx o' hk h1 h2 => rdOne_inv hk h1 h2) n.toNat k1 e1 o l nx o' hk1 h ho
  subst g1
  obtain ⟨c1, c2, c3⟩ := rdC_inv hC
  have hn : n = (l.length : Int) := by omega
  rw [hn] at c3
  exact ⟨c1, g2, ⟨by omega, g4⟩, c3.app g5⟩
theorem right_all {l : List Trm} (h1 : l.length ≤ 48) (h2 : ∀ t ∈ l, rightT t = true ∧ okC t.c) : rightL l = true ∧ okTs l := by
  refine ⟨?_, fun t ht => (h2 t ht).2⟩
  simp only [rightL, Bool.and_eq_true, decide_eq_true_eq, List.all_eq_true]
  exact ⟨h1, fun t ht => (h2 t ht).1⟩
theorem rdLit_inv {b : List UInt8} {k e nx : Int} {o o' : Bool} {x : Lit} (hk : e = 0 → o = false → 0 ≤ k ∧ k ≤ b.length) (h : rdLit (badC b) b k e o = (x, nx, 0, o')) (ho : o' = false) : e = 0 ∧ o = false ∧ okI x ∧ At b k (putLt [] x) nx := by
  simp only [rdLit, thn, tx4] at h
  rcases h1 : rdOne (badC b) b k e o with ⟨t1, k1, e1, o1⟩
  rw [h1] at h; dsimp only at h
  rcases h2 : rdT b k1 e1 with ⟨p, k2, e2⟩
  rw [h2] at h; dsimp only at h
  rcases h3 : rdTms (badC b) b k2 e2 o1 with ⟨l, k3, e3, o3⟩
  rw [h3] at h; dsimp only at h
  rcases h4 : rdOne (badC b) b k3 e3 o3 with ⟨t2, k4, e4, o4⟩
  rw [h4] at h; dsimp only at h
  simp only [Prod.mk.injEq] at h
  obtain ⟨rfl, rfl, rfl, rfl⟩ := h
  have b3 : e3 = 0 → o3 = false → 0 ≤ k3 ∧ k3 ≤ b.length := fun he hh => by
    subst he
    have := (rdTms_inv h3 hh).2.2.2.bd; omega
  obtain ⟨d1, d2, d3, d4⟩ := rdOne_inv b3 h4 ho
  subst d1
  obtain ⟨c1, c2, c3, c4⟩ := rdTms_inv h3 d2
  subst c1
  obtain ⟨a1, _, a3⟩ := rdT_inv h2
  subst a1
  obtain ⟨z1, z2, z3, z4⟩ := rdOne_inv hk h1 c2
  have hl := right_all c3.1 c3.2
  refine ⟨z1, z2, ⟨z3.2, hl.2, d3.2⟩, ?_⟩
  rw [putLt_W, List.nil_append, WL]
  exact z4.app (a3.app (c4.app d4))
theorem rdRul_inv {b : List UInt8} {k e nx : Int} {o o' : Bool} {r : Rul} (hk : e = 0 → o = false → 0 ≤ k ∧ k ≤ b.length) (h : rdRul (badC b) b k e o = (r, nx, 0, o')) (ho : o' = false) : e = 0 ∧ o = false ∧ okRl r ∧ At b k (putR [] r) nx := by
  simp only [rdRul, thn, tx4, ct4] at h
  rcases h1 : rdOne (badC b) b k e o with ⟨t1, k1, e1, o1⟩
  rw [h1] at h; dsimp only at h
  rcases h2 : rdT b k1 e1 with ⟨p, k2, e2⟩
  rw [h2] at h; dsimp only at h
  rcases h3 : rdTms (badC b) b k2 e2 o1 with ⟨l, k3, e3, o3⟩
  rw [h3] at h; dsimp only at h
  rcases h4 : rdOne (badC b) b k3 e3 o3 with ⟨t2, k4, e4, o4⟩
  rw [h4] at h; dsimp only at h
  rcases h5 : rdC b 5 k4 e4 with ⟨n, k5, e5⟩
  rw [h5] at h; dsimp only at h
  rcases h6 : rdG (rdLit (badC b) b) n.toNat k5 e5 o4 with ⟨m, k6, e6, o6⟩
  rw [h6] at h; dsimp only at h
  simp only [Prod.mk.injEq] at h
  obtain ⟨rfl, rfl, rfl, rfl⟩ := h
  have b5 : e5 = 0 → o4 = false → 0 ≤ k5 ∧ k5 ≤ b.length := fun he hh => by
    subst he
    have := (rdC_inv h5).2.2.bd; omega
  obtain ⟨f1, f2, f3, f4, f5⟩ := rdG_inv (P := okI) putLt_app (fun k e o a nx o' hk h1 h2 => rdLit_inv hk h1 h2) n.toNat k5 e5 o4 m k6 o6 b5 h6 ho
  subst f1
  obtain ⟨g1, g2, g3⟩ := rdC_inv h5
  subst g1
  have hn : n = (m.length : Int) := by omega
  rw [hn] at g3
  have b3 : e3 = 0 → o3 = false → 0 ≤ k3 ∧ k3 ≤ b.length := fun he hh => by
    subst he
    have := (rdTms_inv h3 hh).2.2.2.bd; omega
  obtain ⟨d1, d2, d3, d4⟩ := rdOne_inv b3 h4 f2
  subst d1
  obtain ⟨c1, c2, c3, c4⟩ := rdTms_inv h3 d2
  subst c1
  obtain ⟨a1, _, a3⟩ := rdT_inv h2
  subst a1
  obtain ⟨z1, z2, z3, z4⟩ := rdOne_inv hk h1 c2
  have hl := right_all c3.1 c3.2
  refine ⟨z1, z2, ⟨z3.2, hl.2, d3.2, f4⟩, ?_⟩
  rw [putR_W, List.nil_append, WR]
  exact z4.app (a3.app (c4.app (d4.app (g3.app f5))))
theorem rdF_inv {b : List UInt8} {k nx : Int} {f : Fct} (h : rdF b k = (f, nx, 0)) : chkF f = true ∧ okF f ∧ At b k (WF f) nx := by
  unfold rdF at h
  split at h
  · rename_i h0
    split at h
    · rename_i hc
      simp only [Prod.mk.injEq] at h
      obtain ⟨g1, g2, _⟩ := h
      rw [g1] at hc
      have hR : rdF0 b k = (f, nx, 0, (rdF0 b k).2.2.2) := by rw [← g1, ← g2]; exact Prod.ext rfl (Prod.ext rfl (Prod.ext h0 rfl))
      clear h0 g1 g2
      generalize ho : (rdF0 b k).2.2.2 = o' at hR
      clear ho
      simp only [rdF0, thn, tx4, ct4] at hR
      rcases h1 : rdT b k 0 with ⟨s1, k1, e1⟩
      rw [h1] at hR; dsimp only at hR
      rcases h2 : rdT b k1 e1 with ⟨s2, k2, e2⟩
      rw [h2] at hR; dsimp only at hR
      rcases h3 : rdT b k2 e2 with ⟨s3, k3, e3⟩
      rw [h3] at hR; dsimp only at hR
      rcases h5 : rdC b 48 k3 e3 with ⟨n, k5, e5⟩
      rw [h5] at hR; dsimp only at hR
      rcases h6 : rdG (cv4 b) n.toNat k5 e5 false with ⟨m, k6, e6, o6⟩
      rw [h6] at hR; dsimp only at hR
      simp only [Prod.mk.injEq] at hR
      obtain ⟨rfl, rfl, rfl, rfl⟩ := hR
      have b5 : e5 = 0 → false = false → 0 ≤ k5 ∧ k5 ≤ b.length := fun he _ => by
        subst he
        have := (rdC_inv h5).2.2.bd; omega
      have hcv : ∀ (k e : Int) (o : Bool) (a : Cst) (nx : Int) (o' : Bool), (e = 0 → o = false → 0 ≤ k ∧ k ≤ b.length) → cv4 b k e o = (a, nx, 0, o') → o' = false → e = 0 ∧ o = false ∧ okC a ∧ At b k (putC [] a) nx := by
        intro k e o a nx o' hk h1 h2
        unfold cv4 at h1
        simp only [Prod.mk.injEq] at h1
        obtain ⟨r1, r2, r3, r4⟩ := h1
        have ho : o = false := by rw [r4, h2]
        obtain ⟨g1, g2, g3⟩ := rdV_inv (c := a) (nx := nx) (fun he => (hk he ho).1) (by rw [← r1, ← r2]; exact Prod.ext rfl (Prod.ext rfl r3))
        exact ⟨g1, ho, g2, g3⟩
      have ho6 : o6 = false := by
        have : ∀ n k e o, (rdG (cv4 b) n k e o).2.2.2 = o := by
          intro n
          induction n with
          | zero => intro k e o; rfl
          | succ n ih =>
            intro k e o
            rw [rdG]
            split
            · simp only [cv4, ih]
            · rfl
        have h7 := this n.toNat k5 e5 false
        rw [h6] at h7
        exact h7
      obtain ⟨f1, f2, f3, f4, f5⟩ := rdG_inv (P := okC) putC_app hcv n.toNat k5 e5 false m k6 o6 b5 h6 ho6
      subst f1
      obtain ⟨g1, g2, g3⟩ := rdC_inv h5
      subst g1
      have hn : n = (m.length : Int) := by omega
      rw [hn] at g3
      obtain ⟨a1, _, a3⟩ := rdT_inv h3
      subst a1
      obtain ⟨c1, _, c3⟩ := rdT_inv h2
      subst c1
      obtain ⟨_, _, d3⟩ := rdT_inv h1
      exact ⟨hc, f4, d3.app (c3.app (a3.app (g3.app f5)))⟩
    · simp at h
  · rename_i h0
    simp only [Prod.mk.injEq] at h
    exact absurd h.2.2 h0
theorem lk_right {R : Rul × Int × Int × Bool} (h : lkR R = 0) : rightR R.1 = true := by
  unfold lkR at h
  split at h
  · cases h
  · rename_i hh
    cases hr : rightR R.1 with
    | true => rfl
    | false => exact absurd ⟨h, .inr hr⟩ hh
theorem dcG_inv {b : List UInt8} : ∀ (n : Nat) (k e : Int) (o : Bool) (l : List Rul) (nx : Int) (o' : Bool), (e = 0 → 0 ≤ k ∧ k ≤ b.length) → rdG (dcC b) n k e o = (l, nx, 0, o') →
    e = 0 ∧ l.length = n ∧ (∀ r ∈ l, rightR r = true ∧ okRl r) ∧ At b k (l.foldl putR []) nx
  | 0, k, e, o, l, nx, o', hk, h => by
    rw [rdG] at h
    simp only [Prod.mk.injEq] at h
    obtain ⟨rfl, rfl, rfl, rfl⟩ := h
    exact ⟨rfl, rfl, by simp, At.nil (hk rfl).1 (hk rfl).2⟩
  | n + 1, k, e, o, l, nx, o', hk, h => by
    rw [rdG] at h
    split at h
    · rename_i he
      simp only [dcC] at h
      rcases hR : rdRul (badC b) b k e false with ⟨r, k1, e1, o1⟩
      rw [hR] at h
      dsimp only at h
      have hz := lk_zero (R := (r, k1, e1, o1))
      have hz2 := lk_right (R := (r, k1, e1, o1))
      generalize lkR (r, k1, e1, o1) = e3 at *
      dsimp only at hz hz2
      rcases h2 : rdG (dcC b) n k1 e3 false with ⟨l2, k2, e2, o2⟩
      rw [h2] at h
      simp only [Prod.mk.injEq] at h
      obtain ⟨rfl, rfl, rfl, rfl⟩ := h
      have hk1 : e3 = 0 → 0 ≤ k1 ∧ k1 ≤ b.length := fun h3 => by
        obtain ⟨g1, g2⟩ := hz h3
        subst g1
        have := (rdRul_inv (fun h _ => hk h) hR g2).2.2.2.bd
        omega
      obtain ⟨r1, r3, r4, r5⟩ := dcG_inv n k1 e3 false l2 k2 o2 hk1 h2
      obtain ⟨g1, g2⟩ := hz r1
      have g3 := hz2 r1
      subst g1
      obtain ⟨q1, _, q3, q4⟩ := rdRul_inv (fun h _ => hk h) hR g2
      refine ⟨q1, by rw [List.length_cons, r3], ?_, ?_⟩
      · intro x hx
        simp only [List.mem_cons] at hx
        rcases hx with rfl | hx
        · exact ⟨g3, q3⟩
        · exact r4 x hx
      · rw [fold_cons putR_app]
        exact q4.app r5
    · rename_i he
      simp only [Prod.mk.injEq] at h
      exact absurd h.2.2.1 he
theorem dec_inv {b : List UInt8} {l : List Rul} (h : decE b (dec0 (dcC b) b) = (l, 0)) : l.length ≤ 768 ∧ (∀ r ∈ l, rightR r = true ∧ okRl r) ∧ b = leb (zig (l.length : Int)) ++ l.foldl putR [] := by
  unfold decE at h
  split at h
  · rename_i h0
    split at h
    · simp at h
    · rename_i h1
      simp only [Prod.mk.injEq] at h
      have hl := h.1
      rcases hC : rdC b 768 0 0 with ⟨n, k1, e1⟩
      unfold dec0 at h0 h1 hl
      rw [hC] at h0 h1 hl
      simp only at h0 h1 hl
      rcases hG : rdG (dcC b) n.toNat k1 e1 false with ⟨l2, nx, e2, o2⟩
      rw [hG] at h0 h1 hl
      simp only at h0 h1 hl
      subst h0 hl
      have hk1 : e1 = 0 → 0 ≤ k1 ∧ k1 ≤ b.length := fun he => by
        subst he
        have := (rdC_inv hC).2.2.bd; omega
      obtain ⟨r1, r3, r4, r5⟩ := dcG_inv n.toNat k1 e1 false l2 nx o2 hk1 hG
      subst r1
      obtain ⟨_, c2, c3⟩ := rdC_inv hC
      have hn : n = (l2.length : Int) := by omega
      rw [hn] at c3
      have hA := c3.app r5
      refine ⟨by omega, r4, ?_⟩
      obtain ⟨kn, a1, a2, a3, a4⟩ := hA
      have hkn : kn = 0 := by omega
      subst hkn
      rw [List.drop_zero] at a4
      rw [← a4, List.take_of_length_le]
      rw [List.length_append] at a2 a3 ⊢
      omega
  · rename_i h0
    simp only [Prod.mk.injEq] at h
    exact absurd h.2 h0
end Go.Proofs.Ytdbicadncccpoaa
