/- Parts of the proof: Pkt, Dig, MItem. -/
import Derived.Test.YtdbicadncccpoaaDoorCJ10
import Derived.Test.YtdbicadncccpoaaDoorCJ0
import Derived.Test.YtdbicadncccpoaaDoorCJ6
set_option linter.unusedVariables false
set_option linter.unusedSimpArgs false
set_option maxRecDepth 100000
namespace Go.Proofs.YtdbicadncccpoaaDoor
open Go Go.ChangeShapes Go.WideShapes
/-! Packets: what is laid and what is read, with no program in sight. -/
structure Pkt where
  fr : ByteArray
  to : ByteArray
  sq : Int
  ak : Int
  kd : Int
  ep : Int
  f : Fct
  tg : List UInt8
deriving DecidableEq
def tg0 : List UInt8 := List.replicate 32 0
def zP : Pkt := ⟨⟨#[]⟩, ⟨#[]⟩, 0, 0, 0, 0, zF, tg0⟩
def noF (f : Fct) : Bool := decide (f.a = ⟨#[]⟩) && (decide (f.b = ⟨#[]⟩) && (decide (f.p = ⟨#[]⟩) && decide (f.l.length = 0)))
def blankP (p : Pkt) : Bool := noF p.f && decide (p.tg = tg0)
def epB (n : Int) : Bool := decide (0 ≤ n) && decide (n ≤ 1073741824)
def itemB (p : Pkt) : Bool :=
  if p.kd = 0 then blankP p && decide (p.ep = 0)
  else if p.kd = 1 ∨ p.kd = 3 ∨ p.kd = 4 then blankP p && epB p.ep
  else if p.kd = 2 then epB p.ep && chkF p.f
  else false
def mayB (p : Pkt) : Bool := txtOK p.fr && (txtOK p.to && (decide (0 ≤ p.sq) && (decide (0 ≤ p.ak) && (itemB p && decide (p.sq = 0 ↔ p.kd = 0)))))
def WP (p : Pkt) : List UInt8 := putTx [] p.fr ++ (putTx [] p.to ++ (leb (zig p.sq) ++ (leb (zig p.ak) ++ (leb (zig p.kd) ++ (if p.kd = 0 then [] else leb (zig p.ep) ++ (if p.kd = 2 then WF p.f ++ p.tg else []))))))
/-- As the program lays it. -/
def putP (p : Pkt) : List UInt8 :=
  if p.kd = 0 then putI (putI (putI (putTx (putTx [] p.fr) p.to) p.sq) p.ak) p.kd
  else if p.kd = 2 then putF (putI (putI (putI (putI (putTx (putTx [] p.fr) p.to) p.sq) p.ak) p.kd) p.ep) p.f ++ p.tg
  else putI (putI (putI (putI (putTx (putTx [] p.fr) p.to) p.sq) p.ak) p.kd) p.ep
theorem putP_W (p : Pkt) : putP p = WP p := by
  unfold putP WP
  rw [putTx_app (putTx [] p.fr) p.to]
  split
  · simp [putI, List.append_assoc]
  · split
    · rw [putF_app]; simp [putI, List.append_assoc]
    · simp [putI, List.append_assoc]
theorem noF_iff (f : Fct) : noF f = true ↔ f = zF := by
  obtain ⟨a, b, c, l⟩ := f
  simp only [noF, zF, Bool.and_eq_true, decide_eq_true_eq, Fct.mk.injEq, List.length_eq_zero_iff]
theorem blank_iff (p : Pkt) : blankP p = true ↔ p.f = zF ∧ p.tg = tg0 := by
  rw [blankP, Bool.and_eq_true, noF_iff, decide_eq_true_eq]
/-- May be a packet: of what a program can hold. -/
def okP (p : Pkt) : Prop := (-9223372036854775808 ≤ p.sq ∧ p.sq ≤ 9223372036854775807) ∧ (-9223372036854775808 ≤ p.ak ∧ p.ak ≤ 9223372036854775807) ∧ (-9223372036854775808 ≤ p.kd ∧ p.kd ≤ 9223372036854775807) ∧ (-9223372036854775808 ≤ p.ep ∧ p.ep ≤ 9223372036854775807) ∧ okF p.f ∧ p.tg.length = 32
theorem eta3 {α : Type} {t : α × Int × Int} (h : t.2.2 = 0) : t = (t.1, t.2.1, 0) := Prod.ext rfl (Prod.ext rfl h)
theorem txt_At {b : List UInt8} {k nx : Int} {s : ByteArray} (h : txt b k = (s, nx, 0)) : s.size ≤ 65536 ∧ At b k (putTx [] s) nx := by
  obtain ⟨kn, g1, g2, g3, g4, g5⟩ := txt_inv b k s nx h
  exact ⟨g5, kn, g1, g2, g3, g4⟩
theorem int_At {b : List UInt8} {k nx n : Int} (h : rdInt b k = (n, nx, 0)) : (-9223372036854775808 ≤ n ∧ n ≤ 9223372036854775807) ∧ At b k (leb (zig n)) nx := by
  have hb := rdInt_bd b k
  obtain ⟨kn, g1, g2, g3, g4⟩ := rdInt_inv b k n nx h
  rw [h] at hb
  exact ⟨hb.1, kn, g1, g2, g3, g4⟩
theorem txt_put_At {b : List UInt8} {k nx : Int} {s : ByteArray} (hs : s.size ≤ 65536) (h : At b k (putTx [] s) nx) : txt b k = (s, nx, 0) := by
  have h1 := rdT_at hs h
  unfold rdT at h1
  rw [if_pos rfl] at h1
  split at h1
  · rename_i h2
    rw [← h1]; exact eta3 h2
  · rename_i h2
    simp only [Prod.mk.injEq] at h1
    exact absurd h1.2.2 h2
theorem int_put_At {b : List UInt8} {k nx n : Int} (h0 : -9223372036854775808 ≤ n) (h1 : n ≤ 9223372036854775807) (h : At b k (leb (zig n)) nx) : rdInt b k = (n, nx, 0) := by
  have h2 := rdN_at h0 h1 h
  unfold rdN at h2
  rw [if_pos rfl] at h2
  split at h2
  · rename_i h3
    rw [← h2]; exact eta3 h3
  · rename_i h3
    simp only [Prod.mk.injEq] at h2
    exact absurd h2.2.2 h3
def getC (b : List UInt8) : Option (Pkt × Int) :=
  if (txt b 0).2.2 = 0 ∧ (txt b (txt b 0).2.1).2.2 = 0 ∧ (rdInt b (txt b (txt b 0).2.1).2.1).2.2 = 0 ∧ (rdInt b (rdInt b (txt b (txt b 0).2.1).2.1).2.1).2.2 = 0 ∧ (rdInt b (rdInt b (rdInt b (txt b (txt b 0).2.1).2.1).2.1).2.1).2.2 = 0 then
    getK b (txt b 0).1 (txt b (txt b 0).2.1).1 (rdInt b (txt b (txt b 0).2.1).2.1).1 (rdInt b (rdInt b (txt b (txt b 0).2.1).2.1).2.1).1 (rdInt b (rdInt b (rdInt b (txt b (txt b 0).2.1).2.1).2.1).2.1).1 (rdInt b (rdInt b (rdInt b (txt b (txt b 0).2.1).2.1).2.1).2.1).2.1
  else none
where
  getK (b : List UInt8) (s1 s2 : ByteArray) (n1 n2 n3 k : Int) : Option (Pkt × Int) :=
    if n3 = 0 then some (⟨s1, s2, n1, n2, 0, 0, zF, tg0⟩, k)
    else if (rdInt b k).2.2 = 0 then
      if n3 = 2 then
        if (rdF b (rdInt b k).2.1).2.2 = 0 ∧ (rdF b (rdInt b k).2.1).2.1 + 32 ≤ b.length then some (⟨s1, s2, n1, n2, n3, (rdInt b k).1, (rdF b (rdInt b k).2.1).1, (b.drop (rdF b (rdInt b k).2.1).2.1.toNat).take 32⟩, (rdF b (rdInt b k).2.1).2.1 + 32) else none
      else some (⟨s1, s2, n1, n2, n3, (rdInt b k).1, zF, tg0⟩, (rdInt b k).2.1)
    else none
theorem getK_at {b : List UInt8} {s1 s2 : ByteArray} {n1 n2 n3 k nx : Int} {p : Pkt} (hk : 0 ≤ k ∧ k ≤ b.length) (h : getC.getK b s1 s2 n1 n2 n3 k = some (p, nx)) :
    (p.fr = s1 ∧ p.to = s2 ∧ p.sq = n1 ∧ p.ak = n2 ∧ p.kd = n3) ∧ (-9223372036854775808 ≤ p.ep ∧ p.ep ≤ 9223372036854775807) ∧ okF p.f ∧ p.tg.length = 32 ∧ At b k (if p.kd = 0 then [] else leb (zig p.ep) ++ (if p.kd = 2 then WF p.f ++ p.tg else [])) nx := by
  unfold getC.getK at h
  split at h
  · rename_i h3
    subst h3
    simp only [Option.some.injEq, Prod.mk.injEq] at h
    obtain ⟨rfl, rfl⟩ := h
    exact ⟨⟨rfl, rfl, rfl, rfl, rfl⟩, by simp only; decide, by simp [zF, okF], by simp [tg0], At.nil hk.1 hk.2⟩
  · rename_i h3
    split at h
    · rename_i h4
      obtain ⟨i1, i2⟩ := int_At (eta3 h4)
      split at h
      · rename_i h5
        split at h
        · rename_i h6
          simp only [Option.some.injEq, Prod.mk.injEq] at h
          obtain ⟨rfl, rfl⟩ := h
          obtain ⟨_, f2, f3⟩ := rdF_inv (eta3 h6.1)
          have hb := f3.bd
          refine ⟨⟨rfl, rfl, rfl, rfl, rfl⟩, i1, f2, by simp only [List.length_take, List.length_drop]; omega, ?_⟩
          simp only [if_neg h3, if_pos h5]
          refine i2.app (f3.app ⟨(rdF b (rdInt b k).2.1).2.1.toNat, by omega, ?_, ?_, ?_⟩)
          · simp only [List.length_take, List.length_drop]; omega
          · simp only [List.length_take, List.length_drop]; omega
          · simp only [List.length_take, List.length_drop]; rw [List.take_eq_take_iff]; simp only [List.length_drop]; omega
        · simp at h
      · rename_i h5
        simp only [Option.some.injEq, Prod.mk.injEq] at h
        obtain ⟨rfl, rfl⟩ := h
        refine ⟨⟨rfl, rfl, rfl, rfl, rfl⟩, i1, by simp [zF, okF], by simp [tg0], ?_⟩
        simp only [if_neg h3, if_neg h5, List.append_nil]
        exact i2
    · simp at h
theorem getC_at {b : List UInt8} {p : Pkt} {nx : Int} (h : getC b = some (p, nx)) : okP p ∧ p.fr.size ≤ 65536 ∧ p.to.size ≤ 65536 ∧ At b 0 (WP p) nx := by
  unfold getC at h
  split at h
  · rename_i h0
    obtain ⟨e1, e2, e3, e4, e5⟩ := h0
    obtain ⟨a1, a2⟩ := txt_At (eta3 e1)
    obtain ⟨b1, b2⟩ := txt_At (eta3 e2)
    obtain ⟨c1, c2⟩ := int_At (eta3 e3)
    obtain ⟨d1, d2⟩ := int_At (eta3 e4)
    obtain ⟨f1, f2⟩ := int_At (eta3 e5)
    have hb := f2.bd
    obtain ⟨⟨g1, g2, g3, g4, g5⟩, g6, g7, g8, g9⟩ := getK_at (by omega) h
    rw [← g1] at a1 a2
    rw [← g2] at b1 b2
    rw [← g3] at c1 c2
    rw [← g4] at d1 d2
    rw [← g5] at f1 f2
    exact ⟨⟨c1, d1, f1, g6, g7, g8⟩, a1, b1, a2.app (b2.app (c2.app (d2.app (f2.app g9))))⟩
  · simp at h
def getP (b : List UInt8) : Pkt × Int := match getC b with
  | some (p, k) => if k = b.length ∧ mayB p = true then (p, 0) else (zP, 11)
  | none => (zP, 11)
/-- What is read was laid so: the document's own test is the program's. -/
theorem getC_all {b : List UInt8} {p : Pkt} {nx : Int} (h : getC b = some (p, nx)) : nx = b.length ↔ WP p = b := by
  obtain ⟨_, _, _, kn, h1, h2, h3, h4⟩ := getC_at h
  have hk : kn = 0 := by omega
  subst hk
  rw [List.drop_zero] at h4
  constructor
  · intro hn
    rw [← h4, List.take_of_length_le (by omega)]
  · intro hn
    rw [h2, hn]; simp
/-- What may be: of its kind 0 and of the kinds without a fact nothing else is. -/
theorem may_parts {p : Pkt} (h : mayB p = true) : (txtOK p.fr = true ∧ txtOK p.to = true ∧ 0 ≤ p.sq ∧ 0 ≤ p.ak ∧ (p.sq = 0 ↔ p.kd = 0)) ∧ (p.kd = 0 → p.ep = 0) ∧ (p.kd ≠ 2 → p.f = zF ∧ p.tg = tg0) ∧ (p.kd = 2 → chkF p.f = true) := by
  simp only [mayB, Bool.and_eq_true, decide_eq_true_eq] at h
  obtain ⟨h1, h2, h3, h4, h5, h6⟩ := h
  refine ⟨⟨h1, h2, h3, h4, h6⟩, ?_⟩
  unfold itemB at h5
  split at h5
  · rename_i h0
    rw [Bool.and_eq_true, blank_iff, decide_eq_true_eq] at h5
    exact ⟨fun _ => h5.2, fun _ => h5.1, fun h => by omega⟩
  · rename_i h0
    split at h5
    · rename_i h7
      rw [Bool.and_eq_true, blank_iff] at h5
      exact ⟨fun h => absurd h h0, fun _ => h5.1, fun h => by omega⟩
    · split at h5
      · rename_i h7
        rw [Bool.and_eq_true] at h5
        exact ⟨fun h => absurd h h0, fun h => absurd h7 h, fun _ => h5.2⟩
      · cases h5
theorem txtOK_size {s : ByteArray} (h : txtOK s = true) : s.size ≤ 65536 := by
  simp only [txtOK, Bool.and_eq_true, decide_eq_true_eq] at h; omega
theorem getC_put {b : List UInt8} {p : Pkt} {nx : Int} (hm : mayB p = true) (ho : okP p) (h : At b 0 (WP p) nx) : getC b = some (p, nx) := by
  obtain ⟨⟨m1, m2, _⟩, m3, m4, m5⟩ := may_parts hm
  obtain ⟨o1, o2, o3, o4, o5, o6⟩ := ho
  obtain ⟨k1, a1, h⟩ := h.split
  obtain ⟨k2, a2, h⟩ := h.split
  obtain ⟨k3, a3, h⟩ := h.split
  obtain ⟨k4, a4, h⟩ := h.split
  obtain ⟨k5, a5, h⟩ := h.split
  unfold getC
  rw [txt_put_At (txtOK_size m1) a1]
  dsimp only
  rw [txt_put_At (txtOK_size m2) a2]
  dsimp only
  rw [int_put_At o1.1 o1.2 a3]
  dsimp only
  rw [int_put_At o2.1 o2.2 a4]
  dsimp only
  rw [int_put_At o3.1 o3.2 a5]
  dsimp only
  rw [if_pos ⟨rfl, rfl, rfl, rfl, rfl⟩]
  obtain ⟨fr, to, sq, ak, kd, ep, f, tg⟩ := p
  simp only at h m3 m4 m5 o4 o5 o6 ⊢
  unfold getC.getK
  by_cases c0 : kd = 0
  · rw [if_pos c0]
    rw [if_pos c0] at h
    have := h.nil_eq
    rw [m3 c0, (m4 (by omega)).1, (m4 (by omega)).2, this.1, c0]
  · rw [if_neg c0]
    rw [if_neg c0] at h
    obtain ⟨k6, a6, h⟩ := h.split
    rw [int_put_At o4.1 o4.2 a6]
    dsimp only
    rw [if_pos rfl]
    by_cases c2 : kd = 2
    · rw [if_pos c2]
      rw [if_pos c2] at h
      obtain ⟨k7, a7, h⟩ := h.split
      rw [rdF_at (m5 c2) o5 a7]
      dsimp only
      obtain ⟨kn, g1, g2, g3, g4⟩ := h
      rw [if_pos ⟨rfl, by omega⟩, g1, Int.toNat_natCast, ← o6, g4, g2, Int.natCast_add, o6]; rfl
    · rw [if_neg c2]
      rw [if_neg c2] at h
      have := h.nil_eq
      rw [(m4 c2).1, (m4 c2).2, this.1]
theorem At.all (b : List UInt8) : At b 0 b (b.length : Int) := ⟨0, rfl, by simp, by simp, by simp⟩
theorem getP_put {p : Pkt} (hm : mayB p = true) (ho : okP p) : getP (WP p) = (p, 0) := by
  unfold getP
  rw [getC_put hm ho (At.all _)]
  simp only [hm, and_self, if_true]
theorem getP_inv {b : List UInt8} (h : (getP b).2 = 0) : mayB (getP b).1 = true ∧ okP (getP b).1 ∧ WP (getP b).1 = b := by
  unfold getP at h ⊢
  rcases hg : getC b with _ | ⟨p, k⟩
  · rw [hg] at h; simp at h
  · rw [hg] at h
    simp only at h ⊢
    by_cases hc : k = b.length ∧ mayB p = true
    · rw [if_pos hc]
      exact ⟨hc.2, (getC_at hg).1, (getC_all hg).1 hc.1⟩
    · rw [if_neg hc] at h; simp at h
theorem WP_inj {p q : Pkt} (hp : mayB p = true) (op : okP p) (hq : mayB q = true) (oq : okP q) : WP p = WP q ↔ p = q := by
  constructor
  · intro h
    have h1 := getP_put hp op
    rw [h, getP_put hq oq] at h1
    exact (congrArg Prod.fst h1).symm
  · rintro rfl; rfl
end Go.Proofs.YtdbicadncccpoaaDoor

set_option linter.unusedVariables false
set_option linter.unusedSimpArgs false
set_option maxRecDepth 100000
namespace Go.Proofs.YtdbicadncccpoaaDoor
open Go Go.ChangeShapes Go.WideShapes
/-! A digest's 32 cells, as they lie in an object of one's own. -/
def tA (l : List UInt8) : List AV := (bD l).map .d
theorem tA_len (l : List UInt8) : (tA l).length = l.length := by simp [tA, bD]
theorem tA_wf (n : Nat) (l : List UInt8) : wfL n (tA l) = true := wfL_map_d n _
theorem tA_allD (l : List UInt8) : allD (tA l) = some (bD l) := allD_map _
theorem tg32 (d : List UInt8) (h : d.length = 32) : d.length = 32 ∧ (bD d).length = 32 ∧ (bD d).take 32 = bD d ∧ (tA d).length = 32 ∧ (tA d).take 32 = tA d ∧ (bD d).map AV.d = tA d := by
  have hb : (tA d).length = 32 := by rw [tA_len, h]
  have hd : (bD d).length = 32 := by rw [bD_length, h]
  exact ⟨h, hd, List.take_of_length_le (by omega), hb, List.take_of_length_le (by omega), rfl⟩
end Go.Proofs.YtdbicadncccpoaaDoor

set_option linter.unusedVariables false
set_option linter.unusedSimpArgs false
set_option maxRecDepth 100000
namespace Go.Proofs.YtdbicadncccpoaaDoor
open Go Go.ChangeShapes Go.WideShapes
def itE (kd ep : Int) (f : Fct) (tg : List UInt8) : List D := [.c (.int .i64 kd), .c (.int .i64 ep), .c (.string f.a), .c (.string f.b), .c (.string f.p), .sl 3 f.l.length (flatE cstE f.l)] ++ bD tg
def pktE (p : Pkt) : List D := [.c (.string p.fr), .c (.string p.to), .c (.int .i64 p.sq), .c (.int .i64 p.ak)] ++ itE p.kd p.ep p.f p.tg
set_option maxHeartbeats 400000 in
theorem mnone_ac (f : Fct) (hf : f.l.length ≤ 140737488352000) : AC Tryd.prog noG 79 [.d (.agg (fctE f))] [] (fun v r' => v = .d (.c (.bool (noF f))) ∧ r' = []) := by
  refine AC.pure ?_ (by rintro v rfl; rfl)
  refine AC_of_R (N := 22) (res := [.tmp 2]) ty_ok Tryd.call79 Tryd.func79 rfl rfl rfl (Nat.le_of_ble_eq_true rfl) ?_
  obtain ⟨a, b, p, l⟩ := f
  by_cases h1 : a = ⟨#[]⟩
  · by_cases h2 : b = ⟨#[]⟩
    · by_cases h3 : p = ⟨#[]⟩
      · by_cases h4 : l.length = 0
        · have g4 : (l.length : Int) = 0 := by omega
          have e : noF ⟨a, b, p, l⟩ = true := by simp [noF, h1, h2, h3, h4]
          rw [e]
          exact rz1 (jn @fctE.eq_1 (jn @h1 (jn @h2 (jn @h3 @g4))))
        · have g4 : ¬ (l.length : Int) = 0 := by omega
          have e : noF ⟨a, b, p, l⟩ = false := by simp [noF, h1, h2, h3, h4]
          rw [e]
          exact rz1 (jn @fctE.eq_1 (jn @h1 (jn @h2 (jn @h3 @g4))))
      · have e : noF ⟨a, b, p, l⟩ = false := by simp [noF, h1, h2, h3]
        rw [e]
        exact rz1 (jn @fctE.eq_1 (jn @h1 (jn @h2 @h3)))
    · have e : noF ⟨a, b, p, l⟩ = false := by simp [noF, h1, h2]
      rw [e]
      exact rz1 (jn @fctE.eq_1 (jn @h1 @h2))
  · have e : noF ⟨a, b, p, l⟩ = false := by simp [noF, h1]
    rw [e]
    exact rz1 (jn @fctE.eq_1 @h1)
theorem tg0_len : tg0.length = 32 := rfl
set_option maxHeartbeats 400000 in
theorem mitem_ac (kd ep : Int) (f : Fct) (tg : List UInt8) (hf : f.l.length ≤ 140737488352000) (ht : tg.length = 32) :
    AC Tryd.prog noG 58 [.d (.agg (itE kd ep f tg))] [] (fun v r' => v = .d (.c (.bool (itemB ⟨⟨#[]⟩, ⟨#[]⟩, 0, 0, kd, ep, f, tg⟩))) ∧ r' = []) := by
  refine AC.pure ?_ (by rintro v rfl; rfl)
  refine AC_of_R (N := 54) (res := [.tmp 2]) ty_ok Tryd.call58 Tryd.func58 rfl rfl rfl (Nat.le_of_ble_eq_true rfl) ?_
  have k1 := mnone_ac f hf
  have k2 := fchk_ac f hf
  obtain ⟨t1, t2, t3, t4, t5, t6⟩ := tg32 tg ht
  simp only [fctE] at k1 k2
  obtain ⟨q, hq⟩ : ∃ q, q = noF f := ⟨_, rfl⟩
  rw [← hq] at k1
  refine rn1 (jn @itE.eq_1 (jn @t1 (jn @t2 (jn @t3 (jn @t4 (jn @t5 @t6)))))) ?_
  refine HO_pureA ty_ok k1 ?_
  have hz : ([UInt8.ofNat 0, UInt8.ofNat 0, UInt8.ofNat 0, UInt8.ofNat 0, UInt8.ofNat 0, UInt8.ofNat 0, UInt8.ofNat 0, UInt8.ofNat 0, UInt8.ofNat 0, UInt8.ofNat 0, UInt8.ofNat 0, UInt8.ofNat 0, UInt8.ofNat 0, UInt8.ofNat 0, UInt8.ofNat 0, UInt8.ofNat 0, UInt8.ofNat 0, UInt8.ofNat 0, UInt8.ofNat 0, UInt8.ofNat 0, UInt8.ofNat 0, UInt8.ofNat 0, UInt8.ofNat 0, UInt8.ofNat 0, UInt8.ofNat 0, UInt8.ofNat 0, UInt8.ofNat 0, UInt8.ofNat 0, UInt8.ofNat 0, UInt8.ofNat 0, UInt8.ofNat 0, UInt8.ofNat 0] : List UInt8) = tg0 := rfl
  cases q with
  | false =>
    have hz2 : True := trivial
    have hbk : ∀ k e, blankP ⟨⟨#[]⟩, ⟨#[]⟩, 0, 0, k, e, f, tg⟩ = false := fun _ _ => by simp [blankP, ← hq]
    by_cases c0 : kd = 0
    · by_cases p0 : ep = 0
      · skip
        first
          | (have e : itemB ⟨⟨#[]⟩, ⟨#[]⟩, 0, 0, kd, ep, f, tg⟩ = true := by simp [itemB, epB, hbk, c0, p0]
             rw [e])
          | (have e : itemB ⟨⟨#[]⟩, ⟨#[]⟩, 0, 0, kd, ep, f, tg⟩ = false := by simp [itemB, epB, hbk, c0, p0]
             rw [e])
        exact rz1 (jn @t1 (jn @t2 (jn @t3 (jn @t4 (jn @t5 (jn @t6 (jn @hz (jn @tA_allD (jn @tg0_len (jn @hz2 (jn @itE.eq_1 (jn @fctE.eq_1 (jn @c0 @p0)))))))))))))
      · skip
        first
          | (have e : itemB ⟨⟨#[]⟩, ⟨#[]⟩, 0, 0, kd, ep, f, tg⟩ = true := by simp [itemB, epB, hbk, c0, p0]
             rw [e])
          | (have e : itemB ⟨⟨#[]⟩, ⟨#[]⟩, 0, 0, kd, ep, f, tg⟩ = false := by simp [itemB, epB, hbk, c0, p0]
             rw [e])
        exact rz1 (jn @t1 (jn @t2 (jn @t3 (jn @t4 (jn @t5 (jn @t6 (jn @hz (jn @tA_allD (jn @tg0_len (jn @hz2 (jn @itE.eq_1 (jn @fctE.eq_1 (jn @c0 @p0)))))))))))))
    by_cases cc : kd = 1
    · skip
      by_cases p0 : 0 ≤ ep
      · by_cases p1 : ep ≤ 1073741824
        · skip
          first
            | (have e : itemB ⟨⟨#[]⟩, ⟨#[]⟩, 0, 0, kd, ep, f, tg⟩ = true := by simp [itemB, epB, hbk, c0, cc, p0, p1]
               rw [e])
            | (have e : itemB ⟨⟨#[]⟩, ⟨#[]⟩, 0, 0, kd, ep, f, tg⟩ = false := by simp [itemB, epB, hbk, c0, cc, p0, p1]
               rw [e])
          exact rz1 (jn @t1 (jn @t2 (jn @t3 (jn @t4 (jn @t5 (jn @t6 (jn @hz (jn @tA_allD (jn @tg0_len (jn @hz2 (jn @itE.eq_1 (jn @fctE.eq_1 (jn @c0 (jn @cc (jn @p0 @p1)))))))))))))))
        · skip
          first
            | (have e : itemB ⟨⟨#[]⟩, ⟨#[]⟩, 0, 0, kd, ep, f, tg⟩ = true := by simp [itemB, epB, hbk, c0, cc, p0, p1]
               rw [e])
            | (have e : itemB ⟨⟨#[]⟩, ⟨#[]⟩, 0, 0, kd, ep, f, tg⟩ = false := by simp [itemB, epB, hbk, c0, cc, p0, p1]
               rw [e])
          exact rz1 (jn @t1 (jn @t2 (jn @t3 (jn @t4 (jn @t5 (jn @t6 (jn @hz (jn @tA_allD (jn @tg0_len (jn @hz2 (jn @itE.eq_1 (jn @fctE.eq_1 (jn @c0 (jn @cc (jn @p0 @p1)))))))))))))))
      · skip
        first
          | (have e : itemB ⟨⟨#[]⟩, ⟨#[]⟩, 0, 0, kd, ep, f, tg⟩ = true := by simp [itemB, epB, hbk, c0, cc, p0, p0]
             rw [e])
          | (have e : itemB ⟨⟨#[]⟩, ⟨#[]⟩, 0, 0, kd, ep, f, tg⟩ = false := by simp [itemB, epB, hbk, c0, cc, p0, p0]
             rw [e])
        exact rz1 (jn @t1 (jn @t2 (jn @t3 (jn @t4 (jn @t5 (jn @t6 (jn @hz (jn @tA_allD (jn @tg0_len (jn @hz2 (jn @itE.eq_1 (jn @fctE.eq_1 (jn @c0 (jn @cc (jn @p0 @p0)))))))))))))))
    by_cases cc : kd = 3
    · skip
      by_cases p0 : 0 ≤ ep
      · by_cases p1 : ep ≤ 1073741824
        · skip
          first
            | (have e : itemB ⟨⟨#[]⟩, ⟨#[]⟩, 0, 0, kd, ep, f, tg⟩ = true := by simp [itemB, epB, hbk, c0, cc, p0, p1]
               rw [e])
            | (have e : itemB ⟨⟨#[]⟩, ⟨#[]⟩, 0, 0, kd, ep, f, tg⟩ = false := by simp [itemB, epB, hbk, c0, cc, p0, p1]
               rw [e])
          exact rz1 (jn @t1 (jn @t2 (jn @t3 (jn @t4 (jn @t5 (jn @t6 (jn @hz (jn @tA_allD (jn @tg0_len (jn @hz2 (jn @itE.eq_1 (jn @fctE.eq_1 (jn @c0 (jn @cc (jn @p0 @p1)))))))))))))))
        · skip
          first
            | (have e : itemB ⟨⟨#[]⟩, ⟨#[]⟩, 0, 0, kd, ep, f, tg⟩ = true := by simp [itemB, epB, hbk, c0, cc, p0, p1]
               rw [e])
            | (have e : itemB ⟨⟨#[]⟩, ⟨#[]⟩, 0, 0, kd, ep, f, tg⟩ = false := by simp [itemB, epB, hbk, c0, cc, p0, p1]
               rw [e])
          exact rz1 (jn @t1 (jn @t2 (jn @t3 (jn @t4 (jn @t5 (jn @t6 (jn @hz (jn @tA_allD (jn @tg0_len (jn @hz2 (jn @itE.eq_1 (jn @fctE.eq_1 (jn @c0 (jn @cc (jn @p0 @p1)))))))))))))))
      · skip
        first
          | (have e : itemB ⟨⟨#[]⟩, ⟨#[]⟩, 0, 0, kd, ep, f, tg⟩ = true := by simp [itemB, epB, hbk, c0, cc, p0, p0]
             rw [e])
          | (have e : itemB ⟨⟨#[]⟩, ⟨#[]⟩, 0, 0, kd, ep, f, tg⟩ = false := by simp [itemB, epB, hbk, c0, cc, p0, p0]
             rw [e])
        exact rz1 (jn @t1 (jn @t2 (jn @t3 (jn @t4 (jn @t5 (jn @t6 (jn @hz (jn @tA_allD (jn @tg0_len (jn @hz2 (jn @itE.eq_1 (jn @fctE.eq_1 (jn @c0 (jn @cc (jn @p0 @p0)))))))))))))))
    by_cases cc : kd = 4
    · skip
      by_cases p0 : 0 ≤ ep
      · by_cases p1 : ep ≤ 1073741824
        · skip
          first
            | (have e : itemB ⟨⟨#[]⟩, ⟨#[]⟩, 0, 0, kd, ep, f, tg⟩ = true := by simp [itemB, epB, hbk, c0, cc, p0, p1]
               rw [e])
            | (have e : itemB ⟨⟨#[]⟩, ⟨#[]⟩, 0, 0, kd, ep, f, tg⟩ = false := by simp [itemB, epB, hbk, c0, cc, p0, p1]
               rw [e])
          exact rz1 (jn @t1 (jn @t2 (jn @t3 (jn @t4 (jn @t5 (jn @t6 (jn @hz (jn @tA_allD (jn @tg0_len (jn @hz2 (jn @itE.eq_1 (jn @fctE.eq_1 (jn @c0 (jn @cc (jn @p0 @p1)))))))))))))))
        · skip
          first
            | (have e : itemB ⟨⟨#[]⟩, ⟨#[]⟩, 0, 0, kd, ep, f, tg⟩ = true := by simp [itemB, epB, hbk, c0, cc, p0, p1]
               rw [e])
            | (have e : itemB ⟨⟨#[]⟩, ⟨#[]⟩, 0, 0, kd, ep, f, tg⟩ = false := by simp [itemB, epB, hbk, c0, cc, p0, p1]
               rw [e])
          exact rz1 (jn @t1 (jn @t2 (jn @t3 (jn @t4 (jn @t5 (jn @t6 (jn @hz (jn @tA_allD (jn @tg0_len (jn @hz2 (jn @itE.eq_1 (jn @fctE.eq_1 (jn @c0 (jn @cc (jn @p0 @p1)))))))))))))))
      · skip
        first
          | (have e : itemB ⟨⟨#[]⟩, ⟨#[]⟩, 0, 0, kd, ep, f, tg⟩ = true := by simp [itemB, epB, hbk, c0, cc, p0, p0]
             rw [e])
          | (have e : itemB ⟨⟨#[]⟩, ⟨#[]⟩, 0, 0, kd, ep, f, tg⟩ = false := by simp [itemB, epB, hbk, c0, cc, p0, p0]
             rw [e])
        exact rz1 (jn @t1 (jn @t2 (jn @t3 (jn @t4 (jn @t5 (jn @t6 (jn @hz (jn @tA_allD (jn @tg0_len (jn @hz2 (jn @itE.eq_1 (jn @fctE.eq_1 (jn @c0 (jn @cc (jn @p0 @p0)))))))))))))))
    by_cases cc : kd = 2
    · skip
      by_cases p0 : 0 ≤ ep
      · by_cases p1 : ep ≤ 1073741824
        · have e : itemB ⟨⟨#[]⟩, ⟨#[]⟩, 0, 0, kd, ep, f, tg⟩ = chkF f := by simp [itemB, epB, cc, p0, p1]
          rw [e]
          cases hc : chkF f with
          | true =>
            rw [chkE_ok hc] at k2
            refine rn1 (jn @t1 (jn @t2 (jn @t3 (jn @t4 (jn @t5 (jn @t6 (jn @hz (jn @tA_allD (jn @tg0_len (jn @hz2 (jn @itE.eq_1 (jn @fctE.eq_1 (jn @c0 (jn @cc (jn @p0 @p1))))))))))))))) ?_
            refine HO_pureA ty_ok k2 ?_
            exact rz0
          | false =>
            rw [chkE_no (by rw [hc]; decide)] at k2
            refine rn1 (jn @t1 (jn @t2 (jn @t3 (jn @t4 (jn @t5 (jn @t6 (jn @hz (jn @tA_allD (jn @tg0_len (jn @hz2 (jn @itE.eq_1 (jn @fctE.eq_1 (jn @c0 (jn @cc (jn @p0 @p1))))))))))))))) ?_
            refine HO_pureA ty_ok k2 ?_
            exact rz0
        · skip
          first
            | (have e : itemB ⟨⟨#[]⟩, ⟨#[]⟩, 0, 0, kd, ep, f, tg⟩ = true := by simp [itemB, epB, hbk, c0, cc, p0, p1]
               rw [e])
            | (have e : itemB ⟨⟨#[]⟩, ⟨#[]⟩, 0, 0, kd, ep, f, tg⟩ = false := by simp [itemB, epB, hbk, c0, cc, p0, p1]
               rw [e])
          exact rz1 (jn @t1 (jn @t2 (jn @t3 (jn @t4 (jn @t5 (jn @t6 (jn @hz (jn @tA_allD (jn @tg0_len (jn @hz2 (jn @itE.eq_1 (jn @fctE.eq_1 (jn @c0 (jn @cc (jn @p0 @p1)))))))))))))))
      · skip
        first
          | (have e : itemB ⟨⟨#[]⟩, ⟨#[]⟩, 0, 0, kd, ep, f, tg⟩ = true := by simp [itemB, epB, hbk, c0, cc, p0, p0]
             rw [e])
          | (have e : itemB ⟨⟨#[]⟩, ⟨#[]⟩, 0, 0, kd, ep, f, tg⟩ = false := by simp [itemB, epB, hbk, c0, cc, p0, p0]
             rw [e])
        exact rz1 (jn @t1 (jn @t2 (jn @t3 (jn @t4 (jn @t5 (jn @t6 (jn @hz (jn @tA_allD (jn @tg0_len (jn @hz2 (jn @itE.eq_1 (jn @fctE.eq_1 (jn @c0 (jn @cc (jn @p0 @p0)))))))))))))))
    rename_i c1 c3 c4
    have e : itemB ⟨⟨#[]⟩, ⟨#[]⟩, 0, 0, kd, ep, f, tg⟩ = false := by simp [itemB, c0, c1, c3, c4, cc]
    rw [e]
    exact rz1 (jn @t1 (jn @t2 (jn @t3 (jn @t4 (jn @t5 (jn @t6 (jn @hz (jn @tA_allD (jn @tg0_len (jn @hz2 (jn @itE.eq_1 (jn @fctE.eq_1 (jn @c0 (jn @c1 (jn @c3 (jn @c4 @cc))))))))))))))))
  | true =>
    by_cases hz2 : tg = tg0
    · have hbk : ∀ k e, blankP ⟨⟨#[]⟩, ⟨#[]⟩, 0, 0, k, e, f, tg⟩ = true := fun _ _ => by simp [blankP, ← hq, hz2]
      subst hz2
      have hz2 : True := trivial
      by_cases c0 : kd = 0
      · by_cases p0 : ep = 0
        · skip
          first
            | (have e : itemB ⟨⟨#[]⟩, ⟨#[]⟩, 0, 0, kd, ep, f, tg0⟩ = true := by simp [itemB, epB, hbk, c0, p0]
               rw [e])
            | (have e : itemB ⟨⟨#[]⟩, ⟨#[]⟩, 0, 0, kd, ep, f, tg0⟩ = false := by simp [itemB, epB, hbk, c0, p0]
               rw [e])
          exact rz1 (jn @t1 (jn @t2 (jn @t3 (jn @t4 (jn @t5 (jn @t6 (jn @hz (jn @tA_allD (jn @tg0_len (jn @hz2 (jn @itE.eq_1 (jn @fctE.eq_1 (jn @c0 @p0)))))))))))))
        · skip
          first
            | (have e : itemB ⟨⟨#[]⟩, ⟨#[]⟩, 0, 0, kd, ep, f, tg0⟩ = true := by simp [itemB, epB, hbk, c0, p0]
               rw [e])
            | (have e : itemB ⟨⟨#[]⟩, ⟨#[]⟩, 0, 0, kd, ep, f, tg0⟩ = false := by simp [itemB, epB, hbk, c0, p0]
               rw [e])
          exact rz1 (jn @t1 (jn @t2 (jn @t3 (jn @t4 (jn @t5 (jn @t6 (jn @hz (jn @tA_allD (jn @tg0_len (jn @hz2 (jn @itE.eq_1 (jn @fctE.eq_1 (jn @c0 @p0)))))))))))))
      by_cases cc : kd = 1
      · skip
        by_cases p0 : 0 ≤ ep
        · by_cases p1 : ep ≤ 1073741824
          · skip
            first
              | (have e : itemB ⟨⟨#[]⟩, ⟨#[]⟩, 0, 0, kd, ep, f, tg0⟩ = true := by simp [itemB, epB, hbk, c0, cc, p0, p1]
                 rw [e])
              | (have e : itemB ⟨⟨#[]⟩, ⟨#[]⟩, 0, 0, kd, ep, f, tg0⟩ = false := by simp [itemB, epB, hbk, c0, cc, p0, p1]
                 rw [e])
            exact rz1 (jn @t1 (jn @t2 (jn @t3 (jn @t4 (jn @t5 (jn @t6 (jn @hz (jn @tA_allD (jn @tg0_len (jn @hz2 (jn @itE.eq_1 (jn @fctE.eq_1 (jn @c0 (jn @cc (jn @p0 @p1)))))))))))))))
          · skip
            first
              | (have e : itemB ⟨⟨#[]⟩, ⟨#[]⟩, 0, 0, kd, ep, f, tg0⟩ = true := by simp [itemB, epB, hbk, c0, cc, p0, p1]
                 rw [e])
              | (have e : itemB ⟨⟨#[]⟩, ⟨#[]⟩, 0, 0, kd, ep, f, tg0⟩ = false := by simp [itemB, epB, hbk, c0, cc, p0, p1]
                 rw [e])
            exact rz1 (jn @t1 (jn @t2 (jn @t3 (jn @t4 (jn @t5 (jn @t6 (jn @hz (jn @tA_allD (jn @tg0_len (jn @hz2 (jn @itE.eq_1 (jn @fctE.eq_1 (jn @c0 (jn @cc (jn @p0 @p1)))))))))))))))
        · skip
          first
            | (have e : itemB ⟨⟨#[]⟩, ⟨#[]⟩, 0, 0, kd, ep, f, tg0⟩ = true := by simp [itemB, epB, hbk, c0, cc, p0, p0]
               rw [e])
            | (have e : itemB ⟨⟨#[]⟩, ⟨#[]⟩, 0, 0, kd, ep, f, tg0⟩ = false := by simp [itemB, epB, hbk, c0, cc, p0, p0]
               rw [e])
          exact rz1 (jn @t1 (jn @t2 (jn @t3 (jn @t4 (jn @t5 (jn @t6 (jn @hz (jn @tA_allD (jn @tg0_len (jn @hz2 (jn @itE.eq_1 (jn @fctE.eq_1 (jn @c0 (jn @cc (jn @p0 @p0)))))))))))))))
      by_cases cc : kd = 3
      · skip
        by_cases p0 : 0 ≤ ep
        · by_cases p1 : ep ≤ 1073741824
          · skip
            first
              | (have e : itemB ⟨⟨#[]⟩, ⟨#[]⟩, 0, 0, kd, ep, f, tg0⟩ = true := by simp [itemB, epB, hbk, c0, cc, p0, p1]
                 rw [e])
              | (have e : itemB ⟨⟨#[]⟩, ⟨#[]⟩, 0, 0, kd, ep, f, tg0⟩ = false := by simp [itemB, epB, hbk, c0, cc, p0, p1]
                 rw [e])
            exact rz1 (jn @t1 (jn @t2 (jn @t3 (jn @t4 (jn @t5 (jn @t6 (jn @hz (jn @tA_allD (jn @tg0_len (jn @hz2 (jn @itE.eq_1 (jn @fctE.eq_1 (jn @c0 (jn @cc (jn @p0 @p1)))))))))))))))
          · skip
            first
              | (have e : itemB ⟨⟨#[]⟩, ⟨#[]⟩, 0, 0, kd, ep, f, tg0⟩ = true := by simp [itemB, epB, hbk, c0, cc, p0, p1]
                 rw [e])
              | (have e : itemB ⟨⟨#[]⟩, ⟨#[]⟩, 0, 0, kd, ep, f, tg0⟩ = false := by simp [itemB, epB, hbk, c0, cc, p0, p1]
                 rw [e])
            exact rz1 (jn @t1 (jn @t2 (jn @t3 (jn @t4 (jn @t5 (jn @t6 (jn @hz (jn @tA_allD (jn @tg0_len (jn @hz2 (jn @itE.eq_1 (jn @fctE.eq_1 (jn @c0 (jn @cc (jn @p0 @p1)))))))))))))))
        · skip
          first
            | (have e : itemB ⟨⟨#[]⟩, ⟨#[]⟩, 0, 0, kd, ep, f, tg0⟩ = true := by simp [itemB, epB, hbk, c0, cc, p0, p0]
               rw [e])
            | (have e : itemB ⟨⟨#[]⟩, ⟨#[]⟩, 0, 0, kd, ep, f, tg0⟩ = false := by simp [itemB, epB, hbk, c0, cc, p0, p0]
               rw [e])
          exact rz1 (jn @t1 (jn @t2 (jn @t3 (jn @t4 (jn @t5 (jn @t6 (jn @hz (jn @tA_allD (jn @tg0_len (jn @hz2 (jn @itE.eq_1 (jn @fctE.eq_1 (jn @c0 (jn @cc (jn @p0 @p0)))))))))))))))
      by_cases cc : kd = 4
      · skip
        by_cases p0 : 0 ≤ ep
        · by_cases p1 : ep ≤ 1073741824
          · skip
            first
              | (have e : itemB ⟨⟨#[]⟩, ⟨#[]⟩, 0, 0, kd, ep, f, tg0⟩ = true := by simp [itemB, epB, hbk, c0, cc, p0, p1]
                 rw [e])
              | (have e : itemB ⟨⟨#[]⟩, ⟨#[]⟩, 0, 0, kd, ep, f, tg0⟩ = false := by simp [itemB, epB, hbk, c0, cc, p0, p1]
                 rw [e])
            exact rz1 (jn @t1 (jn @t2 (jn @t3 (jn @t4 (jn @t5 (jn @t6 (jn @hz (jn @tA_allD (jn @tg0_len (jn @hz2 (jn @itE.eq_1 (jn @fctE.eq_1 (jn @c0 (jn @cc (jn @p0 @p1)))))))))))))))
          · skip
            first
              | (have e : itemB ⟨⟨#[]⟩, ⟨#[]⟩, 0, 0, kd, ep, f, tg0⟩ = true := by simp [itemB, epB, hbk, c0, cc, p0, p1]
                 rw [e])
              | (have e : itemB ⟨⟨#[]⟩, ⟨#[]⟩, 0, 0, kd, ep, f, tg0⟩ = false := by simp [itemB, epB, hbk, c0, cc, p0, p1]
                 rw [e])
            exact rz1 (jn @t1 (jn @t2 (jn @t3 (jn @t4 (jn @t5 (jn @t6 (jn @hz (jn @tA_allD (jn @tg0_len (jn @hz2 (jn @itE.eq_1 (jn @fctE.eq_1 (jn @c0 (jn @cc (jn @p0 @p1)))))))))))))))
        · skip
          first
            | (have e : itemB ⟨⟨#[]⟩, ⟨#[]⟩, 0, 0, kd, ep, f, tg0⟩ = true := by simp [itemB, epB, hbk, c0, cc, p0, p0]
               rw [e])
            | (have e : itemB ⟨⟨#[]⟩, ⟨#[]⟩, 0, 0, kd, ep, f, tg0⟩ = false := by simp [itemB, epB, hbk, c0, cc, p0, p0]
               rw [e])
          exact rz1 (jn @t1 (jn @t2 (jn @t3 (jn @t4 (jn @t5 (jn @t6 (jn @hz (jn @tA_allD (jn @tg0_len (jn @hz2 (jn @itE.eq_1 (jn @fctE.eq_1 (jn @c0 (jn @cc (jn @p0 @p0)))))))))))))))
      by_cases cc : kd = 2
      · skip
        by_cases p0 : 0 ≤ ep
        · by_cases p1 : ep ≤ 1073741824
          · have e : itemB ⟨⟨#[]⟩, ⟨#[]⟩, 0, 0, kd, ep, f, tg0⟩ = chkF f := by simp [itemB, epB, cc, p0, p1]
            rw [e]
            cases hc : chkF f with
            | true =>
              rw [chkE_ok hc] at k2
              refine rn1 (jn @t1 (jn @t2 (jn @t3 (jn @t4 (jn @t5 (jn @t6 (jn @hz (jn @tA_allD (jn @tg0_len (jn @hz2 (jn @itE.eq_1 (jn @fctE.eq_1 (jn @c0 (jn @cc (jn @p0 @p1))))))))))))))) ?_
              refine HO_pureA ty_ok k2 ?_
              exact rz0
            | false =>
              rw [chkE_no (by rw [hc]; decide)] at k2
              refine rn1 (jn @t1 (jn @t2 (jn @t3 (jn @t4 (jn @t5 (jn @t6 (jn @hz (jn @tA_allD (jn @tg0_len (jn @hz2 (jn @itE.eq_1 (jn @fctE.eq_1 (jn @c0 (jn @cc (jn @p0 @p1))))))))))))))) ?_
              refine HO_pureA ty_ok k2 ?_
              exact rz0
          · skip
            first
              | (have e : itemB ⟨⟨#[]⟩, ⟨#[]⟩, 0, 0, kd, ep, f, tg0⟩ = true := by simp [itemB, epB, hbk, c0, cc, p0, p1]
                 rw [e])
              | (have e : itemB ⟨⟨#[]⟩, ⟨#[]⟩, 0, 0, kd, ep, f, tg0⟩ = false := by simp [itemB, epB, hbk, c0, cc, p0, p1]
                 rw [e])
            exact rz1 (jn @t1 (jn @t2 (jn @t3 (jn @t4 (jn @t5 (jn @t6 (jn @hz (jn @tA_allD (jn @tg0_len (jn @hz2 (jn @itE.eq_1 (jn @fctE.eq_1 (jn @c0 (jn @cc (jn @p0 @p1)))))))))))))))
        · skip
          first
            | (have e : itemB ⟨⟨#[]⟩, ⟨#[]⟩, 0, 0, kd, ep, f, tg0⟩ = true := by simp [itemB, epB, hbk, c0, cc, p0, p0]
               rw [e])
            | (have e : itemB ⟨⟨#[]⟩, ⟨#[]⟩, 0, 0, kd, ep, f, tg0⟩ = false := by simp [itemB, epB, hbk, c0, cc, p0, p0]
               rw [e])
          exact rz1 (jn @t1 (jn @t2 (jn @t3 (jn @t4 (jn @t5 (jn @t6 (jn @hz (jn @tA_allD (jn @tg0_len (jn @hz2 (jn @itE.eq_1 (jn @fctE.eq_1 (jn @c0 (jn @cc (jn @p0 @p0)))))))))))))))
      rename_i c1 c3 c4
      have e : itemB ⟨⟨#[]⟩, ⟨#[]⟩, 0, 0, kd, ep, f, tg0⟩ = false := by simp [itemB, c0, c1, c3, c4, cc]
      rw [e]
      exact rz1 (jn @t1 (jn @t2 (jn @t3 (jn @t4 (jn @t5 (jn @t6 (jn @hz (jn @tA_allD (jn @tg0_len (jn @hz2 (jn @itE.eq_1 (jn @fctE.eq_1 (jn @c0 (jn @c1 (jn @c3 (jn @c4 @cc))))))))))))))))
    · have hbk : ∀ k e, blankP ⟨⟨#[]⟩, ⟨#[]⟩, 0, 0, k, e, f, tg⟩ = false := fun _ _ => by simp [blankP, hz2]
      by_cases c0 : kd = 0
      · by_cases p0 : ep = 0
        · skip
          first
            | (have e : itemB ⟨⟨#[]⟩, ⟨#[]⟩, 0, 0, kd, ep, f, tg⟩ = true := by simp [itemB, epB, hbk, c0, p0]
               rw [e])
            | (have e : itemB ⟨⟨#[]⟩, ⟨#[]⟩, 0, 0, kd, ep, f, tg⟩ = false := by simp [itemB, epB, hbk, c0, p0]
               rw [e])
          exact rz1 (jn @t1 (jn @t2 (jn @t3 (jn @t4 (jn @t5 (jn @t6 (jn @hz (jn @tA_allD (jn @tg0_len (jn @hz2 (jn @itE.eq_1 (jn @fctE.eq_1 (jn @c0 @p0)))))))))))))
        · skip
          first
            | (have e : itemB ⟨⟨#[]⟩, ⟨#[]⟩, 0, 0, kd, ep, f, tg⟩ = true := by simp [itemB, epB, hbk, c0, p0]
               rw [e])
            | (have e : itemB ⟨⟨#[]⟩, ⟨#[]⟩, 0, 0, kd, ep, f, tg⟩ = false := by simp [itemB, epB, hbk, c0, p0]
               rw [e])
          exact rz1 (jn @t1 (jn @t2 (jn @t3 (jn @t4 (jn @t5 (jn @t6 (jn @hz (jn @tA_allD (jn @tg0_len (jn @hz2 (jn @itE.eq_1 (jn @fctE.eq_1 (jn @c0 @p0)))))))))))))
      by_cases cc : kd = 1
      · skip
        by_cases p0 : 0 ≤ ep
        · by_cases p1 : ep ≤ 1073741824
          · skip
            first
              | (have e : itemB ⟨⟨#[]⟩, ⟨#[]⟩, 0, 0, kd, ep, f, tg⟩ = true := by simp [itemB, epB, hbk, c0, cc, p0, p1]
                 rw [e])
              | (have e : itemB ⟨⟨#[]⟩, ⟨#[]⟩, 0, 0, kd, ep, f, tg⟩ = false := by simp [itemB, epB, hbk, c0, cc, p0, p1]
                 rw [e])
            exact rz1 (jn @t1 (jn @t2 (jn @t3 (jn @t4 (jn @t5 (jn @t6 (jn @hz (jn @tA_allD (jn @tg0_len (jn @hz2 (jn @itE.eq_1 (jn @fctE.eq_1 (jn @c0 (jn @cc (jn @p0 @p1)))))))))))))))
          · skip
            first
              | (have e : itemB ⟨⟨#[]⟩, ⟨#[]⟩, 0, 0, kd, ep, f, tg⟩ = true := by simp [itemB, epB, hbk, c0, cc, p0, p1]
                 rw [e])
              | (have e : itemB ⟨⟨#[]⟩, ⟨#[]⟩, 0, 0, kd, ep, f, tg⟩ = false := by simp [itemB, epB, hbk, c0, cc, p0, p1]
                 rw [e])
            exact rz1 (jn @t1 (jn @t2 (jn @t3 (jn @t4 (jn @t5 (jn @t6 (jn @hz (jn @tA_allD (jn @tg0_len (jn @hz2 (jn @itE.eq_1 (jn @fctE.eq_1 (jn @c0 (jn @cc (jn @p0 @p1)))))))))))))))
        · skip
          first
            | (have e : itemB ⟨⟨#[]⟩, ⟨#[]⟩, 0, 0, kd, ep, f, tg⟩ = true := by simp [itemB, epB, hbk, c0, cc, p0, p0]
               rw [e])
            | (have e : itemB ⟨⟨#[]⟩, ⟨#[]⟩, 0, 0, kd, ep, f, tg⟩ = false := by simp [itemB, epB, hbk, c0, cc, p0, p0]
               rw [e])
          exact rz1 (jn @t1 (jn @t2 (jn @t3 (jn @t4 (jn @t5 (jn @t6 (jn @hz (jn @tA_allD (jn @tg0_len (jn @hz2 (jn @itE.eq_1 (jn @fctE.eq_1 (jn @c0 (jn @cc (jn @p0 @p0)))))))))))))))
      by_cases cc : kd = 3
      · skip
        by_cases p0 : 0 ≤ ep
        · by_cases p1 : ep ≤ 1073741824
          · skip
            first
              | (have e : itemB ⟨⟨#[]⟩, ⟨#[]⟩, 0, 0, kd, ep, f, tg⟩ = true := by simp [itemB, epB, hbk, c0, cc, p0, p1]
                 rw [e])
              | (have e : itemB ⟨⟨#[]⟩, ⟨#[]⟩, 0, 0, kd, ep, f, tg⟩ = false := by simp [itemB, epB, hbk, c0, cc, p0, p1]
                 rw [e])
            exact rz1 (jn @t1 (jn @t2 (jn @t3 (jn @t4 (jn @t5 (jn @t6 (jn @hz (jn @tA_allD (jn @tg0_len (jn @hz2 (jn @itE.eq_1 (jn @fctE.eq_1 (jn @c0 (jn @cc (jn @p0 @p1)))))))))))))))
          · skip
            first
              | (have e : itemB ⟨⟨#[]⟩, ⟨#[]⟩, 0, 0, kd, ep, f, tg⟩ = true := by simp [itemB, epB, hbk, c0, cc, p0, p1]
                 rw [e])
              | (have e : itemB ⟨⟨#[]⟩, ⟨#[]⟩, 0, 0, kd, ep, f, tg⟩ = false := by simp [itemB, epB, hbk, c0, cc, p0, p1]
                 rw [e])
            exact rz1 (jn @t1 (jn @t2 (jn @t3 (jn @t4 (jn @t5 (jn @t6 (jn @hz (jn @tA_allD (jn @tg0_len (jn @hz2 (jn @itE.eq_1 (jn @fctE.eq_1 (jn @c0 (jn @cc (jn @p0 @p1)))))))))))))))
        · skip
          first
            | (have e : itemB ⟨⟨#[]⟩, ⟨#[]⟩, 0, 0, kd, ep, f, tg⟩ = true := by simp [itemB, epB, hbk, c0, cc, p0, p0]
               rw [e])
            | (have e : itemB ⟨⟨#[]⟩, ⟨#[]⟩, 0, 0, kd, ep, f, tg⟩ = false := by simp [itemB, epB, hbk, c0, cc, p0, p0]
               rw [e])
          exact rz1 (jn @t1 (jn @t2 (jn @t3 (jn @t4 (jn @t5 (jn @t6 (jn @hz (jn @tA_allD (jn @tg0_len (jn @hz2 (jn @itE.eq_1 (jn @fctE.eq_1 (jn @c0 (jn @cc (jn @p0 @p0)))))))))))))))
      by_cases cc : kd = 4
      · skip
        by_cases p0 : 0 ≤ ep
        · by_cases p1 : ep ≤ 1073741824
          · skip
            first
              | (have e : itemB ⟨⟨#[]⟩, ⟨#[]⟩, 0, 0, kd, ep, f, tg⟩ = true := by simp [itemB, epB, hbk, c0, cc, p0, p1]
                 rw [e])
              | (have e : itemB ⟨⟨#[]⟩, ⟨#[]⟩, 0, 0, kd, ep, f, tg⟩ = false := by simp [itemB, epB, hbk, c0, cc, p0, p1]
                 rw [e])
            exact rz1 (jn @t1 (jn @t2 (jn @t3 (jn @t4 (jn @t5 (jn @t6 (jn @hz (jn @tA_allD (jn @tg0_len (jn @hz2 (jn @itE.eq_1 (jn @fctE.eq_1 (jn @c0 (jn @cc (jn @p0 @p1)))))))))))))))
          · skip
            first
              | (have e : itemB ⟨⟨#[]⟩, ⟨#[]⟩, 0, 0, kd, ep, f, tg⟩ = true := by simp [itemB, epB, hbk, c0, cc, p0, p1]
                 rw [e])
              | (have e : itemB ⟨⟨#[]⟩, ⟨#[]⟩, 0, 0, kd, ep, f, tg⟩ = false := by simp [itemB, epB, hbk, c0, cc, p0, p1]
                 rw [e])
            exact rz1 (jn @t1 (jn @t2 (jn @t3 (jn @t4 (jn @t5 (jn @t6 (jn @hz (jn @tA_allD (jn @tg0_len (jn @hz2 (jn @itE.eq_1 (jn @fctE.eq_1 (jn @c0 (jn @cc (jn @p0 @p1)))))))))))))))
        · skip
          first
            | (have e : itemB ⟨⟨#[]⟩, ⟨#[]⟩, 0, 0, kd, ep, f, tg⟩ = true := by simp [itemB, epB, hbk, c0, cc, p0, p0]
               rw [e])
            | (have e : itemB ⟨⟨#[]⟩, ⟨#[]⟩, 0, 0, kd, ep, f, tg⟩ = false := by simp [itemB, epB, hbk, c0, cc, p0, p0]
               rw [e])
          exact rz1 (jn @t1 (jn @t2 (jn @t3 (jn @t4 (jn @t5 (jn @t6 (jn @hz (jn @tA_allD (jn @tg0_len (jn @hz2 (jn @itE.eq_1 (jn @fctE.eq_1 (jn @c0 (jn @cc (jn @p0 @p0)))))))))))))))
      by_cases cc : kd = 2
      · skip
        by_cases p0 : 0 ≤ ep
        · by_cases p1 : ep ≤ 1073741824
          · have e : itemB ⟨⟨#[]⟩, ⟨#[]⟩, 0, 0, kd, ep, f, tg⟩ = chkF f := by simp [itemB, epB, cc, p0, p1]
            rw [e]
            cases hc : chkF f with
            | true =>
              rw [chkE_ok hc] at k2
              refine rn1 (jn @t1 (jn @t2 (jn @t3 (jn @t4 (jn @t5 (jn @t6 (jn @hz (jn @tA_allD (jn @tg0_len (jn @hz2 (jn @itE.eq_1 (jn @fctE.eq_1 (jn @c0 (jn @cc (jn @p0 @p1))))))))))))))) ?_
              refine HO_pureA ty_ok k2 ?_
              exact rz0
            | false =>
              rw [chkE_no (by rw [hc]; decide)] at k2
              refine rn1 (jn @t1 (jn @t2 (jn @t3 (jn @t4 (jn @t5 (jn @t6 (jn @hz (jn @tA_allD (jn @tg0_len (jn @hz2 (jn @itE.eq_1 (jn @fctE.eq_1 (jn @c0 (jn @cc (jn @p0 @p1))))))))))))))) ?_
              refine HO_pureA ty_ok k2 ?_
              exact rz0
          · skip
            first
              | (have e : itemB ⟨⟨#[]⟩, ⟨#[]⟩, 0, 0, kd, ep, f, tg⟩ = true := by simp [itemB, epB, hbk, c0, cc, p0, p1]
                 rw [e])
              | (have e : itemB ⟨⟨#[]⟩, ⟨#[]⟩, 0, 0, kd, ep, f, tg⟩ = false := by simp [itemB, epB, hbk, c0, cc, p0, p1]
                 rw [e])
            exact rz1 (jn @t1 (jn @t2 (jn @t3 (jn @t4 (jn @t5 (jn @t6 (jn @hz (jn @tA_allD (jn @tg0_len (jn @hz2 (jn @itE.eq_1 (jn @fctE.eq_1 (jn @c0 (jn @cc (jn @p0 @p1)))))))))))))))
        · skip
          first
            | (have e : itemB ⟨⟨#[]⟩, ⟨#[]⟩, 0, 0, kd, ep, f, tg⟩ = true := by simp [itemB, epB, hbk, c0, cc, p0, p0]
               rw [e])
            | (have e : itemB ⟨⟨#[]⟩, ⟨#[]⟩, 0, 0, kd, ep, f, tg⟩ = false := by simp [itemB, epB, hbk, c0, cc, p0, p0]
               rw [e])
          exact rz1 (jn @t1 (jn @t2 (jn @t3 (jn @t4 (jn @t5 (jn @t6 (jn @hz (jn @tA_allD (jn @tg0_len (jn @hz2 (jn @itE.eq_1 (jn @fctE.eq_1 (jn @c0 (jn @cc (jn @p0 @p0)))))))))))))))
      rename_i c1 c3 c4
      have e : itemB ⟨⟨#[]⟩, ⟨#[]⟩, 0, 0, kd, ep, f, tg⟩ = false := by simp [itemB, c0, c1, c3, c4, cc]
      rw [e]
      exact rz1 (jn @t1 (jn @t2 (jn @t3 (jn @t4 (jn @t5 (jn @t6 (jn @hz (jn @tA_allD (jn @tg0_len (jn @hz2 (jn @itE.eq_1 (jn @fctE.eq_1 (jn @c0 (jn @c1 (jn @c3 (jn @c4 @cc))))))))))))))))
end Go.Proofs.YtdbicadncccpoaaDoor
