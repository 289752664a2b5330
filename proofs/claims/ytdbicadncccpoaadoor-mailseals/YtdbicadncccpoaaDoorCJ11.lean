/- Parts of the proof: Pkt, Dig, MItem. -/
import Derived.Test.YtdbicadncccpoaaDoorCJ10
import Derived.Test.YtdbicadncccpoaaDoorCJ0
import Derived.Test.YtdbicadncccpoaaDoorCJ6
set_option linter.unusedVariables false
set_option linter.unusedSimpArgs false
set_option maxRecDepth 100000
namespace Go.Proofs.YtdbicadncccpoaaDoor
open Go Go.ChangeShapes Go.WideShapes
/-! Packets: what is laid and what is read, with no program in sight. -/
structure Pkt where
  fr : ByteArray
  to : ByteArray
  sq : Int
  ak : Int
  kd : Int
  ep : Int
  f : Fct
  tg : List UInt8
deriving DecidableEq
def tg0 : List UInt8 := List.replicate 32 0
def noF (f : Fct) : Bool := decide (f.a = ⟨#[]⟩) && (decide (f.b = ⟨#[]⟩) && (decide (f.p = ⟨#[]⟩) && decide (f.l.length = 0)))
def blankP (p : Pkt) : Bool := noF p.f && decide (p.tg = tg0)
def epB (n : Int) : Bool := decide (0 ≤ n) && decide (n ≤ 1073741824)
def itemB (p : Pkt) : Bool :=
  if p.kd = 0 then blankP p && decide (p.ep = 0)
  else if p.kd = 1 ∨ p.kd = 3 ∨ p.kd = 4 then blankP p && epB p.ep
  else if p.kd = 2 then epB p.ep && chkF p.f
  else false
def mayB (p : Pkt) : Bool := txtOK p.fr && (txtOK p.to && (decide (0 ≤ p.sq) && (decide (0 ≤ p.ak) && (itemB p && decide (p.sq = 0 ↔ p.kd = 0)))))
/-- As the program lays it. -/
def putP (p : Pkt) : List UInt8 :=
  if p.kd = 0 then putI (putI (putI (putTx (putTx [] p.fr) p.to) p.sq) p.ak) p.kd
  else if p.kd = 2 then putF (putI (putI (putI (putI (putTx (putTx [] p.fr) p.to) p.sq) p.ak) p.kd) p.ep) p.f ++ p.tg
  else putI (putI (putI (putI (putTx (putTx [] p.fr) p.to) p.sq) p.ak) p.kd) p.ep
theorem noF_iff (f : Fct) : noF f = true ↔ f = zF := by
  obtain ⟨a, b, c, l⟩ := f
  simp only [noF, zF, Bool.and_eq_true, decide_eq_true_eq, Fct.mk.injEq, List.length_eq_zero_iff]
theorem blank_iff (p : Pkt) : blankP p = true ↔ p.f = zF ∧ p.tg = tg0 := by
  rw [blankP, Bool.and_eq_true, noF_iff, decide_eq_true_eq]
/-- May be a packet: of what a program can hold. -/
def okP (p : Pkt) : Prop := (-9223372036854775808 ≤ p.sq ∧ p.sq ≤ 9223372036854775807) ∧ (-9223372036854775808 ≤ p.ak ∧ p.ak ≤ 9223372036854775807) ∧ (-9223372036854775808 ≤ p.kd ∧ p.kd ≤ 9223372036854775807) ∧ (-9223372036854775808 ≤ p.ep ∧ p.ep ≤ 9223372036854775807) ∧ okF p.f ∧ p.tg.length = 32
/-- What may be: of its kind 0 and of the kinds without a fact nothing else is. -/
theorem may_parts {p : Pkt} (h : mayB p = true) : (txtOK p.fr = true ∧ txtOK p.to = true ∧ 0 ≤ p.sq ∧ 0 ≤ p.ak ∧ (p.sq = 0 ↔ p.kd = 0)) ∧ (p.kd = 0 → p.ep = 0) ∧ (p.kd ≠ 2 → p.f = zF ∧ p.tg = tg0) ∧ (p.kd = 2 → chkF p.f = true) := by
  simp only [mayB, Bool.and_eq_true, decide_eq_true_eq] at h
  obtain ⟨h1, h2, h3, h4, h5, h6⟩ := h
  refine ⟨⟨h1, h2, h3, h4, h6⟩, ?_⟩
  unfold itemB at h5
  split at h5
  · rename_i h0
    rw [Bool.and_eq_true, blank_iff, decide_eq_true_eq] at h5
    exact ⟨fun _ => h5.2, fun _ => h5.1, fun h => by omega⟩
  · rename_i h0
    split at h5
    · rename_i h7
      rw [Bool.and_eq_true, blank_iff] at h5
      exact ⟨fun h => absurd h h0, fun _ => h5.1, fun h => by omega⟩
    · split at h5
      · rename_i h7
        rw [Bool.and_eq_true] at h5
        exact ⟨fun h => absurd h h0, fun h => absurd h7 h, fun _ => h5.2⟩
      · cases h5
theorem txtOK_size {s : ByteArray} (h : txtOK s = true) : s.size ≤ 65536 := by
  simp only [txtOK, Bool.and_eq_true, decide_eq_true_eq] at h; omega
theorem At.all (b : List UInt8) : At b 0 b (b.length : Int) := ⟨0, rfl, by simp, by simp, by simp⟩
end Go.Proofs.YtdbicadncccpoaaDoor

set_option linter.unusedVariables false
set_option linter.unusedSimpArgs false
set_option maxRecDepth 100000
namespace Go.Proofs.YtdbicadncccpoaaDoor
open Go Go.ChangeShapes Go.WideShapes
/-! A digest's 32 cells, as they lie in an object of one's own. -/
def tA (l : List UInt8) : List AV := (bD l).map .d
theorem tA_len (l : List UInt8) : (tA l).length = l.length := by simp [tA, bD]
theorem tA_wf (n : Nat) (l : List UInt8) : wfL n (tA l) = true := wfL_map_d n _
theorem tA_allD (l : List UInt8) : allD (tA l) = some (bD l) := allD_map _
theorem tg32 (d : List UInt8) (h : d.length = 32) : d.length = 32 ∧ (bD d).length = 32 ∧ (bD d).take 32 = bD d ∧ (tA d).length = 32 ∧ (tA d).take 32 = tA d ∧ (bD d).map AV.d = tA d := by
  have hb : (tA d).length = 32 := by rw [tA_len, h]
  have hd : (bD d).length = 32 := by rw [bD_length, h]
  exact ⟨h, hd, List.take_of_length_le (by omega), hb, List.take_of_length_le (by omega), rfl⟩
end Go.Proofs.YtdbicadncccpoaaDoor

set_option linter.unusedVariables false
set_option linter.unusedSimpArgs false
set_option maxRecDepth 100000
namespace Go.Proofs.YtdbicadncccpoaaDoor
open Go Go.ChangeShapes Go.WideShapes
def itE (kd ep : Int) (f : Fct) (tg : List UInt8) : List D := [.c (.int .i64 kd), .c (.int .i64 ep), .c (.string f.a), .c (.string f.b), .c (.string f.p), .sl 3 f.l.length (flatE cstE f.l)] ++ bD tg
def pktE (p : Pkt) : List D := [.c (.string p.fr), .c (.string p.to), .c (.int .i64 p.sq), .c (.int .i64 p.ak)] ++ itE p.kd p.ep p.f p.tg
set_option maxHeartbeats 400000 in
theorem mnone_ac (f : Fct) (hf : f.l.length ≤ 140737488352000) : AC Tryd.prog noG 79 [.d (.agg (fctE f))] [] (fun v r' => v = .d (.c (.bool (noF f))) ∧ r' = []) := by
  refine AC.pure ?_ (by rintro v rfl; rfl)
  refine AC_of_R (N := 22) (res := [.tmp 2]) ty_ok Tryd.call79 Tryd.func79 rfl rfl rfl (Nat.le_of_ble_eq_true rfl) ?_
  obtain ⟨a, b, p, l⟩ := f
  by_cases h1 : a = ⟨#[]⟩
  · by_cases h2 : b = ⟨#[]⟩
    · by_cases h3 : p = ⟨#[]⟩
      · by_cases h4 : l.length = 0
        · have g4 : (l.length : Int) = 0 := by omega
          have e : noF ⟨a, b, p, l⟩ = true := by simp [noF, h1, h2, h3, h4]
          rw [e]
          exact rz1 (jn @fctE.eq_1 (jn @h1 (jn @h2 (jn @h3 @g4))))
        · have g4 : ¬ (l.length : Int) = 0 := by omega
          have e : noF ⟨a, b, p, l⟩ = false := by simp [noF, h1, h2, h3, h4]
          rw [e]
          exact rz1 (jn @fctE.eq_1 (jn @h1 (jn @h2 (jn @h3 @g4))))
      · have e : noF ⟨a, b, p, l⟩ = false := by simp [noF, h1, h2, h3]
        rw [e]
        exact rz1 (jn @fctE.eq_1 (jn @h1 (jn @h2 @h3)))
    · have e : noF ⟨a, b, p, l⟩ = false := by simp [noF, h1, h2]
      rw [e]
      exact rz1 (jn @fctE.eq_1 (jn @h1 @h2))
  · have e : noF ⟨a, b, p, l⟩ = false := by simp [noF, h1]
    rw [e]
    exact rz1 (jn @fctE.eq_1 @h1)
theorem tg0_len : tg0.length = 32 := rfl
set_option maxHeartbeats 400000 in
theorem mitem_ac (kd ep : Int) (f : Fct) (tg : List UInt8) (hf : f.l.length ≤ 140737488352000) (ht : tg.length = 32) :
    AC Tryd.prog noG 58 [.d (.agg (itE kd ep f tg))] [] (fun v r' => v = .d (.c (.bool (itemB ⟨⟨#[]⟩, ⟨#[]⟩, 0, 0, kd, ep, f, tg⟩))) ∧ r' = []) := by
  refine AC.pure ?_ (by rintro v rfl; rfl)
  refine AC_of_R (N := 54) (res := [.tmp 2]) ty_ok Tryd.call58 Tryd.func58 rfl rfl rfl (Nat.le_of_ble_eq_true rfl) ?_
  have k1 := mnone_ac f hf
  have k2 := fchk_ac f hf
  obtain ⟨t1, t2, t3, t4, t5, t6⟩ := tg32 tg ht
  simp only [fctE] at k1 k2
  obtain ⟨q, hq⟩ : ∃ q, q = noF f := ⟨_, rfl⟩
  rw [← hq] at k1
  refine rn1 (jn @itE.eq_1 (jn @t1 (jn @t2 (jn @t3 (jn @t4 (jn @t5 @t6)))))) ?_
  refine HO_pureA ty_ok k1 ?_
  have hz : ([UInt8.ofNat 0, UInt8.ofNat 0, UInt8.ofNat 0, UInt8.ofNat 0, UInt8.ofNat 0, UInt8.ofNat 0, UInt8.ofNat 0, UInt8.ofNat 0, UInt8.ofNat 0, UInt8.ofNat 0, UInt8.ofNat 0, UInt8.ofNat 0, UInt8.ofNat 0, UInt8.ofNat 0, UInt8.ofNat 0, UInt8.ofNat 0, UInt8.ofNat 0, UInt8.ofNat 0, UInt8.ofNat 0, UInt8.ofNat 0, UInt8.ofNat 0, UInt8.ofNat 0, UInt8.ofNat 0, UInt8.ofNat 0, UInt8.ofNat 0, UInt8.ofNat 0, UInt8.ofNat 0, UInt8.ofNat 0, UInt8.ofNat 0, UInt8.ofNat 0, UInt8.ofNat 0, UInt8.ofNat 0] : List UInt8) = tg0 := rfl
  cases q with
  | false =>
    have hz2 : True := trivial
    have hbk : ∀ k e, blankP ⟨⟨#[]⟩, ⟨#[]⟩, 0, 0, k, e, f, tg⟩ = false := fun _ _ => by simp [blankP, ← hq]
    by_cases c0 : kd = 0
    · by_cases p0 : ep = 0
      · skip
        first
          | (have e : itemB ⟨⟨#[]⟩, ⟨#[]⟩, 0, 0, kd, ep, f, tg⟩ = true := by simp [itemB, epB, hbk, c0, p0]
             rw [e])
          | (have e : itemB ⟨⟨#[]⟩, ⟨#[]⟩, 0, 0, kd, ep, f, tg⟩ = false := by simp [itemB, epB, hbk, c0, p0]
             rw [e])
        exact rz1 (jn @t1 (jn @t2 (jn @t3 (jn @t4 (jn @t5 (jn @t6 (jn @hz (jn @tA_allD (jn @tg0_len (jn @hz2 (jn @itE.eq_1 (jn @fctE.eq_1 (jn @c0 @p0)))))))))))))
      · skip
        first
          | (have e : itemB ⟨⟨#[]⟩, ⟨#[]⟩, 0, 0, kd, ep, f, tg⟩ = true := by simp [itemB, epB, hbk, c0, p0]
             rw [e])
          | (have e : itemB ⟨⟨#[]⟩, ⟨#[]⟩, 0, 0, kd, ep, f, tg⟩ = false := by simp [itemB, epB, hbk, c0, p0]
             rw [e])
        exact rz1 (jn @t1 (jn @t2 (jn @t3 (jn @t4 (jn @t5 (jn @t6 (jn @hz (jn @tA_allD (jn @tg0_len (jn @hz2 (jn @itE.eq_1 (jn @fctE.eq_1 (jn @c0 @p0)))))))))))))
    by_cases cc : kd = 1
    · skip
      by_cases p0 : 0 ≤ ep
      · by_cases p1 : ep ≤ 1073741824
        · skip
          first
            | (have e : itemB ⟨⟨#[]⟩, ⟨#[]⟩, 0, 0, kd, ep, f, tg⟩ = true := by simp [itemB, epB, hbk, c0, cc, p0, p1]
               rw [e])
            | (have e : itemB ⟨⟨#[]⟩, ⟨#[]⟩, 0, 0, kd, ep, f, tg⟩ = false := by simp [itemB, epB, hbk, c0, cc, p0, p1]
               rw [e])
          exact rz1 (jn @t1 (jn @t2 (jn @t3 (jn @t4 (jn @t5 (jn @t6 (jn @hz (jn @tA_allD (jn @tg0_len (jn @hz2 (jn @itE.eq_1 (jn @fctE.eq_1 (jn @c0 (jn @cc (jn @p0 @p1)))))))))))))))
        · skip
          first
            | (have e : itemB ⟨⟨#[]⟩, ⟨#[]⟩, 0, 0, kd, ep, f, tg⟩ = true := by simp [itemB, epB, hbk, c0, cc, p0, p1]
               rw [e])
            | (have e : itemB ⟨⟨#[]⟩, ⟨#[]⟩, 0, 0, kd, ep, f, tg⟩ = false := by simp [itemB, epB, hbk, c0, cc, p0, p1]
               rw [e])
          exact rz1 (jn @t1 (jn @t2 (jn @t3 (jn @t4 (jn @t5 (jn @t6 (jn @hz (jn @tA_allD (jn @tg0_len (jn @hz2 (jn @itE.eq_1 (jn @fctE.eq_1 (jn @c0 (jn @cc (jn @p0 @p1)))))))))))))))
      · skip
        first
          | (have e : itemB ⟨⟨#[]⟩, ⟨#[]⟩, 0, 0, kd, ep, f, tg⟩ = true := by simp [itemB, epB, hbk, c0, cc, p0, p0]
             rw [e])
          | (have e : itemB ⟨⟨#[]⟩, ⟨#[]⟩, 0, 0, kd, ep, f, tg⟩ = false := by simp [itemB, epB, hbk, c0, cc, p0, p0]
             rw [e])
        exact rz1 (jn @t1 (jn @t2 (jn @t3 (jn @t4 (jn @t5 (jn @t6 (jn @hz (jn @tA_allD (jn @tg0_len (jn @hz2 (jn @itE.eq_1 (jn @fctE.eq_1 (jn @c0 (jn @cc (jn @p0 @p0)))))))))))))))
    by_cases cc : kd = 3
    · skip
      by_cases p0 : 0 ≤ ep
      · by_cases p1 : ep ≤ 1073741824
        · skip
          first
            | (have e : itemB ⟨⟨#[]⟩, ⟨#[]⟩, 0, 0, kd, ep, f, tg⟩ = true := by simp [itemB, epB, hbk, c0, cc, p0, p1]
               rw [e])
            | (have e : itemB ⟨⟨#[]⟩, ⟨#[]⟩, 0, 0, kd, ep, f, tg⟩ = false := by simp [itemB, epB, hbk, c0, cc, p0, p1]
               rw [e])
          exact rz1 (jn @t1 (jn @t2 (jn @t3 (jn @t4 (jn @t5 (jn @t6 (jn @hz (jn @tA_allD (jn @tg0_len (jn @hz2 (jn @itE.eq_1 (jn @fctE.eq_1 (jn @c0 (jn @cc (jn @p0 @p1)))))))))))))))
        · skip
          first
            | (have e : itemB ⟨⟨#[]⟩, ⟨#[]⟩, 0, 0, kd, ep, f, tg⟩ = true := by simp [itemB, epB, hbk, c0, cc, p0, p1]
               rw [e])
            | (have e : itemB ⟨⟨#[]⟩, ⟨#[]⟩, 0, 0, kd, ep, f, tg⟩ = false := by simp [itemB, epB, hbk, c0, cc, p0, p1]
               rw [e])
          exact rz1 (jn @t1 (jn @t2 (jn @t3 (jn @t4 (jn @t5 (jn @t6 (jn @hz (jn @tA_allD (jn @tg0_len (jn @hz2 (jn @itE.eq_1 (jn @fctE.eq_1 (jn @c0 (jn @cc (jn @p0 @p1)))))))))))))))
      · skip
        first
          | (have e : itemB ⟨⟨#[]⟩, ⟨#[]⟩, 0, 0, kd, ep, f, tg⟩ = true := by simp [itemB, epB, hbk, c0, cc, p0, p0]
             rw [e])
          | (have e : itemB ⟨⟨#[]⟩, ⟨#[]⟩, 0, 0, kd, ep, f, tg⟩ = false := by simp [itemB, epB, hbk, c0, cc, p0, p0]
             rw [e])
        exact rz1 (jn @t1 (jn @t2 (jn @t3 (jn @t4 (jn @t5 (jn @t6 (jn @hz (jn @tA_allD (jn @tg0_len (jn @hz2 (jn @itE.eq_1 (jn @fctE.eq_1 (jn @c0 (jn @cc (jn @p0 @p0)))))))))))))))
    by_cases cc : kd = 4
    · skip
      by_cases p0 : 0 ≤ ep
      · by_cases p1 : ep ≤ 1073741824
        · skip
          first
            | (have e : itemB ⟨⟨#[]⟩, ⟨#[]⟩, 0, 0, kd, ep, f, tg⟩ = true := by simp [itemB, epB, hbk, c0, cc, p0, p1]
               rw [e])
            | (have e : itemB ⟨⟨#[]⟩, ⟨#[]⟩, 0, 0, kd, ep, f, tg⟩ = false := by simp [itemB, epB, hbk, c0, cc, p0, p1]
               rw [e])
          exact rz1 (jn @t1 (jn @t2 (jn @t3 (jn @t4 (jn @t5 (jn @t6 (jn @hz (jn @tA_allD (jn @tg0_len (jn @hz2 (jn @itE.eq_1 (jn @fctE.eq_1 (jn @c0 (jn @cc (jn @p0 @p1)))))))))))))))
        · skip
          first
            | (have e : itemB ⟨⟨#[]⟩, ⟨#[]⟩, 0, 0, kd, ep, f, tg⟩ = true := by simp [itemB, epB, hbk, c0, cc, p0, p1]
               rw [e])
            | (have e : itemB ⟨⟨#[]⟩, ⟨#[]⟩, 0, 0, kd, ep, f, tg⟩ = false := by simp [itemB, epB, hbk, c0, cc, p0, p1]
               rw [e])
          exact rz1 (jn @t1 (jn @t2 (jn @t3 (jn @t4 (jn @t5 (jn @t6 (jn @hz (jn @tA_allD (jn @tg0_len (jn @hz2 (jn @itE.eq_1 (jn @fctE.eq_1 (jn @c0 (jn @cc (jn @p0 @p1)))))))))))))))
      · skip
        first
          | (have e : itemB ⟨⟨#[]⟩, ⟨#[]⟩, 0, 0, kd, ep, f, tg⟩ = true := by simp [itemB, epB, hbk, c0, cc, p0, p0]
             rw [e])
          | (have e : itemB ⟨⟨#[]⟩, ⟨#[]⟩, 0, 0, kd, ep, f, tg⟩ = false := by simp [itemB, epB, hbk, c0, cc, p0, p0]
             rw [e])
        exact rz1 (jn @t1 (jn @t2 (jn @t3 (jn @t4 (jn @t5 (jn @t6 (jn @hz (jn @tA_allD (jn @tg0_len (jn @hz2 (jn @itE.eq_1 (jn @fctE.eq_1 (jn @c0 (jn @cc (jn @p0 @p0)))))))))))))))
    by_cases cc : kd = 2
    · skip
      by_cases p0 : 0 ≤ ep
      · by_cases p1 : ep ≤ 1073741824
        · have e : itemB ⟨⟨#[]⟩, ⟨#[]⟩, 0, 0, kd, ep, f, tg⟩ = chkF f := by simp [itemB, epB, cc, p0, p1]
          rw [e]
          cases hc : chkF f with
          | true =>
            rw [chkE_ok hc] at k2
            refine rn1 (jn @t1 (jn @t2 (jn @t3 (jn @t4 (jn @t5 (jn @t6 (jn @hz (jn @tA_allD (jn @tg0_len (jn @hz2 (jn @itE.eq_1 (jn @fctE.eq_1 (jn @c0 (jn @cc (jn @p0 @p1))))))))))))))) ?_
            refine HO_pureA ty_ok k2 ?_
            exact rz0
          | false =>
            rw [chkE_no (by rw [hc]; decide)] at k2
            refine rn1 (jn @t1 (jn @t2 (jn @t3 (jn @t4 (jn @t5 (jn @t6 (jn @hz (jn @tA_allD (jn @tg0_len (jn @hz2 (jn @itE.eq_1 (jn @fctE.eq_1 (jn @c0 (jn @cc (jn @p0 @p1))))))))))))))) ?_
            refine HO_pureA ty_ok k2 ?_
            exact rz0
        · skip
          first
            | (have e : itemB ⟨⟨#[]⟩, ⟨#[]⟩, 0, 0, kd, ep, f, tg⟩ = true := by simp [itemB, epB, hbk, c0, cc, p0, p1]
               rw [e])
            | (have e : itemB ⟨⟨#[]⟩, ⟨#[]⟩, 0, 0, kd, ep, f, tg⟩ = false := by simp [itemB, epB, hbk, c0, cc, p0, p1]
               rw [e])
          exact rz1 (jn @t1 (jn @t2 (jn @t3 (jn @t4 (jn @t5 (jn @t6 (jn @hz (jn @tA_allD (jn @tg0_len (jn @hz2 (jn @itE.eq_1 (jn @fctE.eq_1 (jn @c0 (jn @cc (jn @p0 @p1)))))))))))))))
      · skip
        first
          | (have e : itemB ⟨⟨#[]⟩, ⟨#[]⟩, 0, 0, kd, ep, f, tg⟩ = true := by simp [itemB, epB, hbk, c0, cc, p0, p0]
             rw [e])
          | (have e : itemB ⟨⟨#[]⟩, ⟨#[]⟩, 0, 0, kd, ep, f, tg⟩ = false := by simp [itemB, epB, hbk, c0, cc, p0, p0]
             rw [e])
        exact rz1 (jn @t1 (jn @t2 (jn @t3 (jn @t4 (jn @t5 (jn @t6 (jn @hz (jn @tA_allD (jn @tg0_len (jn @hz2 (jn @itE.eq_1 (jn @fctE.eq_1 (jn @c0 (jn @cc (jn @p0 @p0)))))))))))))))
    rename_i c1 c3 c4
    have e : itemB ⟨⟨#[]⟩, ⟨#[]⟩, 0, 0, kd, ep, f, tg⟩ = false := by simp [itemB, c0, c1, c3, c4, cc]
    rw [e]
    exact rz1 (jn @t1 (jn @t2 (jn @t3 (jn @t4 (jn @t5 (jn @t6 (jn @hz (jn @tA_allD (jn @tg0_len (jn @hz2 (jn @itE.eq_1 (jn @fctE.eq_1 (jn @c0 (jn @c1 (jn @c3 (jn @c4 @cc))))))))))))))))
  | true =>
    by_cases hz2 : tg = tg0
    · have hbk : ∀ k e, blankP ⟨⟨#[]⟩, ⟨#[]⟩, 0, 0, k, e, f, tg⟩ = true := fun _ _ => by simp [blankP, ← hq, hz2]
      subst hz2
      have hz2 : True := trivial
      by_cases c0 : kd = 0
      · by_cases p0 : ep = 0
        · skip
          first
            | (have e : itemB ⟨⟨#[]⟩, ⟨#[]⟩, 0, 0, kd, ep, f, tg0⟩ = true := by simp [itemB, epB, hbk, c0, p0]
               rw [e])
            | (have e : itemB ⟨⟨#[]⟩, ⟨#[]⟩, 0, 0, kd, ep, f, tg0⟩ = false := by simp [itemB, epB, hbk, c0, p0]
               rw [e])
          exact rz1 (jn @t1 (jn @t2 (jn @t3 (jn @t4 (jn @t5 (jn @t6 (jn @hz (jn @tA_allD (jn @tg0_len (jn @hz2 (jn @itE.eq_1 (jn @fctE.eq_1 (jn @c0 @p0)))))))))))))
        · skip
          first
            | (have e : itemB ⟨⟨#[]⟩, ⟨#[]⟩, 0, 0, kd, ep, f, tg0⟩ = true := by simp [itemB, epB, hbk, c0, p0]
               rw [e])
            | (have e : itemB ⟨⟨#[]⟩, ⟨#[]⟩, 0, 0, kd, ep, f, tg0⟩ = false := by simp [itemB, epB, hbk, c0, p0]
               rw [e])
          exact rz1 (jn @t1 (jn @t2 (jn @t3 (jn @t4 (jn @t5 (jn @t6 (jn @hz (jn @tA_allD (jn @tg0_len (jn @hz2 (jn @itE.eq_1 (jn @fctE.eq_1 (jn @c0 @p0)))))))))))))
      by_cases cc : kd = 1
      · skip
        by_cases p0 : 0 ≤ ep
        · by_cases p1 : ep ≤ 1073741824
          · skip
            first
              | (have e : itemB ⟨⟨#[]⟩, ⟨#[]⟩, 0, 0, kd, ep, f, tg0⟩ = true := by simp [itemB, epB, hbk, c0, cc, p0, p1]
                 rw [e])
              | (have e : itemB ⟨⟨#[]⟩, ⟨#[]⟩, 0, 0, kd, ep, f, tg0⟩ = false := by simp [itemB, epB, hbk, c0, cc, p0, p1]
                 rw [e])
            exact rz1 (jn @t1 (jn @t2 (jn @t3 (jn @t4 (jn @t5 (jn @t6 (jn @hz (jn @tA_allD (jn @tg0_len (jn @hz2 (jn @itE.eq_1 (jn @fctE.eq_1 (jn @c0 (jn @cc (jn @p0 @p1)))))))))))))))
          · skip
            first
              | (have e : itemB ⟨⟨#[]⟩, ⟨#[]⟩, 0, 0, kd, ep, f, tg0⟩ = true := by simp [itemB, epB, hbk, c0, cc, p0, p1]
                 rw [e])
              | (have e : itemB ⟨⟨#[]⟩, ⟨#[]⟩, 0, 0, kd, ep, f, tg0⟩ = false := by simp [itemB, epB, hbk, c0, cc, p0, p1]
                 rw [e])
            exact rz1 (jn @t1 (jn @t2 (jn @t3 (jn @t4 (jn @t5 (jn @t6 (jn @hz (jn @tA_allD (jn @tg0_len (jn @hz2 (jn @itE.eq_1 (jn @fctE.eq_1 (jn @c0 (jn @cc (jn @p0 @p1)))))))))))))))
        · skip
          first
            | (have e : itemB ⟨⟨#[]⟩, ⟨#[]⟩, 0, 0, kd, ep, f, tg0⟩ = true := by simp [itemB, epB, hbk, c0, cc, p0, p0]
               rw [e])
            | (have e : itemB ⟨⟨#[]⟩, ⟨#[]⟩, 0, 0, kd, ep, f, tg0⟩ = false := by simp [itemB, epB, hbk, c0, cc, p0, p0]
               rw [e])
          exact rz1 (jn @t1 (jn @t2 (jn @t3 (jn @t4 (jn @t5 (jn @t6 (jn @hz (jn @tA_allD (jn @tg0_len (jn @hz2 (jn @itE.eq_1 (jn @fctE.eq_1 (jn @c0 (jn @cc (jn @p0 @p0)))))))))))))))
      by_cases cc : kd = 3
      · skip
        by_cases p0 : 0 ≤ ep
        · by_cases p1 : ep ≤ 1073741824
          · skip
            first
              | (have e : itemB ⟨⟨#[]⟩, ⟨#[]⟩, 0, 0, kd, ep, f, tg0⟩ = true := by simp [itemB, epB, hbk, c0, cc, p0, p1]
                 rw [e])
              | (have e : itemB ⟨⟨#[]⟩, ⟨#[]⟩, 0, 0, kd, ep, f, tg0⟩ = false := by simp [itemB, epB, hbk, c0, cc, p0, p1]
                 rw [e])
            exact rz1 (jn @t1 (jn @t2 (jn @t3 (jn @t4 (jn @t5 (jn @t6 (jn @hz (jn @tA_allD (jn @tg0_len (jn @hz2 (jn @itE.eq_1 (jn @fctE.eq_1 (jn @c0 (jn @cc (jn @p0 @p1)))))))))))))))
          · skip
            first
              | (have e : itemB ⟨⟨#[]⟩, ⟨#[]⟩, 0, 0, kd, ep, f, tg0⟩ = true := by simp [itemB, epB, hbk, c0, cc, p0, p1]
                 rw [e])
              | (have e : itemB ⟨⟨#[]⟩, ⟨#[]⟩, 0, 0, kd, ep, f, tg0⟩ = false := by simp [itemB, epB, hbk, c0, cc, p0, p1]
                 rw [e])
            exact rz1 (jn @t1 (jn @t2 (jn @t3 (jn @t4 (jn @t5 (jn @t6 (jn @hz (jn @tA_allD (jn @tg0_len (jn @hz2 (jn @itE.eq_1 (jn @fctE.eq_1 (jn @c0 (jn @cc (jn @p0 @p1)))))))))))))))
        · skip
          first
            | (have e : itemB ⟨⟨#[]⟩, ⟨#[]⟩, 0, 0, kd, ep, f, tg0⟩ = true := by simp [itemB, epB, hbk, c0, cc, p0, p0]
               rw [e])
            | (have e : itemB ⟨⟨#[]⟩, ⟨#[]⟩, 0, 0, kd, ep, f, tg0⟩ = false := by simp [itemB, epB, hbk, c0, cc, p0, p0]
               rw [e])
          exact rz1 (jn @t1 (jn @t2 (jn @t3 (jn @t4 (jn @t5 (jn @t6 (jn @hz (jn @tA_allD (jn @tg0_len (jn @hz2 (jn @itE.eq_1 (jn @fctE.eq_1 (jn @c0 (jn @cc (jn @p0 @p0)))))))))))))))
      by_cases cc : kd = 4
      · skip
        by_cases p0 : 0 ≤ ep
        · by_cases p1 : ep ≤ 1073741824
          · skip
            first
              | (have e : itemB ⟨⟨#[]⟩, ⟨#[]⟩, 0, 0, kd, ep, f, tg0⟩ = true := by simp [itemB, epB, hbk, c0, cc, p0, p1]
                 rw [e])
              | (have e : itemB ⟨⟨#[]⟩, ⟨#[]⟩, 0, 0, kd, ep, f, tg0⟩ = false := by simp [itemB, epB, hbk, c0, cc, p0, p1]
                 rw [e])
            exact rz1 (jn @t1 (jn @t2 (jn @t3 (jn @t4 (jn @t5 (jn @t6 (jn @hz (jn @tA_allD (jn @tg0_len (jn @hz2 (jn @itE.eq_1 (jn @fctE.eq_1 (jn @c0 (jn @cc (jn @p0 @p1)))))))))))))))
          · skip
            first
              | (have e : itemB ⟨⟨#[]⟩, ⟨#[]⟩, 0, 0, kd, ep, f, tg0⟩ = true := by simp [itemB, epB, hbk, c0, cc, p0, p1]
                 rw [e])
              | (have e : itemB ⟨⟨#[]⟩, ⟨#[]⟩, 0, 0, kd, ep, f, tg0⟩ = false := by simp [itemB, epB, hbk, c0, cc, p0, p1]
                 rw [e])
            exact rz1 (jn @t1 (jn @t2 (jn @t3 (jn @t4 (jn @t5 (jn @t6 (jn @hz (jn @tA_allD (jn @tg0_len (jn @hz2 (jn @itE.eq_1 (jn @fctE.eq_1 (jn @c0 (jn @cc (jn @p0 @p1)))))))))))))))
        · skip
          first
            | (have e : itemB ⟨⟨#[]⟩, ⟨#[]⟩, 0, 0, kd, ep, f, tg0⟩ = true := by simp [itemB, epB, hbk, c0, cc, p0, p0]
               rw [e])
            | (have e : itemB ⟨⟨#[]⟩, ⟨#[]⟩, 0, 0, kd, ep, f, tg0⟩ = false := by simp [itemB, epB, hbk, c0, cc, p0, p0]
               rw [e])
          exact rz1 (jn @t1 (jn @t2 (jn @t3 (jn @t4 (jn @t5 (jn @t6 (jn @hz (jn @tA_allD (jn @tg0_len (jn @hz2 (jn @itE.eq_1 (jn @fctE.eq_1 (jn @c0 (jn @cc (jn @p0 @p0)))))))))))))))
      by_cases cc : kd = 2
      · skip
        by_cases p0 : 0 ≤ ep
        · by_cases p1 : ep ≤ 1073741824
          · have e : itemB ⟨⟨#[]⟩, ⟨#[]⟩, 0, 0, kd, ep, f, tg0⟩ = chkF f := by simp [itemB, epB, cc, p0, p1]
            rw [e]
            cases hc : chkF f with
            | true =>
              rw [chkE_ok hc] at k2
              refine rn1 (jn @t1 (jn @t2 (jn @t3 (jn @t4 (jn @t5 (jn @t6 (jn @hz (jn @tA_allD (jn @tg0_len (jn @hz2 (jn @itE.eq_1 (jn @fctE.eq_1 (jn @c0 (jn @cc (jn @p0 @p1))))))))))))))) ?_
              refine HO_pureA ty_ok k2 ?_
              exact rz0
            | false =>
              rw [chkE_no (by rw [hc]; decide)] at k2
              refine rn1 (jn @t1 (jn @t2 (jn @t3 (jn @t4 (jn @t5 (jn @t6 (jn @hz (jn @tA_allD (jn @tg0_len (jn @hz2 (jn @itE.eq_1 (jn @fctE.eq_1 (jn @c0 (jn @cc (jn @p0 @p1))))))))))))))) ?_
              refine HO_pureA ty_ok k2 ?_
              exact rz0
          · skip
            first
              | (have e : itemB ⟨⟨#[]⟩, ⟨#[]⟩, 0, 0, kd, ep, f, tg0⟩ = true := by simp [itemB, epB, hbk, c0, cc, p0, p1]
                 rw [e])
              | (have e : itemB ⟨⟨#[]⟩, ⟨#[]⟩, 0, 0, kd, ep, f, tg0⟩ = false := by simp [itemB, epB, hbk, c0, cc, p0, p1]
                 rw [e])
            exact rz1 (jn @t1 (jn @t2 (jn @t3 (jn @t4 (jn @t5 (jn @t6 (jn @hz (jn @tA_allD (jn @tg0_len (jn @hz2 (jn @itE.eq_1 (jn @fctE.eq_1 (jn @c0 (jn @cc (jn @p0 @p1)))))))))))))))
        · skip
          first
            | (have e : itemB ⟨⟨#[]⟩, ⟨#[]⟩, 0, 0, kd, ep, f, tg0⟩ = true := by simp [itemB, epB, hbk, c0, cc, p0, p0]
               rw [e])
            | (have e : itemB ⟨⟨#[]⟩, ⟨#[]⟩, 0, 0, kd, ep, f, tg0⟩ = false := by simp [itemB, epB, hbk, c0, cc, p0, p0]
               rw [e])
          exact rz1 (jn @t1 (jn @t2 (jn @t3 (jn @t4 (jn @t5 (jn @t6 (jn @hz (jn @tA_allD (jn @tg0_len (jn @hz2 (jn @itE.eq_1 (jn @fctE.eq_1 (jn @c0 (jn @cc (jn @p0 @p0)))))))))))))))
      rename_i c1 c3 c4
      have e : itemB ⟨⟨#[]⟩, ⟨#[]⟩, 0, 0, kd, ep, f, tg0⟩ = false := by simp [itemB, c0, c1, c3, c4, cc]
      rw [e]
      exact rz1 (jn @t1 (jn @t2 (jn @t3 (jn @t4 (jn @t5 (jn @t6 (jn @hz (jn @tA_allD (jn @tg0_len (jn @hz2 (jn @itE.eq_1 (jn @fctE.eq_1 (jn @c0 (jn @c1 (jn @c3 (jn @c4 @cc))))))))))))))))
    · have hbk : ∀ k e, blankP ⟨⟨#[]⟩, ⟨#[]⟩, 0, 0, k, e, f, tg⟩ = false := fun _ _ => by simp [blankP, hz2]
      by_cases c0 : kd = 0
      · by_cases p0 : ep = 0
        · skip
          first
            | (have e : itemB ⟨⟨#[]⟩, ⟨#[]⟩, 0, 0, kd, ep, f, tg⟩ = true := by simp [itemB, epB, hbk, c0, p0]
               rw [e])
            | (have e : itemB ⟨⟨#[]⟩, ⟨#[]⟩, 0, 0, kd, ep, f, tg⟩ = false := by simp [itemB, epB, hbk, c0, p0]
               rw [e])
          exact rz1 (jn @t1 (jn @t2 (jn @t3 (jn @t4 (jn @t5 (jn @t6 (jn @hz (jn @tA_allD (jn @tg0_len (jn @hz2 (jn @itE.eq_1 (jn @fctE.eq_1 (jn @c0 @p0)))))))))))))
        · skip
          first
            | (have e : itemB ⟨⟨#[]⟩, ⟨#[]⟩, 0, 0, kd, ep, f, tg⟩ = true := by simp [itemB, epB, hbk, c0, p0]
               rw [e])
            | (have e : itemB ⟨⟨#[]⟩, ⟨#[]⟩, 0, 0, kd, ep, f, tg⟩ = false := by simp [itemB, epB, hbk, c0, p0]
               rw [e])
          exact rz1 (jn @t1 (jn @t2 (jn @t3 (jn @t4 (jn @t5 (jn @t6 (jn @hz (jn @tA_allD (jn @tg0_len (jn @hz2 (jn @itE.eq_1 (jn @fctE.eq_1 (jn @c0 @p0)))))))))))))
      by_cases cc : kd = 1
      · skip
        by_cases p0 : 0 ≤ ep
        · by_cases p1 : ep ≤ 1073741824
          · skip
            first
              | (have e : itemB ⟨⟨#[]⟩, ⟨#[]⟩, 0, 0, kd, ep, f, tg⟩ = true := by simp [itemB, epB, hbk, c0, cc, p0, p1]
                 rw [e])
              | (have e : itemB ⟨⟨#[]⟩, ⟨#[]⟩, 0, 0, kd, ep, f, tg⟩ = false := by simp [itemB, epB, hbk, c0, cc, p0, p1]
                 rw [e])
            exact rz1 (jn @t1 (jn @t2 (jn @t3 (jn @t4 (jn @t5 (jn @t6 (jn @hz (jn @tA_allD (jn @tg0_len (jn @hz2 (jn @itE.eq_1 (jn @fctE.eq_1 (jn @c0 (jn @cc (jn @p0 @p1)))))))))))))))
          · skip
            first
              | (have e : itemB ⟨⟨#[]⟩, ⟨#[]⟩, 0, 0, kd, ep, f, tg⟩ = true := by simp [itemB, epB, hbk, c0, cc, p0, p1]
                 rw [e])
              | (have e : itemB ⟨⟨#[]⟩, ⟨#[]⟩, 0, 0, kd, ep, f, tg⟩ = false := by simp [itemB, epB, hbk, c0, cc, p0, p1]
                 rw [e])
            exact rz1 (jn @t1 (jn @t2 (jn @t3 (jn @t4 (jn @t5 (jn @t6 (jn @hz (jn @tA_allD (jn @tg0_len (jn @hz2 (jn @itE.eq_1 (jn @fctE.eq_1 (jn @c0 (jn @cc (jn @p0 @p1)))))))))))))))
        · skip
          first
            | (have e : itemB ⟨⟨#[]⟩, ⟨#[]⟩, 0, 0, kd, ep, f, tg⟩ = true := by simp [itemB, epB, hbk, c0, cc, p0, p0]
               rw [e])
            | (have e : itemB ⟨⟨#[]⟩, ⟨#[]⟩, 0, 0, kd, ep, f, tg⟩ = false := by simp [itemB, epB, hbk, c0, cc, p0, p0]
               rw [e])
          exact rz1 (jn @t1 (jn @t2 (jn @t3 (jn @t4 (jn @t5 (jn @t6 (jn @hz (jn @tA_allD (jn @tg0_len (jn @hz2 (jn @itE.eq_1 (jn @fctE.eq_1 (jn @c0 (jn @cc (jn @p0 @p0)))))))))))))))
      by_cases cc : kd = 3
      · skip
        by_cases p0 : 0 ≤ ep
        · by_cases p1 : ep ≤ 1073741824
          · skip
            first
              | (have e : itemB ⟨⟨#[]⟩, ⟨#[]⟩, 0, 0, kd, ep, f, tg⟩ = true := by simp [itemB, epB, hbk, c0, cc, p0, p1]
                 rw [e])
              | (have e : itemB ⟨⟨#[]⟩, ⟨#[]⟩, 0, 0, kd, ep, f, tg⟩ = false := by simp [itemB, epB, hbk, c0, cc, p0, p1]
                 rw [e])
            exact rz1 (jn @t1 (jn @t2 (jn @t3 (jn @t4 (jn @t5 (jn @t6 (jn @hz (jn @tA_allD (jn @tg0_len (jn @hz2 (jn @itE.eq_1 (jn @fctE.eq_1 (jn @c0 (jn @cc (jn @p0 @p1)))))))))))))))
          · skip
            first
              | (have e : itemB ⟨⟨#[]⟩, ⟨#[]⟩, 0, 0, kd, ep, f, tg⟩ = true := by simp [itemB, epB, hbk, c0, cc, p0, p1]
                 rw [e])
              | (have e : itemB ⟨⟨#[]⟩, ⟨#[]⟩, 0, 0, kd, ep, f, tg⟩ = false := by simp [itemB, epB, hbk, c0, cc, p0, p1]
                 rw [e])
            exact rz1 (jn @t1 (jn @t2 (jn @t3 (jn @t4 (jn @t5 (jn @t6 (jn @hz (jn @tA_allD (jn @tg0_len (jn @hz2 (jn @itE.eq_1 (jn @fctE.eq_1 (jn @c0 (jn @cc (jn @p0 @p1)))))))))))))))
        · skip
          first
            | (have e : itemB ⟨⟨#[]⟩, ⟨#[]⟩, 0, 0, kd, ep, f, tg⟩ = true := by simp [itemB, epB, hbk, c0, cc, p0, p0]
               rw [e])
            | (have e : itemB ⟨⟨#[]⟩, ⟨#[]⟩, 0, 0, kd, ep, f, tg⟩ = false := by simp [itemB, epB, hbk, c0, cc, p0, p0]
               rw [e])
          exact rz1 (jn @t1 (jn @t2 (jn @t3 (jn @t4 (jn @t5 (jn @t6 (jn @hz (jn @tA_allD (jn @tg0_len (jn @hz2 (jn @itE.eq_1 (jn @fctE.eq_1 (jn @c0 (jn @cc (jn @p0 @p0)))))))))))))))
      by_cases cc : kd = 4
      · skip
        by_cases p0 : 0 ≤ ep
        · by_cases p1 : ep ≤ 1073741824
          · skip
            first
              | (have e : itemB ⟨⟨#[]⟩, ⟨#[]⟩, 0, 0, kd, ep, f, tg⟩ = true := by simp [itemB, epB, hbk, c0, cc, p0, p1]
                 rw [e])
              | (have e : itemB ⟨⟨#[]⟩, ⟨#[]⟩, 0, 0, kd, ep, f, tg⟩ = false := by simp [itemB, epB, hbk, c0, cc, p0, p1]
                 rw [e])
            exact rz1 (jn @t1 (jn @t2 (jn @t3 (jn @t4 (jn @t5 (jn @t6 (jn @hz (jn @tA_allD (jn @tg0_len (jn @hz2 (jn @itE.eq_1 (jn @fctE.eq_1 (jn @c0 (jn @cc (jn @p0 @p1)))))))))))))))
          · skip
            first
              | (have e : itemB ⟨⟨#[]⟩, ⟨#[]⟩, 0, 0, kd, ep, f, tg⟩ = true := by simp [itemB, epB, hbk, c0, cc, p0, p1]
                 rw [e])
              | (have e : itemB ⟨⟨#[]⟩, ⟨#[]⟩, 0, 0, kd, ep, f, tg⟩ = false := by simp [itemB, epB, hbk, c0, cc, p0, p1]
                 rw [e])
            exact rz1 (jn @t1 (jn @t2 (jn @t3 (jn @t4 (jn @t5 (jn @t6 (jn @hz (jn @tA_allD (jn @tg0_len (jn @hz2 (jn @itE.eq_1 (jn @fctE.eq_1 (jn @c0 (jn @cc (jn @p0 @p1)))))))))))))))
        · skip
          first
            | (have e : itemB ⟨⟨#[]⟩, ⟨#[]⟩, 0, 0, kd, ep, f, tg⟩ = true := by simp [itemB, epB, hbk, c0, cc, p0, p0]
               rw [e])
            | (have e : itemB ⟨⟨#[]⟩, ⟨#[]⟩, 0, 0, kd, ep, f, tg⟩ = false := by simp [itemB, epB, hbk, c0, cc, p0, p0]
               rw [e])
          exact rz1 (jn @t1 (jn @t2 (jn @t3 (jn @t4 (jn @t5 (jn @t6 (jn @hz (jn @tA_allD (jn @tg0_len (jn @hz2 (jn @itE.eq_1 (jn @fctE.eq_1 (jn @c0 (jn @cc (jn @p0 @p0)))))))))))))))
      by_cases cc : kd = 2
      · skip
        by_cases p0 : 0 ≤ ep
        · by_cases p1 : ep ≤ 1073741824
          · have e : itemB ⟨⟨#[]⟩, ⟨#[]⟩, 0, 0, kd, ep, f, tg⟩ = chkF f := by simp [itemB, epB, cc, p0, p1]
            rw [e]
            cases hc : chkF f with
            | true =>
              rw [chkE_ok hc] at k2
              refine rn1 (jn @t1 (jn @t2 (jn @t3 (jn @t4 (jn @t5 (jn @t6 (jn @hz (jn @tA_allD (jn @tg0_len (jn @hz2 (jn @itE.eq_1 (jn @fctE.eq_1 (jn @c0 (jn @cc (jn @p0 @p1))))))))))))))) ?_
              refine HO_pureA ty_ok k2 ?_
              exact rz0
            | false =>
              rw [chkE_no (by rw [hc]; decide)] at k2
              refine rn1 (jn @t1 (jn @t2 (jn @t3 (jn @t4 (jn @t5 (jn @t6 (jn @hz (jn @tA_allD (jn @tg0_len (jn @hz2 (jn @itE.eq_1 (jn @fctE.eq_1 (jn @c0 (jn @cc (jn @p0 @p1))))))))))))))) ?_
              refine HO_pureA ty_ok k2 ?_
              exact rz0
          · skip
            first
              | (have e : itemB ⟨⟨#[]⟩, ⟨#[]⟩, 0, 0, kd, ep, f, tg⟩ = true := by simp [itemB, epB, hbk, c0, cc, p0, p1]
                 rw [e])
              | (have e : itemB ⟨⟨#[]⟩, ⟨#[]⟩, 0, 0, kd, ep, f, tg⟩ = false := by simp [itemB, epB, hbk, c0, cc, p0, p1]
                 rw [e])
            exact rz1 (jn @t1 (jn @t2 (jn @t3 (jn @t4 (jn @t5 (jn @t6 (jn @hz (jn @tA_allD (jn @tg0_len (jn @hz2 (jn @itE.eq_1 (jn @fctE.eq_1 (jn @c0 (jn @cc (jn @p0 @p1)))))))))))))))
        · skip
          first
            | (have e : itemB ⟨⟨#[]⟩, ⟨#[]⟩, 0, 0, kd, ep, f, tg⟩ = true := by simp [itemB, epB, hbk, c0, cc, p0, p0]
               rw [e])
            | (have e : itemB ⟨⟨#[]⟩, ⟨#[]⟩, 0, 0, kd, ep, f, tg⟩ = false := by simp [itemB, epB, hbk, c0, cc, p0, p0]
               rw [e])
          exact rz1 (jn @t1 (jn @t2 (jn @t3 (jn @t4 (jn @t5 (jn @t6 (jn @hz (jn @tA_allD (jn @tg0_len (jn @hz2 (jn @itE.eq_1 (jn @fctE.eq_1 (jn @c0 (jn @cc (jn @p0 @p0)))))))))))))))
      rename_i c1 c3 c4
      have e : itemB ⟨⟨#[]⟩, ⟨#[]⟩, 0, 0, kd, ep, f, tg⟩ = false := by simp [itemB, c0, c1, c3, c4, cc]
      rw [e]
      exact rz1 (jn @t1 (jn @t2 (jn @t3 (jn @t4 (jn @t5 (jn @t6 (jn @hz (jn @tA_allD (jn @tg0_len (jn @hz2 (jn @itE.eq_1 (jn @fctE.eq_1 (jn @c0 (jn @c1 (jn @c3 (jn @c4 @cc))))))))))))))))
end Go.Proofs.YtdbicadncccpoaaDoor
