/- Parts of the proof: MacEq, MacLive, Ring, Ring2, RingNew, RingVer, RingLive, RingFull. -/
import Derived.Test.YtdbicadncccpoaaDoorCJ3
import Derived.Test.YtdbicadncccpoaaDoorCJ1
set_option linter.unusedVariables false
set_option linter.unusedSimpArgs false
set_option maxRecDepth 100000
namespace Go.Proofs.YtdbicadncccpoaaDoor
open Go Go.ChangeShapes Go.WideShapes
theorem of8b (x : UInt8) : BitVec.ofInt 8 (x.toNat : Int) = x.toBitVec := by
  rw [BitVec.ofInt_natCast]; exact BitVec.ofNat_toNat _ _
theorem u8w (x : UInt8) : IntKind.u8.wrap (x.toNat : Int) = (x.toNat : Int) := by
  have := x.toNat_lt; rw [wrap_u8]; omega
theorem or_u8 (x y : UInt8) : ibits .or .u8 (x.toNat : Int) (y.toNat : Int) = ((x ||| y).toNat : Int) := by
  have : ibits .or .u8 (x.toNat : Int) (y.toNat : Int) = IntKind.u8.wrap ((BitVec.ofInt 8 (x.toNat : Int) ||| BitVec.ofInt 8 (y.toNat : Int)).toNat : Int) := rfl
  rw [this, of8b, of8b]; exact u8w (x ||| y)
theorem xor_u8 (x y : UInt8) : ibits .xor .u8 (x.toNat : Int) (y.toNat : Int) = ((x ^^^ y).toNat : Int) := by
  have : ibits .xor .u8 (x.toNat : Int) (y.toNat : Int) = IntKind.u8.wrap ((BitVec.ofInt 8 (x.toNat : Int) ^^^ BitVec.ofInt 8 (y.toNat : Int)).toNat : Int) := rfl
  rw [this, of8b, of8b]; exact u8w (x ^^^ y)
theorem ox_zero (x a b : UInt8) : x ||| (a ^^^ b) = 0 ↔ x = 0 ∧ a = b := by
  rw [UInt8.or_eq_zero_iff, UInt8.xor_eq_zero_iff]
def eqSt (a b : List UInt8) (i : Nat × UInt8) : List (Nat × AV) := [(0, .d (.sl 1 a.length (bD a))), (1, .d (.sl 1 b.length (bD b))), (5, .d (.c (.int .u8 i.2.toNat))), (13, .d (.c (.int .i64 a.length))), (14, .d (.c (.int .i64 i.1)))]
theorem takeE (a b : List UInt8) (i : Nat) (h : i < a.length) (k : a.length = b.length) : a.take (i + 1) = b.take (i + 1) ↔ a.take i = b.take i ∧ a.getD i 0 = b.getD i 0 := by
  rw [List.take_succ_eq_append_getElem h, List.take_succ_eq_append_getElem (by omega), List.getD_eq_getElem?_getD, List.getD_eq_getElem?_getD, List.getElem?_eq_getElem h, List.getElem?_eq_getElem (k ▸ h)]
  constructor
  · intro e
    have := List.append_inj e (by simp; omega)
    exact ⟨this.1, by simpa using this.2⟩
  · rintro ⟨e1, e2⟩
    rw [e1]; simp only [Option.getD_some] at e2; rw [e2]
set_option maxHeartbeats 400000 in
theorem equal_ac (a b : List UInt8) (ha : a.length ≤ 140737488355000) (hb : b.length ≤ 140737488355000) :
    AC Tryd.prog noG 52 [.d (.sl 1 a.length (bD a)), .d (.sl 1 b.length (bD b))] [] (fun v r' => v = .d (.c (.bool (decide (a = b)))) ∧ r' = []) := by
  refine AC.pure ?_ (by rintro v rfl; rfl)
  refine AC_of_R (N := 31) (res := [.tmp 4]) ty_ok Tryd.call52 Tryd.func52 rfl rfl rfl (Nat.le_of_ble_eq_true rfl) ?_
  by_cases hab : a.length = b.length
  · have hi : ¬ ((a.length : Int) ≠ b.length) := by omega
    refine rn1 @hi ?_
    refine HC_loopR (eqSt a b) (fun _ => []) (fun i => i.1 ≤ a.length ∧ (i.2 = 0 ↔ a.take i.1 = b.take i.1)) (fun i => a.length - i.1) (0, 0) [] [] ⟨by simp, by simp⟩ ?_ ?_
    · exact ft1 (jn @eqSt.eq_1 @UInt8.toNat_zero)
    · intro ⟨i, x⟩ ⟨h1, h2⟩
      simp only at h1 h2
      refine HC_of_R ty_ok ?_
      by_cases hlt : i < a.length
      · have hi : (i : Int) < a.length := by omega
        refine rn1 (jn @eqSt.eq_1 @hi) ?_
        refine HC_plan [] ty_ok mix (by kernel_rfl) ?_
        refine rn1 (jn @xor_u8 @or_u8) ?_
        refine ⟨⟨by omega, by omega⟩, ⟨by omega, by omega⟩, (i + 1, x ||| (a.getD i 0 ^^^ b.getD i 0)), ⟨by simp only; omega, ?_⟩, by simp only; omega, [], [], ?_⟩
        · simp only
          rw [ox_zero, takeE a b i hlt hab, h2]
        · exact ft1 @eqSt.eq_1
      · have hi : ¬ (i : Int) < a.length := by omega
        have hb0 : (((x.toNat : Int) = 0) = (a = b)) := by
          rw [List.take_of_length_le (by omega), List.take_of_length_le (by omega)] at h2
          rw [← h2]
          refine propext ⟨fun h => UInt8.toNat.inj (by simpa using h), fun h => by rw [h]; rfl⟩
        exact rz1 (jn @eqSt.eq_1 (jn @hi @hb0))
  · have hi : (a.length : Int) ≠ b.length := by omega
    have hne : a ≠ b := fun h => hab (by rw [h])
    exact rz1 (jn @hi @hne)
end Go.Proofs.YtdbicadncccpoaaDoor

set_option linter.unusedVariables false
set_option linter.unusedSimpArgs false
set_option maxRecDepth 100000
namespace Go.Proofs.YtdbicadncccpoaaDoor
open Go Go.ChangeShapes Go.WideShapes
end Go.Proofs.YtdbicadncccpoaaDoor

set_option linter.unusedVariables false
set_option linter.unusedSimpArgs false
set_option maxRecDepth 100000
namespace Go.Proofs.YtdbicadncccpoaaDoor
open Go Go.ChangeShapes Go.WideShapes
def sD (l : List ByteArray) : List D := l.map fun s => .c (.string s)
theorem sD_len (l : List ByteArray) : (sD l).length = l.length := List.length_map _
theorem sD_get (l : List ByteArray) (i : Nat) (h : i < l.length) : (sD l)[i]? = some (.c (.string l[i])) := by
  rw [sD, List.getElem?_map, List.getElem?_eq_getElem h]; rfl
/-- The ring's keys: those of some names. -/
def kM (n : Int) (l : List ByteArray) : List (D × D) := l.map fun s => (.c (.string s), .agg (bD (keyS n s)))
/-- What somebody signed. -/
structure Pr where
  who : ByteArray
  dom : ByteArray
  mtx : ByteArray
  deriving DecidableEq
def prD (p : Pr) : List D := [.c (.string p.who), .c (.string p.dom), .c (.string p.mtx)]
def bM (l : List Pr) : List (D × D) := l.map fun p => (.agg (prD p), .c (.bool true))
def rgO (l : List ByteArray) (i j : Nat) : List AV := [.d (.sl 1 l.length (sD l)), .mp i, .mp j]
/-- A ring: its maps, its struct. -/
def rg (n : Int) (l : List ByteArray) (bk : List Pr) : Rs := [some (.map (kM n l)), some (.map (bM bk)), some (.obj (rgO l 0 1))]
theorem rg_hand (n : Int) (l : List ByteArray) (bk : List Pr) (rc : Rs) (i j k : Nat) (hi : rc[i]? = some (some (.map (kM n l)))) (hj : rc[j]? = some (some (.map (bM bk)))) (hk : rc[k]? = some (some (.obj (rgO l i j)))) : HandOK (nm [i, j, k] rc.length) rc (rg n l bk) [i, j, k] := by
  refine ⟨fun y h => ?_, fun y h => ?_, fun y h => ?_, trivial⟩
  · injection h with h; subst h
    rw [hi]; rfl
  · injection h with h; subst h
    rw [hj]; rfl
  · injection h with h; subst h
    rw [hk]; rfl
theorem rg_wf (n : Int) (l : List ByteArray) (bk : List Pr) : wfRs (rg n l bk).length (rg n l bk) = true := rfl
set_option maxHeartbeats 400000 in
theorem clone_ac (l : List ByteArray) (h0 : 0 < l.length) (h : l.length ≤ 140737488352) :
    AC Tryd.prog noG 40 [.d (.sl 1 l.length (sD l))] [] (fun v r' => v = .d (.sl 1 l.length (sD l)) ∧ r' = []) := by
  refine AC.dat ?_
  refine AC_of_R (N := 8) (res := [.tmp 2]) ty_ok Tryd.call40 Tryd.func40 rfl rfl rfl (Nat.le_of_ble_eq_true rfl) ?_
  have hn : 0 < (sD l).length := by rw [sD_len]; exact h0
  refine rn1 @hn ?_
  omega
set_option maxHeartbeats 400000 in
theorem none_ac (n : Int) (l : List ByteArray) (bk : List Pr) :
    AC Tryd.prog noG 28 [.ptr 2 0] (rg n l bk) (fun v r' => v = .d (.c (.bool false)) ∧ r' = rg n l bk) := by
  refine AC_of_R (N := 12) (res := [.tmp 2]) ty_ok Tryd.call28 Tryd.func28 rfl rfl rfl (Nat.le_of_ble_eq_true rfl) ?_
  exact rz1 (jn @rg.eq_1 @rgO.eq_1)
theorem tm_k : tM ty 70 = some (9, 27) := by kernel_rfl
theorem tz_k : (ty.f 27).map (fun i => constAV i.zero) = some (.d (.agg (bD z32))) := by kernel_rfl
theorem tm_b : tM ty 71 = some (96, 4) := by kernel_rfl
theorem tz_b : (ty.f 4).map (fun i => constAV i.zero) = some (.d (.c (.bool false))) := by kernel_rfl
theorem tf_k : tF ty 9 = some [.str] := by kernel_rfl
theorem tf_b : tF ty 96 = some [.str, .str, .str] := by kernel_rfl
theorem tg_k : tG ty 9 = false := by kernel_rfl
theorem tg_b : tG ty 96 = true := by kernel_rfl
theorem keq_s (a b : ByteArray) : keyEq [.str] false (.c (.string a)) (.c (.string b)) = some (decide (a = b)) := by
  simp [keyEq, formD, cellsD, eqD, ckD, ckV, and2]
def memB (s : ByteArray) : List ByteArray → Bool
  | [] => false
  | a :: l => decide (s = a) || memB s l
theorem find_k (n : Int) (s : ByteArray) : ∀ (l : List ByteArray) (i : Nat), (memB s l = false ∧ findI [.str] false (.c (.string s)) (kM n l) i = some none) ∨ (memB s l = true ∧ ∃ j, findI [.str] false (.c (.string s)) (kM n l) i = some (some (j, .agg (bD (keyS n s)))))
  | [], i => .inl ⟨rfl, rfl⟩
  | a :: l, i => by
    show (_ ∧ findI _ _ _ ((.c (.string a), .agg (bD (keyS n a))) :: kM n l) i = _) ∨ (_ ∧ ∃ j, findI _ _ _ ((.c (.string a), .agg (bD (keyS n a))) :: kM n l) i = _)
    simp only [findI, keq_s]
    by_cases h : s = a
    · subst h
      refine .inr ⟨by simp [memB], i, by simp⟩
    · rcases find_k n s l (i + 1) with ⟨h1, h2⟩ | ⟨h1, j, h2⟩
      · refine .inl ⟨by simp [memB, h, h1], by simp [h, h2]⟩
      · refine .inr ⟨by simp [memB, h1], j, by simp [h, h2]⟩
set_option maxHeartbeats 400000 in
theorem is_ac (n : Int) (l : List ByteArray) (bk : List Pr) (s : ByteArray) :
    AC Tryd.prog noG 43 [.ptr 2 0, .d (.c (.string s))] (rg n l bk) (fun v r' => v = .d (.c (.bool (memB s l))) ∧ r' = rg n l bk) := by
  refine AC.fit ?_
  refine AC_of_R (N := 19) (res := [.tmp 4]) ty_ok Tryd.call43 Tryd.func43 rfl rfl rfl (Nat.le_of_ble_eq_true rfl) ?_
  refine rn1 (jn @rg.eq_1 @rgO.eq_1) ?_
  refine HO_callX ty_ok [0, 1, 2] (none_ac n l bk) (rg_hand _ _ _ _ _ _ _ rfl rfl rfl) (rg_wf _ _ _) ?_
  rintro v r' ⟨rfl, rfl⟩ _
  refine rn1 (jn @rg.eq_1 @rgO.eq_1) ?_
  rcases find_k n s l 0 with ⟨h1, h2⟩ | ⟨h1, j, h2⟩
  · refine HO_lookup ty_ok rfl rfl rfl rfl tm_k tf_k tg_k (keq_s s s) h2 tz_k rfl ?_
    obtain ⟨hl, hb, ht, hm, hsp⟩ := dig32 z32 rfl
    refine rn1 (jn @lkRes.eq_1 (jn @lkRes.eq_2 (jn @lkRes.eq_3 (jn @lkRes.eq_4 (jn @h1 (jn @hm (jn @hl (jn @hb (jn @ht @hsp))))))))) ?_
    clear hsp
    exact fv0 [0,1,2] []
  · refine HO_lookup ty_ok rfl rfl rfl rfl tm_k tf_k tg_k (keq_s s s) h2 tz_k rfl ?_
    obtain ⟨hl, hb, ht, hm, hsp⟩ := dig32 (keyS n s) (keyS_len n s)
    refine rn1 (jn @lkRes.eq_1 (jn @lkRes.eq_2 (jn @lkRes.eq_3 (jn @lkRes.eq_4 (jn @h1 (jn @hm (jn @hl (jn @hb (jn @ht @hsp))))))))) ?_
    clear hsp
    exact fv0 [0,1,2] []
/-- The tag, as a ring makes it. -/
def rtag (n : Int) (who dom : ByteArray) (b : List UInt8) : List UInt8 := tagS (keyS n who) dom b
theorem rtag_len (n : Int) (who dom : ByteArray) (b : List UInt8) : (rtag n who dom b).length = 32 := tagS_len _ _ _
set_option maxHeartbeats 400000 in
theorem tag_ac (n : Int) (l : List ByteArray) (bk : List Pr) (who dom : ByteArray) (b : List UInt8) (hw : memB who l = true) (h : dom.size + b.length ≤ 140737488354000) :
    AC Tryd.prog noG 44 [.ptr 2 0, .d (.c (.string who)), .d (.c (.string dom)), .d (.sl 1 b.length (bD b))] (rg n l bk) (fun v r' => v = .d (.agg (bD (rtag n who dom b))) ∧ r' = rg n l bk) := by
  refine AC.fit ?_
  refine AC_of_R (N := 20) (res := [.cell 8 27]) ty_ok Tryd.call44 Tryd.func44 rfl rfl rfl (Nat.le_of_ble_eq_true rfl) ?_
  refine rn1 (jn @rg.eq_1 @rgO.eq_1) ?_
  rcases find_k n who l 0 with ⟨h1, h2⟩ | ⟨h1, j, h2⟩
  · rw [hw] at h1; cases h1
  refine HO_lookup ty_ok rfl rfl rfl rfl tm_k tf_k tg_k (keq_s who who) h2 tz_k rfl ?_
  obtain ⟨K, hK⟩ : ∃ K, K = keyS n who := ⟨_, rfl⟩
  have hKl : K.length = 32 := by rw [hK, keyS_len]
  have hT : rtag n who dom b = tagS K dom b := by rw [rtag, hK]
  rw [← hK]
  obtain ⟨hl, hb, ht, hm, hsp⟩ := dig32 K hKl
  refine rn1 (jn @lkRes.eq_1 (jn @lkRes.eq_2 (jn @lkRes.eq_3 (jn @lkRes.eq_4 (jn @hm (jn @hl (jn @hb (jn @ht @hsp)))))))) ?_
  clear hsp
  have kd := mTag_ac K dom b (by omega) h
  have hbd : (AV.d (.sl 1 32 (bD K))) = .d (.sl 1 32 (((bD K).drop 0).take (32 * 1))) := by
    rw [List.drop_zero, List.take_of_length_le (by rw [bD_length, hKl]; decide)]
  rw [hKl, ← hT, hbd] at kd
  refine ⟨⟨by decide, by decide⟩, HO_lend ty_ok kd (scal_bD _) rfl rfl rfl (by kernel_rfl) ⟨BwA.osl rfl (bA_allD _) (by decide), BwA.val (.refl _) rfl, BwA.val (.refl _) rfl, trivial⟩ ?_⟩
  obtain ⟨hl, hb, ht, hm, hsp⟩ := dig32 (rtag n who dom b) (rtag_len n who dom b)
  refine rn1 (jn @hm (jn @hl (jn @hb (jn @ht (jn @hsp @bA_allD))))) ?_
  clear hsp
  exact fv1 [0,1,2] [] @bA_wf
set_option maxHeartbeats 400000 in
theorem verify_ac (n : Int) (l : List ByteArray) (bk : List Pr) (who dom : ByteArray) (b t : List UInt8) (h : dom.size + b.length ≤ 140737488354000) (h2 : t.length ≤ 140737488354000) :
    AC Tryd.prog noG 29 [.ptr 2 0, .d (.c (.string who)), .d (.c (.string dom)), .d (.sl 1 b.length (bD b)), .d (.sl 1 t.length (bD t))] (rg n l bk) (fun v r' => v = .d (.c (.bool (memB who l && decide (rtag n who dom b = t)))) ∧ r' = rg n l bk) := by
  refine AC.fit ?_
  refine AC_of_R (N := 24) (res := [.tmp 10]) ty_ok Tryd.call29 Tryd.func29 rfl rfl rfl (Nat.le_of_ble_eq_true rfl) ?_
  refine rn1 (jn @rg.eq_1 @rgO.eq_1) ?_
  refine HO_callX ty_ok [0, 1, 2] (is_ac n l bk who) (rg_hand _ _ _ _ _ _ _ rfl rfl rfl) (rg_wf _ _ _) ?_
  rintro v r' ⟨rfl, rfl⟩ _
  cases hw : memB who l with
  | false =>
    refine rn1 (jn @rg.eq_1 @rgO.eq_1) ?_
    exact fv0 [0,1,2] []
  | true =>
    refine rn1 (jn @rg.eq_1 @rgO.eq_1) ?_
    refine HO_callX ty_ok [0, 1, 2] (tag_ac n l bk who dom b hw h) (rg_hand _ _ _ _ _ _ _ rfl rfl rfl) (rg_wf _ _ _) ?_
    rintro v r' ⟨rfl, rfl⟩ _
    obtain ⟨K, hK⟩ : ∃ K, K = rtag n who dom b := ⟨_, rfl⟩
    have hKl : K.length = 32 := by rw [hK, rtag_len]
    rw [← hK]
    obtain ⟨hl, hb, ht, hm, hsp⟩ := dig32 K hKl
    refine rn1 (jn @rg.eq_1 (jn @rgO.eq_1 (jn @hm (jn @hl (jn @hb (jn @ht @hsp)))))) ?_
    clear hsp
    have kd := equal_ac K t (by omega) (by omega)
    have hbd : (AV.d (.sl 1 32 (bD K))) = .d (.sl 1 32 (((bD K).drop 0).take (32 * 1))) := by
      rw [List.drop_zero, List.take_of_length_le (by rw [bD_length, hKl]; decide)]
    rw [hKl, hbd] at kd
    refine ⟨⟨by decide, by decide⟩, HO_lend ty_ok kd (rfl) rfl rfl rfl (by kernel_rfl) ⟨BwA.osl rfl (bA_allD _) (by decide), BwA.val (.refl _) rfl, trivial⟩ ?_⟩
    refine rn0 ?_
    exact fv1 [0,1,2] [] @bA_wf
end Go.Proofs.YtdbicadncccpoaaDoor

set_option linter.unusedVariables false
set_option linter.unusedSimpArgs false
set_option maxRecDepth 100000
namespace Go.Proofs.YtdbicadncccpoaaDoor
open Go Go.ChangeShapes Go.WideShapes
theorem prq (p q : Pr) : keyEq [.str, .str, .str] true (.agg (prD p)) (.agg (prD q)) = some (decide (p = q)) := by
  obtain ⟨a, b, c⟩ := p
  obtain ⟨a', b', c'⟩ := q
  simp only [keyEq, formD, cellsD, prD, eqD, ckD, ckV, and2, Bool.and_self, if_true, Bool.and_true, Pr.mk.injEq]
  congr 1
  simp [Bool.and_comm, Bool.and_assoc, Bool.decide_and]
def memP (p : Pr) : List Pr → Bool
  | [] => false
  | a :: l => decide (p = a) || memP p l
theorem find_b (p : Pr) : ∀ (l : List Pr) (i : Nat), (memP p l = false ∧ findI [.str, .str, .str] true (.agg (prD p)) (bM l) i = some none) ∨ (memP p l = true ∧ ∃ j, findI [.str, .str, .str] true (.agg (prD p)) (bM l) i = some (some (i + j, .c (.bool true))) ∧ (bM l)[j]? = some (.agg (prD p), .c (.bool true)))
  | [], i => .inl ⟨rfl, rfl⟩
  | a :: l, i => by
    show (_ ∧ findI _ _ _ ((.agg (prD a), .c (.bool true)) :: bM l) i = _) ∨ (_ ∧ ∃ j, findI _ _ _ ((.agg (prD a), .c (.bool true)) :: bM l) i = _ ∧ ((.agg (prD a), .c (.bool true)) :: bM l)[j]? = _)
    simp only [findI, prq]
    by_cases h : p = a
    · subst h
      refine .inr ⟨by simp [memP], 0, by simp⟩
    · rcases find_b p l (i + 1) with ⟨h1, h2⟩ | ⟨h1, j, h2, h3⟩
      · refine .inl ⟨by simp [memP, h, h1], by simp [h, h2]⟩
      · refine .inr ⟨by simp [memP, h1], j + 1, by simp [h, h2, Nat.add_assoc, Nat.add_comm 1 j], by simpa using h3⟩
theorem list_set_self {α : Type} : ∀ (l : List α) (j : Nat) (a : α), l[j]? = some a → l.set j a = l
  | [], _, _, h => by simp at h
  | x :: l, 0, a, h => by simp at h; subst h; rfl
  | x :: l, j + 1, a, h => by rw [List.set_cons_succ, list_set_self l j a (by simpa using h)]
def strB (b : List UInt8) : ByteArray := ⟨b.toArray⟩
theorem strB_toList (b : List UInt8) : (strB b).toList = b := by rw [Go.ByteArray.toList_eq]; rfl
theorem strB_inj {a b : List UInt8} (h : strB a = strB b) : a = b := by rw [← strB_toList a, h, strB_toList]
def pr (who dom : ByteArray) (b : List UInt8) : Pr := ⟨who, dom, strB b⟩
theorem len_m (kk bb : List (D × D)) (oo : List (Option Res)) : lenAV ty (some (.map kk) :: some (.map bb) :: oo) 71 (.mp 1) = some (bb.length : Int) := rfl
set_option maxHeartbeats 400000 in
theorem rlen_ac (n : Int) (l : List ByteArray) (bk : List Pr) :
    AC Tryd.prog noG 13 [.ptr 2 0] (rg n l bk) (fun v r' => v = .d (.c (.int .i64 bk.length)) ∧ r' = rg n l bk) := by
  refine AC_of_R (N := 10) (res := [.tmp 2]) ty_ok Tryd.call13 Tryd.func13 rfl rfl rfl (Nat.le_of_ble_eq_true rfl) ?_
  refine rn1 (jn @rg.eq_1 @rgO.eq_1) ?_
  refine HO_callX ty_ok [0, 1, 2] (none_ac n l bk) (rg_hand _ _ _ _ _ _ _ rfl rfl rfl) (rg_wf _ _ _) ?_
  rintro v r' ⟨rfl, rfl⟩ _
  have hb : (bM bk).length = bk.length := List.length_map _
  exact rz1 (jn @rg.eq_1 (jn @rgO.eq_1 (jn @len_m @hb)))
/-- What signing comes to: an error's number, and the book behind it. -/
def signE (l : List ByteArray) (bk : List Pr) (who dom : ByteArray) (b : List UInt8) : Int :=
  if memB who l = false then 60 else if 65536 < dom.size + b.length then 3 else if memP (pr who dom b) bk = false ∧ 4096 ≤ bk.length then 150 else 0
def signT (n : Int) (l : List ByteArray) (bk : List Pr) (who dom : ByteArray) (b : List UInt8) : List UInt8 := if signE l bk who dom b = 0 then rtag n who dom b else z32
def signB (l : List ByteArray) (bk : List Pr) (who dom : ByteArray) (b : List UInt8) : List Pr := if signE l bk who dom b = 0 ∧ memP (pr who dom b) bk = false then bk ++ [pr who dom b] else bk
theorem signT_len (n : Int) (l : List ByteArray) (bk : List Pr) (who dom : ByteArray) (b : List UInt8) : (signT n l bk who dom b).length = 32 := by
  unfold signT; split
  · exact rtag_len _ _ _ _
  · rfl
set_option maxHeartbeats 400000 in
theorem sign_ac (n : Int) (l : List ByteArray) (bk : List Pr) (who dom : ByteArray) (b : List UInt8) (hd : dom.size ≤ 140737488352000) (hb0 : b.length ≤ 140737488352000) :
    AC Tryd.prog noG 25 [.ptr 2 0, .d (.c (.string who)), .d (.c (.string dom)), .d (.sl 1 b.length (bD b))] (rg n l bk)
      (fun v r' => v = .tup [.d (.agg (bD (signT n l bk who dom b))), .d (.c (.int .i64 (signE l bk who dom b)))] ∧ r' = rg n l (signB l bk who dom b)) := by
  refine AC.fit ?_
  refine AC_of_R (N := 65) (res := [.cell 8 27, .tmp 9]) ty_ok Tryd.call25 Tryd.func25 rfl rfl rfl (Nat.le_of_ble_eq_true rfl) ?_
  obtain ⟨zl, zb, zt, zm, zsp⟩ := dig32 z32 rfl
  have hz0 : ([UInt8.ofNat 0, UInt8.ofNat 0, UInt8.ofNat 0, UInt8.ofNat 0, UInt8.ofNat 0, UInt8.ofNat 0, UInt8.ofNat 0, UInt8.ofNat 0, UInt8.ofNat 0, UInt8.ofNat 0, UInt8.ofNat 0, UInt8.ofNat 0, UInt8.ofNat 0, UInt8.ofNat 0, UInt8.ofNat 0, UInt8.ofNat 0, UInt8.ofNat 0, UInt8.ofNat 0, UInt8.ofNat 0, UInt8.ofNat 0, UInt8.ofNat 0, UInt8.ofNat 0, UInt8.ofNat 0, UInt8.ofNat 0, UInt8.ofNat 0, UInt8.ofNat 0, UInt8.ofNat 0, UInt8.ofNat 0, UInt8.ofNat 0, UInt8.ofNat 0, UInt8.ofNat 0, UInt8.ofNat 0] : List UInt8) = z32 := rfl
  refine rn1 (jn @rg.eq_1 @rgO.eq_1) ?_
  refine HO_callX ty_ok [0, 1, 2] (none_ac n l bk) (rg_hand _ _ _ _ _ _ _ rfl rfl rfl) (rg_wf _ _ _) ?_
  rintro v r' ⟨rfl, rfl⟩ _
  refine rn1 (jn @rg.eq_1 @rgO.eq_1) ?_
  refine HO_callX ty_ok [0, 1, 2] (is_ac n l bk who) (rg_hand _ _ _ _ _ _ _ rfl rfl rfl) (rg_wf _ _ _) ?_
  rintro v r' ⟨rfl, rfl⟩ _
  cases hw : memB who l with
  | false =>
    refine rn1 (jn @rg.eq_1 (jn @rgO.eq_1 (jn @hz0 (jn @zl (jn @zb (jn @zt (jn @zm @zsp))))))) ?_
    have e1 : signE l bk who dom b = 60 := by rw [signE, if_pos hw]
    have e2 : signT n l bk who dom b = z32 := by rw [signT, e1, if_neg (by decide)]
    have e3 : signB l bk who dom b = bk := by rw [signB, e1, if_neg (fun h => absurd h.1 (by decide))]
    rw [e1, e2, e3]
    clear zsp
    exact fv0 [0,1,2] []
  | true =>
    have hw' : ¬ memB who l = false := by rw [hw]; decide
    by_cases g1 : (b.length : Int) > 65536
    · refine rn1 (jn @rg.eq_1 (jn @rgO.eq_1 (jn @hz0 (jn @zl (jn @zb (jn @zt (jn @zm (jn @zsp @g1)))))))) ?_
      have e1 : signE l bk who dom b = 3 := by rw [signE, if_neg hw', if_pos (by omega)]
      have e2 : signT n l bk who dom b = z32 := by rw [signT, e1, if_neg (by decide)]
      have e3 : signB l bk who dom b = bk := by rw [signB, e1, if_neg (fun h => absurd h.1 (by decide))]
      rw [e1, e2, e3]
      clear zsp
      exact fv0 [0,1,2] []
    by_cases g2 : (dom.size : Int) > 65536 - b.length
    · refine rn1 (jn @rg.eq_1 (jn @rgO.eq_1 (jn @hz0 (jn @zl (jn @zb (jn @zt (jn @zm (jn @zsp (jn @g1 @g2))))))))) ?_
      have e1 : signE l bk who dom b = 3 := by rw [signE, if_neg hw', if_pos (by omega)]
      have e2 : signT n l bk who dom b = z32 := by rw [signT, e1, if_neg (by decide)]
      have e3 : signB l bk who dom b = bk := by rw [signB, e1, if_neg (fun h => absurd h.1 (by decide))]
      rw [e1, e2, e3]
      clear zsp
      exact fv0 [0,1,2] []
    refine rn1 (jn @rg.eq_1 (jn @rgO.eq_1 (jn @g1 @g2))) ?_
    refine HC_plan [] ty_ok mix (by kernel_rfl) ?_
    refine rn0 ?_
    have hbl : (bM bk).length = bk.length := List.length_map _
    rcases find_b (pr who dom b) bk 0 with ⟨h1, h2⟩ | ⟨h1, j, h2, h3⟩
    · refine HO_lookup ty_ok rfl rfl rfl rfl tm_b tf_b tg_b (prq (pr who dom b) (pr who dom b)) h2 tz_b rfl ?_
      by_cases g3 : (bk.length : Int) ≥ 4096
      · refine rn1 (jn @lkRes.eq_1 (jn @lkRes.eq_2 (jn @lkRes.eq_3 (jn @lkRes.eq_4 (jn @len_m (jn @hbl (jn @g3 (jn @hz0 (jn @zl (jn @zb (jn @zt (jn @zm (jn @zsp @bA_allD))))))))))))) ?_
        have e1 : signE l bk who dom b = 150 := by rw [signE, if_neg hw', if_neg (by omega), if_pos ⟨h1, by omega⟩]
        have e2 : signT n l bk who dom b = z32 := by rw [signT, e1, if_neg (by decide)]
        have e3 : signB l bk who dom b = bk := by rw [signB, e1, if_neg (fun h => absurd h.1 (by decide))]
        rw [e1, e2, e3]
        clear zsp
        exact fv0 [0,1,2] []
      · refine rn1 (jn @lkRes.eq_1 (jn @lkRes.eq_2 (jn @lkRes.eq_3 (jn @lkRes.eq_4 (jn @len_m (jn @hbl @g3)))))) ?_
        have e1 : signE l bk who dom b = 0 := by rw [signE, if_neg hw', if_neg (by omega), if_neg (fun h => by omega)]
        have e3 : signB l bk who dom b = bk ++ [pr who dom b] := by rw [signB, e1, if_pos ⟨rfl, h1⟩]
        have hput : putM (.agg [D.c (.string who), .c (.string dom), .c (.string ⟨b.toArray⟩)]) (.c (.bool true)) (bM bk) none = bM (bk ++ [pr who dom b]) := by
          rw [bM, bM, List.map_append]; rfl
        refine HC_plan [] ty_ok mix (by kernel_rfl) ?_
        refine rn0 ?_
        refine HO_mapUpdate ty_ok rfl rfl rfl rfl rfl tm_b tf_b tg_b (prq (pr who dom b) (pr who dom b)) h2 rfl rfl ?_
        refine rn1 @hput ?_
        refine HO_callX ty_ok [0, 1, 2] (tag_ac n l (bk ++ [pr who dom b]) who dom b hw (by omega)) (rg_hand _ _ _ _ _ _ _ rfl rfl rfl) (rg_wf _ _ _) ?_
        rintro v r' ⟨rfl, rfl⟩ _
        have e2 : signT n l bk who dom b = rtag n who dom b := by rw [signT, e1, if_pos rfl]
        obtain ⟨K, hK⟩ : ∃ K, K = rtag n who dom b := ⟨_, rfl⟩
        have hKl : K.length = 32 := by rw [hK, rtag_len]
        rw [← hK] at e2 ⊢
        obtain ⟨hl, hb, ht, hm, hsp⟩ := dig32 K hKl
        refine rn1 (jn @rg.eq_1 (jn @rgO.eq_1 (jn @hm (jn @hl (jn @hb (jn @ht (jn @hsp @bA_allD))))))) ?_
        clear hsp zsp
        rw [e1, e2, e3]
        exact fv0 [0,1,2] []
    · refine HO_lookup ty_ok rfl rfl rfl rfl tm_b tf_b tg_b (prq (pr who dom b) (pr who dom b)) h2 tz_b rfl ?_
      refine rn1 (jn @lkRes.eq_1 (jn @lkRes.eq_2 (jn @lkRes.eq_3 (jn @lkRes.eq_4 (jn @len_m @hbl))))) ?_
      have h1' : ¬ memP (pr who dom b) bk = false := by rw [h1]; decide
      have e1 : signE l bk who dom b = 0 := by rw [signE, if_neg hw', if_neg (by omega), if_neg (fun h => h1' h.1)]
      have e3 : signB l bk who dom b = bk := by rw [signB, if_neg (fun h => h1' h.2)]
      have hput : putM (.agg [D.c (.string who), .c (.string dom), .c (.string ⟨b.toArray⟩)]) (.c (.bool true)) (bM bk) (some (j, .c (.bool true))) = bM bk := by
        simp only [putM]
        exact list_set_self _ _ _ h3
      refine HC_plan [] ty_ok mix (by kernel_rfl) ?_
      refine rn0 ?_
      refine HO_mapUpdate ty_ok rfl rfl rfl rfl rfl tm_b tf_b tg_b (prq (pr who dom b) (pr who dom b)) h2 rfl rfl ?_
      refine rn1 @hput ?_
      refine HO_callX ty_ok [0, 1, 2] (tag_ac n l bk who dom b hw (by omega)) (rg_hand _ _ _ _ _ _ _ rfl rfl rfl) (rg_wf _ _ _) ?_
      rintro v r' ⟨rfl, rfl⟩ _
      have e2 : signT n l bk who dom b = rtag n who dom b := by rw [signT, e1, if_pos rfl]
      obtain ⟨K, hK⟩ : ∃ K, K = rtag n who dom b := ⟨_, rfl⟩
      have hKl : K.length = 32 := by rw [hK, rtag_len]
      rw [← hK] at e2 ⊢
      obtain ⟨hl, hb, ht, hm, hsp⟩ := dig32 K hKl
      refine rn1 (jn @rg.eq_1 (jn @rgO.eq_1 (jn @hm (jn @hl (jn @hb (jn @ht (jn @hsp @bA_allD))))))) ?_
      clear hsp zsp
      rw [e1, e2, e3]
      exact fv0 [0,1,2] []
end Go.Proofs.YtdbicadncccpoaaDoor

set_option linter.unusedVariables false
set_option linter.unusedSimpArgs false
set_option maxRecDepth 100000
namespace Go.Proofs.YtdbicadncccpoaaDoor
open Go Go.ChangeShapes Go.WideShapes
def okN : List ByteArray → List ByteArray → Bool
  | _, [] => true
  | seen, s :: r => !memB s seen && (decide (0 < s.size) && (decide (s.size ≤ 32) && okN (seen ++ [s]) r))
def newE (l : List ByteArray) : Int := if 6 < l.length then 3 else if l.length = 0 then 2 else if okN [] l = true then 0 else 2
theorem okN_step (l : List ByteArray) (i : Nat) (h : i < l.length) : okN (l.take i) (l.drop i) = (!memB l[i] (l.take i) && (decide (0 < l[i].size) && (decide (l[i].size ≤ 32) && okN (l.take (i + 1)) (l.drop (i + 1))))) := by
  rw [List.drop_eq_getElem_cons h, okN, ← List.take_succ_eq_append_getElem h]
def rgL (n : Int) (l : List ByteArray) (i : Nat) : Rs := [some (.map (kM n (l.take i))), some (.map []), some (.obj (rgO l 0 1))]
def nwSt (n : Int) (l : List ByteArray) (i : Nat) : List (Nat × AV) := [(0, .d (.c (.int .i64 n))), (1, .d (.sl 1 l.length (sD l))), (4, .d (.c (.pointer none))), (5, .d (.c (.int .i64 0))), (6, .ptr 2 0), (23, .d (.sl 1 l.length (sD l))), (24, .d (.c (.int .i64 l.length))), (25, .d (.c (.int .i64 i)))]
theorem size_zero (s : ByteArray) : (s = ⟨#[]⟩) = (s.size = 0) := propext ⟨fun h => by rw [h]; rfl, fun h => by
  obtain ⟨d⟩ := s
  have : d = #[] := Array.eq_empty_of_size_eq_zero h
  rw [this]⟩
theorem kM_put (n : Int) (l : List ByteArray) (i : Nat) (h : i < l.length) : putM (.c (.string l[i])) (.agg (bD (keyS n l[i]))) (kM n (l.take i)) none = kM n (l.take (i + 1)) := by
  rw [putM, List.take_succ_eq_append_getElem h, kM, kM, List.map_append]; rfl
theorem drop_sD (l : List ByteArray) (i : Nat) (h : i < l.length) : ((sD l).drop i)[0]? = some (.c (.string l[i])) := by
  rw [List.getElem?_drop, Nat.add_zero, sD_get l i h]
set_option maxHeartbeats 400000 in
theorem new_ok (n : Int) (l : List ByteArray) (h0 : -9223372036854775808 ≤ n) (h1 : n ≤ 9223372036854775807) (h : newE l = 0) :
    AC Tryd.prog noG 21 [.d (.c (.int .i64 n)), .d (.sl 1 l.length (sD l))] [] (fun v r' => v = .tup [.ptr 2 0, .d (.c (.int .i64 0))] ∧ r' = rg n l []) := by
  have hl6 : ¬ 6 < l.length := fun hc => by rw [newE, if_pos hc] at h; exact absurd h (by decide)
  have hl0 : ¬ l.length = 0 := fun hc => by rw [newE, if_neg hl6, if_pos hc] at h; exact absurd h (by decide)
  have hok : okN [] l = true := by
    cases hk : okN [] l with
    | true => rfl
    | false => rw [newE, if_neg hl6, if_neg hl0, hk] at h; exact absurd h (by decide)
  refine AC.fit ?_
  refine AC_of_R (N := 58) (res := [.tmp 4, .tmp 5]) ty_ok Tryd.call21 Tryd.func21 rfl rfl rfl (Nat.le_of_ble_eq_true rfl) ?_
  have g1 : ¬ (l.length : Int) > 6 := by omega
  have g2 : ¬ (l.length : Int) = 0 := by omega
  refine rn1 (jn @g1 @g2) ?_
  refine HO_pureA ty_ok (clone_ac l (by omega) (by omega)) ?_
  refine rn0 ?_
  refine HO_makeMap ty_ok rfl rfl ?_
  refine rn0 ?_
  refine HO_makeMap ty_ok rfl rfl ?_
  refine rn0 ?_
  refine HC_loopR (nwSt n l) (rgL n l) (fun i => i ≤ l.length ∧ okN (l.take i) (l.drop i) = true) (fun i => l.length - i) 0 [0, 1, 2] [] ⟨by omega, by simpa using hok⟩ ?_ ?_
  · exact ft1 (jn @nwSt.eq_1 (jn @rgL.eq_1 (jn @rgO.eq_1 (jn @List.take_zero.{0} @kM.eq_1))))
  intro i ⟨hi1, hi2⟩
  refine HC_of_R ty_ok ?_
  by_cases hlt : i < l.length
  · have hi : (i : Int) < l.length := by omega
    have hg := sD_get l i hlt
    rw [okN_step l i hlt] at hi2
    simp only [Bool.and_eq_true, Bool.not_eq_true', decide_eq_true_eq] at hi2
    obtain ⟨k1, k2, k3, k4⟩ := hi2
    have kg := drop_sD l i hlt
    have kp := kM_put n l i hlt
    generalize l[i] = s at *
    have hse : ¬ s = ⟨#[]⟩ := by rw [size_zero]; omega
    have g3 : ¬ (s.size : Int) > 32 := by omega
    refine rn1 (jn @nwSt.eq_1 (jn @rgL.eq_1 (jn @rgO.eq_1 (jn @hi (jn @hg @kg))))) ?_
    rcases find_k n s (l.take i) 0 with ⟨f1, f2⟩ | ⟨f1, j, f2⟩
    · refine ⟨by omega, HO_lookup ty_ok rfl rfl rfl rfl tm_k tf_k tg_k (keq_s s s) f2 tz_k rfl ?_⟩
      obtain ⟨zl, zb, zt, zm, zsp⟩ := dig32 z32 rfl
      refine rn1 (jn @lkRes.eq_1 (jn @lkRes.eq_2 (jn @lkRes.eq_3 (jn @lkRes.eq_4 (jn @zl (jn @zb (jn @zt (jn @zm (jn @zsp (jn @hse @g3)))))))))) ?_
      clear zsp
      refine HC_plan [7] ty_ok mix (by kernel_rfl) ?_
      refine rn0 ?_
      refine HO_pureA ty_ok (mKey_ac n s h0 h1 (by omega)) ?_
      refine rn0 ?_
      refine HO_mapUpdate ty_ok rfl rfl rfl rfl rfl tm_k tf_k tg_k (keq_s s s) f2 rfl rfl ?_
      refine rn1 @kp ?_
      refine ⟨i + 1, ⟨by omega, k4⟩, by omega, [0, 1, 2], [], ?_⟩
      exact ft1 (jn @nwSt.eq_1 (jn @rgL.eq_1 @rgO.eq_1))
    · rw [k1] at f1; cases f1
  · have hi : ¬ (i : Int) < l.length := by omega
    have hti : l.take i = l := List.take_of_length_le (by omega)
    refine rn1 (jn @nwSt.eq_1 (jn @rgL.eq_1 (jn @rgO.eq_1 (jn @hi @hti)))) ?_
    exact fv1 [0,1,2] [] @rgO.eq_1
set_option maxHeartbeats 400000 in
theorem new_bad (n : Int) (l : List ByteArray) (h0 : -9223372036854775808 ≤ n) (h1 : n ≤ 9223372036854775807) (h : newE l ≠ 0) :
    AC Tryd.prog noG 21 [.d (.c (.int .i64 n)), .d (.sl 1 l.length (sD l))] [] (fun v r' => v = .tup [.d (.c (.pointer none)), .d (.c (.int .i64 (newE l)))] ∧ r' = []) := by
  refine AC.fit ?_
  refine AC_of_R (N := 58) (res := [.tmp 4, .tmp 5]) ty_ok Tryd.call21 Tryd.func21 rfl rfl rfl (Nat.le_of_ble_eq_true rfl) ?_
  by_cases hl6 : 6 < l.length
  · have g1 : (l.length : Int) > 6 := by omega
    refine rn1 @g1 ?_
    have e2 : newE l = 3 := by rw [newE, if_pos hl6]
    rw [e2]
    exact fv0 [] []
  by_cases hl0 : l.length = 0
  · have g1 : ¬ (l.length : Int) > 6 := by omega
    have g2 : (l.length : Int) = 0 := by omega
    refine rn1 (jn @g1 @g2) ?_
    have e2 : newE l = 2 := by rw [newE, if_neg hl6, if_pos hl0]
    rw [e2]
    exact fv0 [] []
  have hok : okN [] l = false := by
    cases hk : okN [] l with
    | false => rfl
    | true => rw [newE, if_neg hl6, if_neg hl0, if_pos hk] at h; exact absurd rfl h
  have g1 : ¬ (l.length : Int) > 6 := by omega
  have g2 : ¬ (l.length : Int) = 0 := by omega
  refine rn1 (jn @g1 @g2) ?_
  refine HO_pureA ty_ok (clone_ac l (by omega) (by omega)) ?_
  refine rn0 ?_
  refine HO_makeMap ty_ok rfl rfl ?_
  refine rn0 ?_
  refine HO_makeMap ty_ok rfl rfl ?_
  refine rn0 ?_
  refine HC_loopR (nwSt n l) (rgL n l) (fun i => i ≤ l.length ∧ okN (l.take i) (l.drop i) = false) (fun i => l.length - i) 0 [0, 1, 2] [] ⟨by omega, by simpa using hok⟩ ?_ ?_
  · exact ft1 (jn @nwSt.eq_1 (jn @rgL.eq_1 (jn @rgO.eq_1 (jn @List.take_zero.{0} @kM.eq_1))))
  intro i ⟨hi1, hi2⟩
  refine HC_of_R ty_ok ?_
  by_cases hlt : i < l.length
  · have hi : (i : Int) < l.length := by omega
    have hg := sD_get l i hlt
    rw [okN_step l i hlt] at hi2
    have kg := drop_sD l i hlt
    have kp := kM_put n l i hlt
    generalize l[i] = s at *
    refine rn1 (jn @nwSt.eq_1 (jn @rgL.eq_1 (jn @rgO.eq_1 (jn @hi (jn @hg @kg))))) ?_
    rcases find_k n s (l.take i) 0 with ⟨f1, f2⟩ | ⟨f1, j, f2⟩
    · refine ⟨by omega, HO_lookup ty_ok rfl rfl rfl rfl tm_k tf_k tg_k (keq_s s s) f2 tz_k rfl ?_⟩
      obtain ⟨zl, zb, zt, zm, zsp⟩ := dig32 z32 rfl
      by_cases hse : s = ⟨#[]⟩
      · refine rn1 (jn @lkRes.eq_1 (jn @lkRes.eq_2 (jn @lkRes.eq_3 (jn @lkRes.eq_4 (jn @zl (jn @zb (jn @zt (jn @zm (jn @zsp @hse))))))))) ?_
        clear zsp
        have e2 : newE l = 2 := by rw [newE, if_neg hl6, if_neg hl0, if_neg (by rw [hok]; decide)]
        rw [e2]
        exact fv0 [] []
      by_cases g3 : (s.size : Int) > 32
      · refine rn1 (jn @lkRes.eq_1 (jn @lkRes.eq_2 (jn @lkRes.eq_3 (jn @lkRes.eq_4 (jn @zl (jn @zb (jn @zt (jn @zm (jn @zsp (jn @hse @g3)))))))))) ?_
        clear zsp
        have e2 : newE l = 2 := by rw [newE, if_neg hl6, if_neg hl0, if_neg (by rw [hok]; decide)]
        rw [e2]
        exact fv0 [] []
      have k4 : okN (l.take (i + 1)) (l.drop (i + 1)) = false := by
        rw [size_zero] at hse
        rw [f1, decide_eq_true (show 0 < s.size by omega), decide_eq_true (show s.size ≤ 32 by omega)] at hi2
        simpa using hi2
      refine rn1 (jn @lkRes.eq_1 (jn @lkRes.eq_2 (jn @lkRes.eq_3 (jn @lkRes.eq_4 (jn @zl (jn @zb (jn @zt (jn @zm (jn @zsp (jn @hse @g3)))))))))) ?_
      clear zsp
      refine HC_plan [7] ty_ok mix (by kernel_rfl) ?_
      refine rn0 ?_
      refine HO_pureA ty_ok (mKey_ac n s h0 h1 (by omega)) ?_
      refine rn0 ?_
      refine HO_mapUpdate ty_ok rfl rfl rfl rfl rfl tm_k tf_k tg_k (keq_s s s) f2 rfl rfl ?_
      refine rn1 @kp ?_
      refine ⟨i + 1, ⟨by omega, k4⟩, by omega, [0, 1, 2], [], ?_⟩
      exact ft1 (jn @nwSt.eq_1 (jn @rgL.eq_1 @rgO.eq_1))
    · refine ⟨by omega, HO_lookup ty_ok rfl rfl rfl rfl tm_k tf_k tg_k (keq_s s s) f2 tz_k rfl ?_⟩
      obtain ⟨hl, hb, ht, hm, hsp⟩ := dig32 (keyS n s) (keyS_len n s)
      refine rn1 (jn @lkRes.eq_1 (jn @lkRes.eq_2 (jn @lkRes.eq_3 (jn @lkRes.eq_4 (jn @hl (jn @hb (jn @ht (jn @hm @hsp)))))))) ?_
      clear hsp
      have e2 : newE l = 2 := by rw [newE, if_neg hl6, if_neg hl0, if_neg (by rw [hok]; decide)]
      rw [e2]
      exact fv0 [] []
  · rw [List.drop_of_length_le (by omega)] at hi2
    cases hi2
end Go.Proofs.YtdbicadncccpoaaDoor

set_option linter.unusedVariables false
set_option linter.unusedSimpArgs false
set_option maxRecDepth 100000
namespace Go.Proofs.YtdbicadncccpoaaDoor
open Go Go.ChangeShapes Go.WideShapes
end Go.Proofs.YtdbicadncccpoaaDoor

set_option linter.unusedVariables false
set_option linter.unusedSimpArgs false
set_option maxRecDepth 100000
namespace Go.Proofs.YtdbicadncccpoaaDoor
open Go Go.ChangeShapes Go.WideShapes
def sa : ByteArray := ⟨#[97]⟩
end Go.Proofs.YtdbicadncccpoaaDoor

set_option linter.unusedVariables false
set_option linter.unusedSimpArgs false
set_option maxRecDepth 100000
namespace Go.Proofs.YtdbicadncccpoaaDoor
open Go Go.ChangeShapes Go.WideShapes
def b3 (i : Nat) : List UInt8 := [b8 (i : Int), b8 (ishr .i64 (i : Int) 8), b8 (ishr .i64 (i : Int) 16)]
end Go.Proofs.YtdbicadncccpoaaDoor
