import Derived.Test.YtjpjnhljmloofaaDoorCHashObj
import Derived.Test.YtjpjnhljmloofaaDoorCPutText
set_option linter.unusedVariables false
set_option linter.unusedSimpArgs false
set_option maxRecDepth 100000
namespace Go.Proofs.YtjpjnhljmloofaaDoor
open Go Go.ChangeShapes Go.WideShapes
def mtx (s : ByteArray) (b : List UInt8) : List UInt8 := putTx [] s ++ b
theorem leb_le10 (n : Nat) (h : n ≤ 140737488355328) : (leb (zig n)).length ≤ 10 := leb_len 9 (zig n) (by have := zig_nat n; omega)
theorem mtx_len (s : ByteArray) (b : List UInt8) (hs : s.size ≤ 140737488354000) : (mtx s b).length ≤ s.size + b.length + 10 := by
  have := leb_le10 s.size (by omega)
  rw [mtx, List.length_append, putTx_len, List.length_nil]; omega
set_option maxHeartbeats 400000 in
theorem mText_ac (s : ByteArray) (b : List UInt8) (h : s.size + b.length ≤ 140737488354000) :
    AC Tryd.prog noG 17 [.d (.c (.string s)), .d (.sl 1 b.length (bD b))] [] (fun v r' => v = .d (.sl 1 (mtx s b).length (bD (mtx s b))) ∧ r' = []) := by
  refine AC.dat ?_
  refine AC_of_R (N := 9) (res := [.tmp 4]) ty_ok Tryd.call17 Tryd.func17 rfl rfl rfl (Nat.le_of_ble_eq_true rfl) ?_
  refine rn0 ?_
  refine HO_callX ty_ok [] (putText_ac [] s (by simp) (by simp; omega)) (trivial) rfl ?_
  rintro v r' ⟨rfl, rfl⟩ _
  have h2 := leb_le10 s.size (by omega)
  have h1 : (putTx [] s).length ≤ s.size + 10 := by rw [putTx_len, List.length_nil]; omega
  refine rn0 ?_
  first | (done) | (exact ⟨⟨by omega, by omega⟩, by rw [mtx, List.length_append]⟩)
set_option maxHeartbeats 400000 in
theorem rText_ac (s : ByteArray) (b : List UInt8) (h : s.size + b.length ≤ 140737488354000) :
    AC Tryd.prog noG 18 [.d (.c (.string s)), .d (.sl 1 b.length (bD b))] [] (fun v r' => v = .d (.sl 1 (mtx s b).length (bD (mtx s b))) ∧ r' = []) := by
  refine AC.dat ?_
  refine AC_of_R (N := 9) (res := [.tmp 4]) ty_ok Tryd.call18 Tryd.func18 rfl rfl rfl (Nat.le_of_ble_eq_true rfl) ?_
  refine rn0 ?_
  refine HO_callX ty_ok [] (rputText_ac [] s (by simp) (by simp; omega)) (trivial) rfl ?_
  rintro v r' ⟨rfl, rfl⟩ _
  have h2 := leb_le10 s.size (by omega)
  have h1 : (putTx [] s).length ≤ s.size + 10 := by rw [putTx_len, List.length_nil]; omega
  refine rn0 ?_
  first | (done) | (exact ⟨⟨by omega, by omega⟩, by rw [mtx, List.length_append]⟩)
def xb (c : Int) (x : UInt8) : UInt8 := b8 (ibits .xor .u8 x.toNat c)
theorem xb_prog (x : UInt8) (c : Int) : ibits .xor .u8 (x.toNat : Int) c = ((xb c x).toNat : Int) := by
  have h1 : ibits .xor .u8 (x.toNat : Int) c = IntKind.u8.wrap ((BitVec.ofInt 8 (x.toNat : Int) ^^^ BitVec.ofInt 8 c).toNat : Int) := rfl
  rw [xb, ← b8_wrap, h1, wrap_u8, wrap_u8]; omega
def mpT (f : UInt8 → UInt8) (l : List UInt8) (i : Nat) : List UInt8 := (l.take i).map f ++ l.drop i
theorem mpT_len (f : UInt8 → UInt8) (l : List UInt8) (i : Nat) : (mpT f l i).length = l.length := by
  unfold mpT; rw [List.length_append, List.length_map, List.length_take, List.length_drop]; omega
theorem mpT_get (f : UInt8 → UInt8) (l : List UInt8) (i : Nat) (h : i < l.length) : (mpT f l i).getD i 0 = l.getD i 0 := by
  rw [List.getD_eq_getElem?_getD]
  unfold mpT
  rw [List.getElem?_append_right (by simp; omega), List.length_map, List.length_take, Nat.min_eq_left (by omega), Nat.sub_self, List.getElem?_drop, List.getD_eq_getElem?_getD]; rfl
theorem mpT_set (f : UInt8 → UInt8) (l : List UInt8) (i : Nat) (h : i < l.length) : (mpT f l i).set i (f (l.getD i 0)) = mpT f l (i + 1) := by
  unfold mpT
  rw [List.set_append_right _ _ (by simp; omega), List.length_map, List.length_take, Nat.min_eq_left (by omega), Nat.sub_self, List.drop_eq_getElem_cons h, List.set_cons_zero, List.take_succ_eq_append_getElem h, List.map_append, List.append_assoc, List.getD_eq_getElem?_getD, List.getElem?_eq_getElem h]; rfl
theorem mpT_all (f : UInt8 → UInt8) (l : List UInt8) (i : Nat) (h : l.length ≤ i) : mpT f l i = l.map f := by
  unfold mpT; rw [List.take_of_length_le h, List.drop_of_length_le h, List.append_nil]
theorem mpT_zero (f : UInt8 → UInt8) (l : List UInt8) : mpT f l 0 = l := by simp [mpT]
def pad64 (k : List UInt8) : List UInt8 := k ++ List.replicate (64 - k.length) 0
def padK (k : List UInt8) : List UInt8 := pad64 (if 64 < k.length then sha k else k)
theorem pad64_len (k : List UInt8) (h : k.length ≤ 64) : (pad64 k).length = 64 := by
  rw [pad64, List.length_append, List.length_replicate]; omega
theorem padK_len (k : List UInt8) : (padK k).length = 64 := by
  unfold padK; split
  · exact pad64_len _ (by rw [sha_len]; decide)
  · exact pad64_len _ (by omega)
def tagS (key : List UInt8) (s : ByteArray) (b : List UInt8) : List UInt8 := sha ((padK key).map (xb 92) ++ sha ((padK key).map (xb 54) ++ mtx s b))
theorem tagS_len (key : List UInt8) (s : ByteArray) (b : List UInt8) : (tagS key s b).length = 32 := sha_len _
end Go.Proofs.YtjpjnhljmloofaaDoor
