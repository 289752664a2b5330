import Derived.Test.YtjpjnhljmloofaaDoorCRefTag
set_option linter.unusedVariables false
set_option linter.unusedSimpArgs false
set_option maxRecDepth 100000
namespace Go.Proofs.YtjpjnhljmloofaaDoor
open Go Go.ChangeShapes Go.WideShapes
def keyS (n : Int) (who : ByteArray) : List UInt8 := sha (putTx (putI (putTx [] ⟨#[107, 101, 121]⟩) n) who)
theorem keyS_len (n : Int) (who : ByteArray) : (keyS n who).length = 32 := sha_len _
theorem k0_eq : putTx [] ⟨#[107, 101, 121]⟩ = [6, 107, 101, 121] := by decide +kernel
theorem leb_le (n : Int) (h0 : -9223372036854775808 ≤ n) (h1 : n ≤ 9223372036854775807) : (leb (zig n)).length ≤ 10 := leb_len 9 (zig n) (by have := zig_lt h0 h1; omega)
set_option maxHeartbeats 400000 in
theorem mKey_ac (n : Int) (who : ByteArray) (h0 : -9223372036854775808 ≤ n) (h1 : n ≤ 9223372036854775807) (h : who.size ≤ 140737488351500) :
    AC Tryd.prog noG 22 [.d (.c (.int .i64 n)), .d (.c (.string who))] [] (fun v r' => v = .d (.agg (bD (keyS n who))) ∧ r' = []) := by
  refine AC.pure ?_ (by rintro v rfl; rfl)
  refine AC_of_R (N := 11) (res := [.cell 4 26]) ty_ok Tryd.call22 Tryd.func22 rfl rfl rfl (Nat.le_of_ble_eq_true rfl) ?_
  have hl := leb_le n h0 h1
  have hw := leb_le10 who.size (by omega)
  have hk0 : (putTx [] ⟨#[107, 101, 121]⟩).length = 4 := by rw [k0_eq]; rfl
  have hs0 : ByteArray.size ⟨#[107, 101, 121]⟩ = 3 := rfl
  have hkS : keyS n who = sha (putTx (putI (putTx [] ⟨#[107, 101, 121]⟩) n) who) := rfl
  refine rn0 ?_
  refine HO_pureA ty_ok (putText_dat [] ⟨#[107, 101, 121]⟩ (by simp) (by rw [hs0]; simp)) ?_
  generalize putTx [] ⟨#[107, 101, 121]⟩ = T at *
  refine rn0 ?_
  refine HO_pureA ty_ok (putInt_dat T n h0 h1 (by omega)) ?_
  have hpi := putI_len T n
  refine rn0 ?_
  refine HO_pureA ty_ok (putText_dat (putI T n) who (by omega) (by omega)) ?_
  have hpt := putTx_len (putI T n) who
  refine rn0 ?_
  refine HO_pureA ty_ok (hashSum_ac (putTx (putI T n) who) (by omega)) ?_
  rw [← hkS]
  obtain ⟨hl, hb, ht, hm, hsp⟩ := dig32 (keyS n who) (keyS_len n who)
  exact rz1 (jn @hm (jn @hl (jn @hb (jn @ht (jn @hsp @bA_allD)))))
set_option maxHeartbeats 400000 in
theorem rKey_ac (n : Int) (who : ByteArray) (h0 : -9223372036854775808 ≤ n) (h1 : n ≤ 9223372036854775807) (h : who.size ≤ 140737488351500) :
    AC Tryd.prog noG 23 [.d (.c (.int .i64 n)), .d (.c (.string who))] [] (fun v r' => v = .d (.agg (bD (keyS n who))) ∧ r' = []) := by
  refine AC.pure ?_ (by rintro v rfl; rfl)
  refine AC_of_R (N := 14) (res := [.cell 4 26]) ty_ok Tryd.call23 Tryd.func23 rfl rfl rfl (Nat.le_of_ble_eq_true rfl) ?_
  have hl := leb_le n h0 h1
  have hw := leb_le10 who.size (by omega)
  have hk0 : (putTx [] ⟨#[107, 101, 121]⟩).length = 4 := by rw [k0_eq]; rfl
  have hs0 : ByteArray.size ⟨#[107, 101, 121]⟩ = 3 := rfl
  have hkS : keyS n who = sha (putTx (putI (putTx [] ⟨#[107, 101, 121]⟩) n) who) := rfl
  refine rn0 ?_
  refine HO_pureA ty_ok (rputText_dat [] ⟨#[107, 101, 121]⟩ (by simp) (by rw [hs0]; simp)) ?_
  generalize putTx [] ⟨#[107, 101, 121]⟩ = T at *
  refine rn0 ?_
  refine HO_pureA ty_ok (rputInt_dat T n h0 h1 (by omega)) ?_
  have hpi := putI_len T n
  refine rn0 ?_
  refine HO_pureA ty_ok (rputText_dat (putI T n) who (by omega) (by omega)) ?_
  have hpt := putTx_len (putI T n) who
  refine rn0 ?_
  refine HO_pureA ty_ok (refSum_ac (putTx (putI T n) who) (by omega)) ?_
  rw [← hkS]
  obtain ⟨hl, hb, ht, hm, hsp⟩ := dig32 (keyS n who) (keyS_len n who)
  exact rz1 (jn @hm (jn @hl (jn @hb (jn @ht (jn @hsp @bA_allD)))))
end Go.Proofs.YtjpjnhljmloofaaDoor
