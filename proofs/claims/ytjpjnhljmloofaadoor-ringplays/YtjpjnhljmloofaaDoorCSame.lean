import Derived.Test.YtjpjnhljmloofaaDoorCPutInt
set_option linter.unusedVariables false
set_option linter.unusedSimpArgs false
set_option maxRecDepth 100000
namespace Go.Proofs.YtjpjnhljmloofaaDoor
open Go Go.ChangeShapes Go.WideShapes
set_option maxHeartbeats 1000000 in
theorem same_ac (a b : List UInt8) (ha : a.length ≤ 140737488355000) (hb : b.length ≤ 1000000000000) :
    AC Tryd.prog noG 16 [.d (.sl 1 a.length (bD a)), .d (.sl 1 b.length (bD b))] [] (fun v r' => v = .d (.c (.bool (decide (a = b)))) ∧ r' = []) := by
  refine AC_of_R (N := 10) (res := [.tmp 4]) ty_ok Tryd.call16 Tryd.func16 rfl rfl rfl (Nat.le_of_ble_eq_true rfl) ?_
  refine rn0 ?_
  have : (({ data := a.toArray } : ByteArray) = { data := b.toArray }) = (a = b) := by
    rw [ByteArray.mk.injEq]; exact propext ⟨fun h => by simpa using congrArg Array.toList h, fun h => by rw [h]⟩
  simp only [this]
def putI (b : List UInt8) (n : Int) : List UInt8 := b ++ leb (zig n)
theorem putI_len (b : List UInt8) (n : Int) : (putI b n).length = b.length + (leb (zig n)).length := by simp only [putI, List.length_append]
theorem putInt_dat (b : List UInt8) (n : Int) (h0 : -9223372036854775808 ≤ n) (h1 : n ≤ 9223372036854775807) (hb : b.length ≤ 140737488355000) :
    AC Tryd.prog noG 48 [.d (.sl 1 b.length (bD b)), .d (.c (.int .i64 n))] [] (fun v r' => v = .d (.sl 1 (putI b n).length (bD (putI b n))) ∧ r' = []) :=
  AC.dat ((putInt_ac b n h0 h1 hb).mono (by rintro v r' ⟨rfl, rfl⟩; rfl))
end Go.Proofs.YtjpjnhljmloofaaDoor
