/- Parts of the proof: Tag, RefTag, MacKey. -/
import Derived.Test.YtdbicadncccpoaaDoorCJ2
import Derived.Test.YtdbicadncccpoaaDoorCJ1
set_option linter.unusedVariables false
set_option linter.unusedSimpArgs false
set_option maxRecDepth 100000
namespace Go.Proofs.YtdbicadncccpoaaDoor
open Go Go.ChangeShapes Go.WideShapes
def tgSt (p q : Nat) (s : ByteArray) (b : List UInt8) (i : Nat) : List (Nat × AV) := [(1, .d (.c (.string s))), (2, .d (.sl 1 b.length (bD b))), (6, .ptr 0 0), (8, .ptr p 0), (9, .ptr q 0), (23, .d (.c (.int .i64 i)))]
def tgRe1 (K : List UInt8) (i : Nat) : Rs := [some (.obj [.d (.c (.int .u8 0)), .d (.c (.int .u8 0)), .d (.c (.int .u8 0)), .d (.c (.int .u8 0)), .d (.c (.int .u8 0)), .d (.c (.int .u8 0)), .d (.c (.int .u8 0)), .d (.c (.int .u8 0)), .d (.c (.int .u8 0)), .d (.c (.int .u8 0)), .d (.c (.int .u8 0)), .d (.c (.int .u8 0)), .d (.c (.int .u8 0)), .d (.c (.int .u8 0)), .d (.c (.int .u8 0)), .d (.c (.int .u8 0)), .d (.c (.int .u8 0)), .d (.c (.int .u8 0)), .d (.c (.int .u8 0)), .d (.c (.int .u8 0)), .d (.c (.int .u8 0)), .d (.c (.int .u8 0)), .d (.c (.int .u8 0)), .d (.c (.int .u8 0)), .d (.c (.int .u8 0)), .d (.c (.int .u8 0)), .d (.c (.int .u8 0)), .d (.c (.int .u8 0)), .d (.c (.int .u8 0)), .d (.c (.int .u8 0)), .d (.c (.int .u8 0)), .d (.c (.int .u8 0))]), none, some (.obj (bA (mpT (xb 54) K i))), some (.obj (bA (mpT (xb 92) K i)))]
def tgRe2 (K : List UInt8) (i : Nat) : Rs := [some (.obj [.d (.c (.int .u8 0)), .d (.c (.int .u8 0)), .d (.c (.int .u8 0)), .d (.c (.int .u8 0)), .d (.c (.int .u8 0)), .d (.c (.int .u8 0)), .d (.c (.int .u8 0)), .d (.c (.int .u8 0)), .d (.c (.int .u8 0)), .d (.c (.int .u8 0)), .d (.c (.int .u8 0)), .d (.c (.int .u8 0)), .d (.c (.int .u8 0)), .d (.c (.int .u8 0)), .d (.c (.int .u8 0)), .d (.c (.int .u8 0)), .d (.c (.int .u8 0)), .d (.c (.int .u8 0)), .d (.c (.int .u8 0)), .d (.c (.int .u8 0)), .d (.c (.int .u8 0)), .d (.c (.int .u8 0)), .d (.c (.int .u8 0)), .d (.c (.int .u8 0)), .d (.c (.int .u8 0)), .d (.c (.int .u8 0)), .d (.c (.int .u8 0)), .d (.c (.int .u8 0)), .d (.c (.int .u8 0)), .d (.c (.int .u8 0)), .d (.c (.int .u8 0)), .d (.c (.int .u8 0))]), some (.obj (bA (mpT (xb 54) K i))), some (.obj (bA (mpT (xb 92) K i)))]
theorem cpD (k : List UInt8) (j : Nat) (h : Nat.min k.length 64 = j) (h2 : k.length ≤ 64) : List.take 0 ((AV.d (.c (.int .u8 0)) :: AV.d (.c (.int .u8 0)) :: AV.d (.c (.int .u8 0)) :: AV.d (.c (.int .u8 0)) :: AV.d (.c (.int .u8 0)) :: AV.d (.c (.int .u8 0)) :: AV.d (.c (.int .u8 0)) :: AV.d (.c (.int .u8 0)) :: AV.d (.c (.int .u8 0)) :: AV.d (.c (.int .u8 0)) :: AV.d (.c (.int .u8 0)) :: AV.d (.c (.int .u8 0)) :: AV.d (.c (.int .u8 0)) :: AV.d (.c (.int .u8 0)) :: AV.d (.c (.int .u8 0)) :: AV.d (.c (.int .u8 0)) :: AV.d (.c (.int .u8 0)) :: AV.d (.c (.int .u8 0)) :: AV.d (.c (.int .u8 0)) :: AV.d (.c (.int .u8 0)) :: AV.d (.c (.int .u8 0)) :: AV.d (.c (.int .u8 0)) :: AV.d (.c (.int .u8 0)) :: AV.d (.c (.int .u8 0)) :: AV.d (.c (.int .u8 0)) :: AV.d (.c (.int .u8 0)) :: AV.d (.c (.int .u8 0)) :: AV.d (.c (.int .u8 0)) :: AV.d (.c (.int .u8 0)) :: AV.d (.c (.int .u8 0)) :: AV.d (.c (.int .u8 0)) :: AV.d (.c (.int .u8 0)) :: AV.d (.c (.int .u8 0)) :: AV.d (.c (.int .u8 0)) :: AV.d (.c (.int .u8 0)) :: AV.d (.c (.int .u8 0)) :: AV.d (.c (.int .u8 0)) :: AV.d (.c (.int .u8 0)) :: AV.d (.c (.int .u8 0)) :: AV.d (.c (.int .u8 0)) :: AV.d (.c (.int .u8 0)) :: AV.d (.c (.int .u8 0)) :: AV.d (.c (.int .u8 0)) :: AV.d (.c (.int .u8 0)) :: AV.d (.c (.int .u8 0)) :: AV.d (.c (.int .u8 0)) :: AV.d (.c (.int .u8 0)) :: AV.d (.c (.int .u8 0)) :: AV.d (.c (.int .u8 0)) :: AV.d (.c (.int .u8 0)) :: AV.d (.c (.int .u8 0)) :: AV.d (.c (.int .u8 0)) :: AV.d (.c (.int .u8 0)) :: AV.d (.c (.int .u8 0)) :: AV.d (.c (.int .u8 0)) :: AV.d (.c (.int .u8 0)) :: AV.d (.c (.int .u8 0)) :: AV.d (.c (.int .u8 0)) :: AV.d (.c (.int .u8 0)) :: AV.d (.c (.int .u8 0)) :: AV.d (.c (.int .u8 0)) :: AV.d (.c (.int .u8 0)) :: AV.d (.c (.int .u8 0)) :: AV.d (.c (.int .u8 0)) :: []) : List AV) ++ List.map AV.d (List.take j (bD k)) ++ List.drop (0 + j) (AV.d (.c (.int .u8 0)) :: AV.d (.c (.int .u8 0)) :: AV.d (.c (.int .u8 0)) :: AV.d (.c (.int .u8 0)) :: AV.d (.c (.int .u8 0)) :: AV.d (.c (.int .u8 0)) :: AV.d (.c (.int .u8 0)) :: AV.d (.c (.int .u8 0)) :: AV.d (.c (.int .u8 0)) :: AV.d (.c (.int .u8 0)) :: AV.d (.c (.int .u8 0)) :: AV.d (.c (.int .u8 0)) :: AV.d (.c (.int .u8 0)) :: AV.d (.c (.int .u8 0)) :: AV.d (.c (.int .u8 0)) :: AV.d (.c (.int .u8 0)) :: AV.d (.c (.int .u8 0)) :: AV.d (.c (.int .u8 0)) :: AV.d (.c (.int .u8 0)) :: AV.d (.c (.int .u8 0)) :: AV.d (.c (.int .u8 0)) :: AV.d (.c (.int .u8 0)) :: AV.d (.c (.int .u8 0)) :: AV.d (.c (.int .u8 0)) :: AV.d (.c (.int .u8 0)) :: AV.d (.c (.int .u8 0)) :: AV.d (.c (.int .u8 0)) :: AV.d (.c (.int .u8 0)) :: AV.d (.c (.int .u8 0)) :: AV.d (.c (.int .u8 0)) :: AV.d (.c (.int .u8 0)) :: AV.d (.c (.int .u8 0)) :: AV.d (.c (.int .u8 0)) :: AV.d (.c (.int .u8 0)) :: AV.d (.c (.int .u8 0)) :: AV.d (.c (.int .u8 0)) :: AV.d (.c (.int .u8 0)) :: AV.d (.c (.int .u8 0)) :: AV.d (.c (.int .u8 0)) :: AV.d (.c (.int .u8 0)) :: AV.d (.c (.int .u8 0)) :: AV.d (.c (.int .u8 0)) :: AV.d (.c (.int .u8 0)) :: AV.d (.c (.int .u8 0)) :: AV.d (.c (.int .u8 0)) :: AV.d (.c (.int .u8 0)) :: AV.d (.c (.int .u8 0)) :: AV.d (.c (.int .u8 0)) :: AV.d (.c (.int .u8 0)) :: AV.d (.c (.int .u8 0)) :: AV.d (.c (.int .u8 0)) :: AV.d (.c (.int .u8 0)) :: AV.d (.c (.int .u8 0)) :: AV.d (.c (.int .u8 0)) :: AV.d (.c (.int .u8 0)) :: AV.d (.c (.int .u8 0)) :: AV.d (.c (.int .u8 0)) :: AV.d (.c (.int .u8 0)) :: AV.d (.c (.int .u8 0)) :: AV.d (.c (.int .u8 0)) :: AV.d (.c (.int .u8 0)) :: AV.d (.c (.int .u8 0)) :: AV.d (.c (.int .u8 0)) :: AV.d (.c (.int .u8 0)) :: []) = bA (pad64 k) := by
  have e : ((AV.d (.c (.int .u8 0)) :: AV.d (.c (.int .u8 0)) :: AV.d (.c (.int .u8 0)) :: AV.d (.c (.int .u8 0)) :: AV.d (.c (.int .u8 0)) :: AV.d (.c (.int .u8 0)) :: AV.d (.c (.int .u8 0)) :: AV.d (.c (.int .u8 0)) :: AV.d (.c (.int .u8 0)) :: AV.d (.c (.int .u8 0)) :: AV.d (.c (.int .u8 0)) :: AV.d (.c (.int .u8 0)) :: AV.d (.c (.int .u8 0)) :: AV.d (.c (.int .u8 0)) :: AV.d (.c (.int .u8 0)) :: AV.d (.c (.int .u8 0)) :: AV.d (.c (.int .u8 0)) :: AV.d (.c (.int .u8 0)) :: AV.d (.c (.int .u8 0)) :: AV.d (.c (.int .u8 0)) :: AV.d (.c (.int .u8 0)) :: AV.d (.c (.int .u8 0)) :: AV.d (.c (.int .u8 0)) :: AV.d (.c (.int .u8 0)) :: AV.d (.c (.int .u8 0)) :: AV.d (.c (.int .u8 0)) :: AV.d (.c (.int .u8 0)) :: AV.d (.c (.int .u8 0)) :: AV.d (.c (.int .u8 0)) :: AV.d (.c (.int .u8 0)) :: AV.d (.c (.int .u8 0)) :: AV.d (.c (.int .u8 0)) :: AV.d (.c (.int .u8 0)) :: AV.d (.c (.int .u8 0)) :: AV.d (.c (.int .u8 0)) :: AV.d (.c (.int .u8 0)) :: AV.d (.c (.int .u8 0)) :: AV.d (.c (.int .u8 0)) :: AV.d (.c (.int .u8 0)) :: AV.d (.c (.int .u8 0)) :: AV.d (.c (.int .u8 0)) :: AV.d (.c (.int .u8 0)) :: AV.d (.c (.int .u8 0)) :: AV.d (.c (.int .u8 0)) :: AV.d (.c (.int .u8 0)) :: AV.d (.c (.int .u8 0)) :: AV.d (.c (.int .u8 0)) :: AV.d (.c (.int .u8 0)) :: AV.d (.c (.int .u8 0)) :: AV.d (.c (.int .u8 0)) :: AV.d (.c (.int .u8 0)) :: AV.d (.c (.int .u8 0)) :: AV.d (.c (.int .u8 0)) :: AV.d (.c (.int .u8 0)) :: AV.d (.c (.int .u8 0)) :: AV.d (.c (.int .u8 0)) :: AV.d (.c (.int .u8 0)) :: AV.d (.c (.int .u8 0)) :: AV.d (.c (.int .u8 0)) :: AV.d (.c (.int .u8 0)) :: AV.d (.c (.int .u8 0)) :: AV.d (.c (.int .u8 0)) :: AV.d (.c (.int .u8 0)) :: AV.d (.c (.int .u8 0)) :: []) : List AV) = bA (List.replicate 64 0) := rfl
  have hj : j = k.length := by rw [← h]; exact Nat.min_eq_left h2
  subst hj
  rw [e, List.take_zero, List.nil_append, Nat.zero_add, List.take_of_length_le (by rw [bD_length]; exact Nat.le_refl _)]
  show bA k ++ _ = _
  rw [bA, bA, bA, bD, bD, bD, ← List.map_drop, ← List.map_drop, ← List.map_append, ← List.map_append, List.drop_replicate]; rfl
theorem cpO (k : List UInt8) (h : k.length = 32) : List.take 0 ((AV.d (.c (.int .u8 0)) :: AV.d (.c (.int .u8 0)) :: AV.d (.c (.int .u8 0)) :: AV.d (.c (.int .u8 0)) :: AV.d (.c (.int .u8 0)) :: AV.d (.c (.int .u8 0)) :: AV.d (.c (.int .u8 0)) :: AV.d (.c (.int .u8 0)) :: AV.d (.c (.int .u8 0)) :: AV.d (.c (.int .u8 0)) :: AV.d (.c (.int .u8 0)) :: AV.d (.c (.int .u8 0)) :: AV.d (.c (.int .u8 0)) :: AV.d (.c (.int .u8 0)) :: AV.d (.c (.int .u8 0)) :: AV.d (.c (.int .u8 0)) :: AV.d (.c (.int .u8 0)) :: AV.d (.c (.int .u8 0)) :: AV.d (.c (.int .u8 0)) :: AV.d (.c (.int .u8 0)) :: AV.d (.c (.int .u8 0)) :: AV.d (.c (.int .u8 0)) :: AV.d (.c (.int .u8 0)) :: AV.d (.c (.int .u8 0)) :: AV.d (.c (.int .u8 0)) :: AV.d (.c (.int .u8 0)) :: AV.d (.c (.int .u8 0)) :: AV.d (.c (.int .u8 0)) :: AV.d (.c (.int .u8 0)) :: AV.d (.c (.int .u8 0)) :: AV.d (.c (.int .u8 0)) :: AV.d (.c (.int .u8 0)) :: AV.d (.c (.int .u8 0)) :: AV.d (.c (.int .u8 0)) :: AV.d (.c (.int .u8 0)) :: AV.d (.c (.int .u8 0)) :: AV.d (.c (.int .u8 0)) :: AV.d (.c (.int .u8 0)) :: AV.d (.c (.int .u8 0)) :: AV.d (.c (.int .u8 0)) :: AV.d (.c (.int .u8 0)) :: AV.d (.c (.int .u8 0)) :: AV.d (.c (.int .u8 0)) :: AV.d (.c (.int .u8 0)) :: AV.d (.c (.int .u8 0)) :: AV.d (.c (.int .u8 0)) :: AV.d (.c (.int .u8 0)) :: AV.d (.c (.int .u8 0)) :: AV.d (.c (.int .u8 0)) :: AV.d (.c (.int .u8 0)) :: AV.d (.c (.int .u8 0)) :: AV.d (.c (.int .u8 0)) :: AV.d (.c (.int .u8 0)) :: AV.d (.c (.int .u8 0)) :: AV.d (.c (.int .u8 0)) :: AV.d (.c (.int .u8 0)) :: AV.d (.c (.int .u8 0)) :: AV.d (.c (.int .u8 0)) :: AV.d (.c (.int .u8 0)) :: AV.d (.c (.int .u8 0)) :: AV.d (.c (.int .u8 0)) :: AV.d (.c (.int .u8 0)) :: AV.d (.c (.int .u8 0)) :: AV.d (.c (.int .u8 0)) :: []) : List AV) ++ List.take 32 (List.drop 0 (bA k)) ++ List.drop (0 + 32) (AV.d (.c (.int .u8 0)) :: AV.d (.c (.int .u8 0)) :: AV.d (.c (.int .u8 0)) :: AV.d (.c (.int .u8 0)) :: AV.d (.c (.int .u8 0)) :: AV.d (.c (.int .u8 0)) :: AV.d (.c (.int .u8 0)) :: AV.d (.c (.int .u8 0)) :: AV.d (.c (.int .u8 0)) :: AV.d (.c (.int .u8 0)) :: AV.d (.c (.int .u8 0)) :: AV.d (.c (.int .u8 0)) :: AV.d (.c (.int .u8 0)) :: AV.d (.c (.int .u8 0)) :: AV.d (.c (.int .u8 0)) :: AV.d (.c (.int .u8 0)) :: AV.d (.c (.int .u8 0)) :: AV.d (.c (.int .u8 0)) :: AV.d (.c (.int .u8 0)) :: AV.d (.c (.int .u8 0)) :: AV.d (.c (.int .u8 0)) :: AV.d (.c (.int .u8 0)) :: AV.d (.c (.int .u8 0)) :: AV.d (.c (.int .u8 0)) :: AV.d (.c (.int .u8 0)) :: AV.d (.c (.int .u8 0)) :: AV.d (.c (.int .u8 0)) :: AV.d (.c (.int .u8 0)) :: AV.d (.c (.int .u8 0)) :: AV.d (.c (.int .u8 0)) :: AV.d (.c (.int .u8 0)) :: AV.d (.c (.int .u8 0)) :: AV.d (.c (.int .u8 0)) :: AV.d (.c (.int .u8 0)) :: AV.d (.c (.int .u8 0)) :: AV.d (.c (.int .u8 0)) :: AV.d (.c (.int .u8 0)) :: AV.d (.c (.int .u8 0)) :: AV.d (.c (.int .u8 0)) :: AV.d (.c (.int .u8 0)) :: AV.d (.c (.int .u8 0)) :: AV.d (.c (.int .u8 0)) :: AV.d (.c (.int .u8 0)) :: AV.d (.c (.int .u8 0)) :: AV.d (.c (.int .u8 0)) :: AV.d (.c (.int .u8 0)) :: AV.d (.c (.int .u8 0)) :: AV.d (.c (.int .u8 0)) :: AV.d (.c (.int .u8 0)) :: AV.d (.c (.int .u8 0)) :: AV.d (.c (.int .u8 0)) :: AV.d (.c (.int .u8 0)) :: AV.d (.c (.int .u8 0)) :: AV.d (.c (.int .u8 0)) :: AV.d (.c (.int .u8 0)) :: AV.d (.c (.int .u8 0)) :: AV.d (.c (.int .u8 0)) :: AV.d (.c (.int .u8 0)) :: AV.d (.c (.int .u8 0)) :: AV.d (.c (.int .u8 0)) :: AV.d (.c (.int .u8 0)) :: AV.d (.c (.int .u8 0)) :: AV.d (.c (.int .u8 0)) :: AV.d (.c (.int .u8 0)) :: []) = bA (pad64 k) := by
  have e : ((AV.d (.c (.int .u8 0)) :: AV.d (.c (.int .u8 0)) :: AV.d (.c (.int .u8 0)) :: AV.d (.c (.int .u8 0)) :: AV.d (.c (.int .u8 0)) :: AV.d (.c (.int .u8 0)) :: AV.d (.c (.int .u8 0)) :: AV.d (.c (.int .u8 0)) :: AV.d (.c (.int .u8 0)) :: AV.d (.c (.int .u8 0)) :: AV.d (.c (.int .u8 0)) :: AV.d (.c (.int .u8 0)) :: AV.d (.c (.int .u8 0)) :: AV.d (.c (.int .u8 0)) :: AV.d (.c (.int .u8 0)) :: AV.d (.c (.int .u8 0)) :: AV.d (.c (.int .u8 0)) :: AV.d (.c (.int .u8 0)) :: AV.d (.c (.int .u8 0)) :: AV.d (.c (.int .u8 0)) :: AV.d (.c (.int .u8 0)) :: AV.d (.c (.int .u8 0)) :: AV.d (.c (.int .u8 0)) :: AV.d (.c (.int .u8 0)) :: AV.d (.c (.int .u8 0)) :: AV.d (.c (.int .u8 0)) :: AV.d (.c (.int .u8 0)) :: AV.d (.c (.int .u8 0)) :: AV.d (.c (.int .u8 0)) :: AV.d (.c (.int .u8 0)) :: AV.d (.c (.int .u8 0)) :: AV.d (.c (.int .u8 0)) :: AV.d (.c (.int .u8 0)) :: AV.d (.c (.int .u8 0)) :: AV.d (.c (.int .u8 0)) :: AV.d (.c (.int .u8 0)) :: AV.d (.c (.int .u8 0)) :: AV.d (.c (.int .u8 0)) :: AV.d (.c (.int .u8 0)) :: AV.d (.c (.int .u8 0)) :: AV.d (.c (.int .u8 0)) :: AV.d (.c (.int .u8 0)) :: AV.d (.c (.int .u8 0)) :: AV.d (.c (.int .u8 0)) :: AV.d (.c (.int .u8 0)) :: AV.d (.c (.int .u8 0)) :: AV.d (.c (.int .u8 0)) :: AV.d (.c (.int .u8 0)) :: AV.d (.c (.int .u8 0)) :: AV.d (.c (.int .u8 0)) :: AV.d (.c (.int .u8 0)) :: AV.d (.c (.int .u8 0)) :: AV.d (.c (.int .u8 0)) :: AV.d (.c (.int .u8 0)) :: AV.d (.c (.int .u8 0)) :: AV.d (.c (.int .u8 0)) :: AV.d (.c (.int .u8 0)) :: AV.d (.c (.int .u8 0)) :: AV.d (.c (.int .u8 0)) :: AV.d (.c (.int .u8 0)) :: AV.d (.c (.int .u8 0)) :: AV.d (.c (.int .u8 0)) :: AV.d (.c (.int .u8 0)) :: AV.d (.c (.int .u8 0)) :: []) : List AV) = bA (List.replicate 64 0) := rfl
  rw [e, List.take_zero, List.nil_append, List.drop_zero, List.take_of_length_le (by rw [bA_len, h]; decide)]
  rw [bA, bA, bA, bD, bD, bD, ← List.map_drop, ← List.map_drop, ← List.map_append, ← List.map_append, List.drop_replicate, pad64, h]
theorem dig64 (K : List UInt8) (h : K.length = 64) : (bA K).length = 64 ∧ (bA K).take 64 = bA K ∧ (bD K).map AV.d = bA K ∧ splice (AV.d (.c (.int .u8 0)) :: AV.d (.c (.int .u8 0)) :: AV.d (.c (.int .u8 0)) :: AV.d (.c (.int .u8 0)) :: AV.d (.c (.int .u8 0)) :: AV.d (.c (.int .u8 0)) :: AV.d (.c (.int .u8 0)) :: AV.d (.c (.int .u8 0)) :: AV.d (.c (.int .u8 0)) :: AV.d (.c (.int .u8 0)) :: AV.d (.c (.int .u8 0)) :: AV.d (.c (.int .u8 0)) :: AV.d (.c (.int .u8 0)) :: AV.d (.c (.int .u8 0)) :: AV.d (.c (.int .u8 0)) :: AV.d (.c (.int .u8 0)) :: AV.d (.c (.int .u8 0)) :: AV.d (.c (.int .u8 0)) :: AV.d (.c (.int .u8 0)) :: AV.d (.c (.int .u8 0)) :: AV.d (.c (.int .u8 0)) :: AV.d (.c (.int .u8 0)) :: AV.d (.c (.int .u8 0)) :: AV.d (.c (.int .u8 0)) :: AV.d (.c (.int .u8 0)) :: AV.d (.c (.int .u8 0)) :: AV.d (.c (.int .u8 0)) :: AV.d (.c (.int .u8 0)) :: AV.d (.c (.int .u8 0)) :: AV.d (.c (.int .u8 0)) :: AV.d (.c (.int .u8 0)) :: AV.d (.c (.int .u8 0)) :: AV.d (.c (.int .u8 0)) :: AV.d (.c (.int .u8 0)) :: AV.d (.c (.int .u8 0)) :: AV.d (.c (.int .u8 0)) :: AV.d (.c (.int .u8 0)) :: AV.d (.c (.int .u8 0)) :: AV.d (.c (.int .u8 0)) :: AV.d (.c (.int .u8 0)) :: AV.d (.c (.int .u8 0)) :: AV.d (.c (.int .u8 0)) :: AV.d (.c (.int .u8 0)) :: AV.d (.c (.int .u8 0)) :: AV.d (.c (.int .u8 0)) :: AV.d (.c (.int .u8 0)) :: AV.d (.c (.int .u8 0)) :: AV.d (.c (.int .u8 0)) :: AV.d (.c (.int .u8 0)) :: AV.d (.c (.int .u8 0)) :: AV.d (.c (.int .u8 0)) :: AV.d (.c (.int .u8 0)) :: AV.d (.c (.int .u8 0)) :: AV.d (.c (.int .u8 0)) :: AV.d (.c (.int .u8 0)) :: AV.d (.c (.int .u8 0)) :: AV.d (.c (.int .u8 0)) :: AV.d (.c (.int .u8 0)) :: AV.d (.c (.int .u8 0)) :: AV.d (.c (.int .u8 0)) :: AV.d (.c (.int .u8 0)) :: AV.d (.c (.int .u8 0)) :: AV.d (.c (.int .u8 0)) :: AV.d (.c (.int .u8 0)) :: []) 0 (bA K) = bA K := by
  have hb : (bA K).length = 64 := by rw [bA_len, h]
  exact ⟨hb, List.take_of_length_le (by omega), rfl, splice_all _ _ (by rw [hb]; rfl) (by omega)⟩
set_option maxHeartbeats 400000 in
theorem mTag_ac (key : List UInt8) (s : ByteArray) (b : List UInt8) (hk : key.length ≤ 140737488354000) (h : s.size + b.length ≤ 140737488354000) :
    AC Tryd.prog noG 67 [.d (.sl 1 key.length (bD key)), .d (.c (.string s)), .d (.sl 1 b.length (bD b))] [] (fun v r' => v = .d (.agg (bD (tagS key s b))) ∧ r' = []) := by
  refine AC.pure ?_ (by rintro v rfl; rfl)
  refine AC_of_R (N := 57) (res := [.cell 6 27]) ty_ok Tryd.call67 Tryd.func67 rfl rfl rfl (Nat.le_of_ble_eq_true rfl) ?_
  by_cases h64 : 64 < key.length
  · have hi : (key.length : Int) > 64 := by omega
    refine rn1 @hi ?_
    refine HO_pureA ty_ok (hashSum_ac key (by omega)) ?_
    obtain ⟨hl, hb, ht, hm, hsp⟩ := dig32 (sha key) (sha_len key)
    refine rn1 (jn @hm (jn @hl (jn @hb (jn @ht @hsp)))) ?_
    refine ⟨⟨by decide, by decide⟩, ⟨by decide, by decide⟩, HO_copyO (e := 5) (k := 32) ty_ok rfl rfl rfl rfl rfl rfl ⟨by kernel_rfl, by kernel_rfl⟩ (by decide) (by decide) rfl (by kernel_rfl) rfl ?_⟩
    rw [cpO _ (sha_len key)]
    have hK : padK key = pad64 (sha key) := by rw [padK, if_pos h64]
    have hKl := padK_len key
    have hT : tagS key s b = sha ((padK key).map (xb 92) ++ sha ((padK key).map (xb 54) ++ mtx s b)) := rfl
    rw [← hK]
    generalize padK key = K at *
    obtain ⟨kb, kt, km, ksp⟩ := dig64 K hKl
    refine rn1 (jn @kb (jn @kt (jn @km (jn @ksp @bA_allD)))) ?_
    clear ksp hsp
    refine HC_loopR (tgSt 2 3 s b) (tgRe1 K) (fun i => i ≤ 64) (fun i => 64 - i) 0 [0,1,2,3] [] (by omega) ?_ ?_
    · exact ft1 (jn @tgSt.eq_1 (jn @tgRe1.eq_1 (jn @bA_wf @mpT_zero)))
    clear hi
    intro i hi
    refine HC_of_R ty_ok ?_
    have m1 := mpT_len (xb 54) K i
    have m2 := mpT_len (xb 92) K i
    have n1 := bA_len (mpT (xb 54) K i)
    have n2 := bA_len (mpT (xb 92) K i)
    by_cases hi64 : i < 64
    · have hlt : (i : Int) < 64 := by omega
      have g1 := mpT_get (xb 54) K i (by omega)
      have g2 := mpT_get (xb 92) K i (by omega)
      have s1 := mpT_set (xb 54) K i (by omega)
      have s2 := mpT_set (xb 92) K i (by omega)
      refine rn1 (jn @tgSt.eq_1 (jn @tgRe1.eq_1 (jn @hlt (jn @bA_get (jn @xb_prog (jn @g1 (jn @g2 (jn @bA_set (jn @s1 @s2))))))))) ?_
      refine ⟨⟨by omega, by omega⟩, ⟨by omega, by omega⟩, by omega, ⟨by omega, by omega⟩, ⟨by omega, by omega⟩, by omega, i + 1, by omega, by omega, [0,1,2,3], [], ?_⟩
      exact ft1 @bA_wf
    · have hlt : ¬ (i : Int) < 64 := by omega
      have e1 := mpT_all (xb 54) K i (by omega)
      have e2 := mpT_all (xb 92) K i (by omega)
      refine rn1 (jn @tgSt.eq_1 (jn @tgRe1.eq_1 (jn @hlt (jn @e1 @e2)))) ?_
      clear e1 e2 m1 m2 n1 n2
      obtain ⟨A, hA⟩ : ∃ A, A = List.map (xb 54) K := ⟨_, rfl⟩
      obtain ⟨B, hB⟩ : ∃ B, B = List.map (xb 92) K := ⟨_, rfl⟩
      have hAl : A.length = 64 := by rw [hA, List.length_map, hKl]
      have hBl : B.length = 64 := by rw [hB, List.length_map, hKl]
      rw [← hA, ← hB] at hT ⊢
      refine HO_callX ty_ok [] hNew_ac (trivial) rfl ?_
      rintro v r' ⟨rfl, rfl⟩ _
      refine rn1 (jn @hRs.eq_1 @ren_hObj) ?_
      have ka := hAddO_ac [] A A (by rw [List.take_length]) (by omega) (by simp only [List.length_nil]; omega)
      have kb2 := hAddO_ac [] B B (by rw [List.take_length]) (by omega) (by simp only [List.length_nil]; omega)
      rw [hAl, List.nil_append] at ka
      rw [hBl, List.nil_append] at kb2
      refine ⟨⟨by rw [bA_len, hAl]; exact Nat.le_refl _, by decide, by decide⟩, HO_callX ty_ok [4,5,2] ka (hRsO_hand _ _ _ _ _ _ rfl rfl rfl) (hRsO_wf _ _) ?_⟩
      rintro v r' ⟨rfl, rfl⟩ _
      refine rn1 (jn @ren_hObj @ren_bA) ?_
      have htl := mtx_len s b (by omega)
      refine HO_pureA ty_ok (mText_ac s b h) ?_
      refine rn0 ?_
      refine HO_callX ty_ok [4,6] (hAdd_ac A (mtx s b) (by omega)) (hRs_hand _ _ _ _ rfl rfl) (hRs_wf _) ?_
      rintro v r' ⟨rfl, rfl⟩ _
      refine rn1 @ren_hObj ?_
      refine HO_lend ty_ok (hSum_ac (A ++ mtx s b) (by simp; omega)) (scal_bD _) rfl rfl rfl (by kernel_rfl) ⟨BwA.ptr0 rfl (hObj_allD _ _), trivial⟩ ?_
      obtain ⟨D, hD⟩ : ∃ D, D = sha (A ++ mtx s b) := ⟨_, rfl⟩
      have hDl : D.length = 32 := by rw [hD, sha_len]
      rw [← hD] at hT ⊢
      obtain ⟨hl, hb, ht, hm, hsp⟩ := dig32 D hDl
      refine rn1 (jn @hm (jn @hl (jn @hb (jn @ht @hsp)))) ?_
      clear hsp
      refine HO_callX ty_ok [] hNew_ac (trivial) rfl ?_
      rintro v r' ⟨rfl, rfl⟩ _
      refine rn1 (jn @hRs.eq_1 @ren_hObj) ?_
      refine ⟨⟨by rw [bA_len, hBl]; exact Nat.le_refl _, by decide, by decide⟩, HO_callX ty_ok [9,10,3] kb2 (hRsO_hand _ _ _ _ _ _ rfl rfl rfl) (hRsO_wf _ _) ?_⟩
      rintro v r' ⟨rfl, rfl⟩ _
      refine rn1 (jn @ren_hObj @ren_bA) ?_
      have kd := hAddO_ac B D D (by rw [List.take_length]) (by omega) (by omega)
      rw [hDl] at kd
      refine ⟨⟨by rw [bA_len, hDl]; exact Nat.le_refl _, by decide, by decide⟩, HO_callX ty_ok [9,11,8] kd (hRsO_hand _ _ _ _ _ _ rfl rfl rfl) (hRsO_wf _ _) ?_⟩
      rintro v r' ⟨rfl, rfl⟩ _
      refine rn1 (jn @ren_hObj @ren_bA) ?_
      refine HO_lend ty_ok (hSum_ac (B ++ D) (by simp; omega)) (scal_bD _) rfl rfl rfl (by kernel_rfl) ⟨BwA.ptr0 rfl (hObj_allD _ _), trivial⟩ ?_
      rw [← hT]
      obtain ⟨hl, hb, ht, hm, hsp⟩ := dig32 (tagS key s b) (tagS_len key s b)
      exact rz1 (jn @hm (jn @hl (jn @hb (jn @ht (jn @hsp @bA_allD)))))
  · have hi : ¬ (key.length : Int) > 64 := by omega
    refine rn1 @hi ?_
    refine ⟨⟨by decide, by decide⟩, HO_copyD (e := 5) (n := 64) (k := Nat.min key.length 64) ty_ok rfl rfl rfl rfl rfl ⟨by kernel_rfl, by kernel_rfl⟩ (by decide) rfl (by kernel_rfl) rfl ?_⟩
    rw [cpD key _ rfl (by omega)]
    have hK : padK key = pad64 key := by rw [padK, if_neg h64]
    have hKl := padK_len key
    have hT : tagS key s b = sha ((padK key).map (xb 92) ++ sha ((padK key).map (xb 54) ++ mtx s b)) := rfl
    rw [← hK]
    generalize padK key = K at *
    obtain ⟨kb, kt, km, ksp⟩ := dig64 K hKl
    refine rn1 (jn @kb (jn @kt (jn @km (jn @ksp @bA_allD)))) ?_
    clear ksp
    refine HC_loopR (tgSt 1 2 s b) (tgRe2 K) (fun i => i ≤ 64) (fun i => 64 - i) 0 [0,1,2] [] (by omega) ?_ ?_
    · exact ft1 (jn @tgSt.eq_1 (jn @tgRe2.eq_1 (jn @bA_wf @mpT_zero)))
    clear hi
    intro i hi
    refine HC_of_R ty_ok ?_
    have m1 := mpT_len (xb 54) K i
    have m2 := mpT_len (xb 92) K i
    have n1 := bA_len (mpT (xb 54) K i)
    have n2 := bA_len (mpT (xb 92) K i)
    by_cases hi64 : i < 64
    · have hlt : (i : Int) < 64 := by omega
      have g1 := mpT_get (xb 54) K i (by omega)
      have g2 := mpT_get (xb 92) K i (by omega)
      have s1 := mpT_set (xb 54) K i (by omega)
      have s2 := mpT_set (xb 92) K i (by omega)
      refine rn1 (jn @tgSt.eq_1 (jn @tgRe2.eq_1 (jn @hlt (jn @bA_get (jn @xb_prog (jn @g1 (jn @g2 (jn @bA_set (jn @s1 @s2))))))))) ?_
      refine ⟨⟨by omega, by omega⟩, ⟨by omega, by omega⟩, by omega, ⟨by omega, by omega⟩, ⟨by omega, by omega⟩, by omega, i + 1, by omega, by omega, [0,1,2], [], ?_⟩
      exact ft1 @bA_wf
    · have hlt : ¬ (i : Int) < 64 := by omega
      have e1 := mpT_all (xb 54) K i (by omega)
      have e2 := mpT_all (xb 92) K i (by omega)
      refine rn1 (jn @tgSt.eq_1 (jn @tgRe2.eq_1 (jn @hlt (jn @e1 @e2)))) ?_
      clear e1 e2 m1 m2 n1 n2
      obtain ⟨A, hA⟩ : ∃ A, A = List.map (xb 54) K := ⟨_, rfl⟩
      obtain ⟨B, hB⟩ : ∃ B, B = List.map (xb 92) K := ⟨_, rfl⟩
      have hAl : A.length = 64 := by rw [hA, List.length_map, hKl]
      have hBl : B.length = 64 := by rw [hB, List.length_map, hKl]
      rw [← hA, ← hB] at hT ⊢
      refine HO_callX ty_ok [] hNew_ac (trivial) rfl ?_
      rintro v r' ⟨rfl, rfl⟩ _
      refine rn1 (jn @hRs.eq_1 @ren_hObj) ?_
      have ka := hAddO_ac [] A A (by rw [List.take_length]) (by omega) (by simp only [List.length_nil]; omega)
      have kb2 := hAddO_ac [] B B (by rw [List.take_length]) (by omega) (by simp only [List.length_nil]; omega)
      rw [hAl, List.nil_append] at ka
      rw [hBl, List.nil_append] at kb2
      refine ⟨⟨by rw [bA_len, hAl]; exact Nat.le_refl _, by decide, by decide⟩, HO_callX ty_ok [3,4,1] ka (hRsO_hand _ _ _ _ _ _ rfl rfl rfl) (hRsO_wf _ _) ?_⟩
      rintro v r' ⟨rfl, rfl⟩ _
      refine rn1 (jn @ren_hObj @ren_bA) ?_
      have htl := mtx_len s b (by omega)
      refine HO_pureA ty_ok (mText_ac s b h) ?_
      refine rn0 ?_
      refine HO_callX ty_ok [3,5] (hAdd_ac A (mtx s b) (by omega)) (hRs_hand _ _ _ _ rfl rfl) (hRs_wf _) ?_
      rintro v r' ⟨rfl, rfl⟩ _
      refine rn1 @ren_hObj ?_
      refine HO_lend ty_ok (hSum_ac (A ++ mtx s b) (by simp; omega)) (scal_bD _) rfl rfl rfl (by kernel_rfl) ⟨BwA.ptr0 rfl (hObj_allD _ _), trivial⟩ ?_
      obtain ⟨D, hD⟩ : ∃ D, D = sha (A ++ mtx s b) := ⟨_, rfl⟩
      have hDl : D.length = 32 := by rw [hD, sha_len]
      rw [← hD] at hT ⊢
      obtain ⟨hl, hb, ht, hm, hsp⟩ := dig32 D hDl
      refine rn1 (jn @hm (jn @hl (jn @hb (jn @ht @hsp)))) ?_
      clear hsp
      refine HO_callX ty_ok [] hNew_ac (trivial) rfl ?_
      rintro v r' ⟨rfl, rfl⟩ _
      refine rn1 (jn @hRs.eq_1 @ren_hObj) ?_
      refine ⟨⟨by rw [bA_len, hBl]; exact Nat.le_refl _, by decide, by decide⟩, HO_callX ty_ok [8,9,2] kb2 (hRsO_hand _ _ _ _ _ _ rfl rfl rfl) (hRsO_wf _ _) ?_⟩
      rintro v r' ⟨rfl, rfl⟩ _
      refine rn1 (jn @ren_hObj @ren_bA) ?_
      have kd := hAddO_ac B D D (by rw [List.take_length]) (by omega) (by omega)
      rw [hDl] at kd
      refine ⟨⟨by rw [bA_len, hDl]; exact Nat.le_refl _, by decide, by decide⟩, HO_callX ty_ok [8,10,7] kd (hRsO_hand _ _ _ _ _ _ rfl rfl rfl) (hRsO_wf _ _) ?_⟩
      rintro v r' ⟨rfl, rfl⟩ _
      refine rn1 (jn @ren_hObj @ren_bA) ?_
      refine HO_lend ty_ok (hSum_ac (B ++ D) (by simp; omega)) (scal_bD _) rfl rfl rfl (by kernel_rfl) ⟨BwA.ptr0 rfl (hObj_allD _ _), trivial⟩ ?_
      rw [← hT]
      obtain ⟨hl, hb, ht, hm, hsp⟩ := dig32 (tagS key s b) (tagS_len key s b)
      exact rz1 (jn @hm (jn @hl (jn @hb (jn @ht (jn @hsp @bA_allD)))))
end Go.Proofs.YtdbicadncccpoaaDoor

set_option linter.unusedVariables false
set_option linter.unusedSimpArgs false
set_option maxRecDepth 100000
namespace Go.Proofs.YtdbicadncccpoaaDoor
open Go Go.ChangeShapes Go.WideShapes
def rt1St (j : Nat) (s : ByteArray) (b k : List UInt8) : List (Nat × AV) := [(1, .d (.c (.string s))), (2, .d (.sl 1 b.length (bD b))), (6, .ptr 0 0), (7, .sl (.own j) 1 k.length (bD k))]
def rt1Re1 (k : List UInt8) : Rs := [some (.obj [.d (.c (.int .u8 0)), .d (.c (.int .u8 0)), .d (.c (.int .u8 0)), .d (.c (.int .u8 0)), .d (.c (.int .u8 0)), .d (.c (.int .u8 0)), .d (.c (.int .u8 0)), .d (.c (.int .u8 0)), .d (.c (.int .u8 0)), .d (.c (.int .u8 0)), .d (.c (.int .u8 0)), .d (.c (.int .u8 0)), .d (.c (.int .u8 0)), .d (.c (.int .u8 0)), .d (.c (.int .u8 0)), .d (.c (.int .u8 0)), .d (.c (.int .u8 0)), .d (.c (.int .u8 0)), .d (.c (.int .u8 0)), .d (.c (.int .u8 0)), .d (.c (.int .u8 0)), .d (.c (.int .u8 0)), .d (.c (.int .u8 0)), .d (.c (.int .u8 0)), .d (.c (.int .u8 0)), .d (.c (.int .u8 0)), .d (.c (.int .u8 0)), .d (.c (.int .u8 0)), .d (.c (.int .u8 0)), .d (.c (.int .u8 0)), .d (.c (.int .u8 0)), .d (.c (.int .u8 0))]), none, none, some (.tok k.length)]
def rt1Re2 (k : List UInt8) : Rs := [some (.obj [.d (.c (.int .u8 0)), .d (.c (.int .u8 0)), .d (.c (.int .u8 0)), .d (.c (.int .u8 0)), .d (.c (.int .u8 0)), .d (.c (.int .u8 0)), .d (.c (.int .u8 0)), .d (.c (.int .u8 0)), .d (.c (.int .u8 0)), .d (.c (.int .u8 0)), .d (.c (.int .u8 0)), .d (.c (.int .u8 0)), .d (.c (.int .u8 0)), .d (.c (.int .u8 0)), .d (.c (.int .u8 0)), .d (.c (.int .u8 0)), .d (.c (.int .u8 0)), .d (.c (.int .u8 0)), .d (.c (.int .u8 0)), .d (.c (.int .u8 0)), .d (.c (.int .u8 0)), .d (.c (.int .u8 0)), .d (.c (.int .u8 0)), .d (.c (.int .u8 0)), .d (.c (.int .u8 0)), .d (.c (.int .u8 0)), .d (.c (.int .u8 0)), .d (.c (.int .u8 0)), .d (.c (.int .u8 0)), .d (.c (.int .u8 0)), .d (.c (.int .u8 0)), .d (.c (.int .u8 0))]), some (.tok k.length)]
def rt2St (p q : Nat) (s : ByteArray) (b K : List UInt8) (i : Nat) : List (Nat × AV) := [(1, .d (.c (.string s))), (2, .d (.sl 1 b.length (bD b))), (6, .ptr 0 0), (7, .d (.sl 1 K.length (bD K))), (9, .sl (.own p) 1 ((K.take i).map (xb 54)).length (bD ((K.take i).map (xb 54)))), (10, .sl (.own q) 1 ((K.take i).map (xb 92)).length (bD ((K.take i).map (xb 92)))), (11, .d (.c (.int .i64 i)))]
def rt2Re1 (K : List UInt8) (i : Nat) : Rs := [some (.obj [.d (.c (.int .u8 0)), .d (.c (.int .u8 0)), .d (.c (.int .u8 0)), .d (.c (.int .u8 0)), .d (.c (.int .u8 0)), .d (.c (.int .u8 0)), .d (.c (.int .u8 0)), .d (.c (.int .u8 0)), .d (.c (.int .u8 0)), .d (.c (.int .u8 0)), .d (.c (.int .u8 0)), .d (.c (.int .u8 0)), .d (.c (.int .u8 0)), .d (.c (.int .u8 0)), .d (.c (.int .u8 0)), .d (.c (.int .u8 0)), .d (.c (.int .u8 0)), .d (.c (.int .u8 0)), .d (.c (.int .u8 0)), .d (.c (.int .u8 0)), .d (.c (.int .u8 0)), .d (.c (.int .u8 0)), .d (.c (.int .u8 0)), .d (.c (.int .u8 0)), .d (.c (.int .u8 0)), .d (.c (.int .u8 0)), .d (.c (.int .u8 0)), .d (.c (.int .u8 0)), .d (.c (.int .u8 0)), .d (.c (.int .u8 0)), .d (.c (.int .u8 0)), .d (.c (.int .u8 0))]), none, none, none, some (.tok ((K.take i).map (xb 54)).length), some (.tok ((K.take i).map (xb 92)).length)]
def rt2Re2 (K : List UInt8) (i : Nat) : Rs := [some (.obj [.d (.c (.int .u8 0)), .d (.c (.int .u8 0)), .d (.c (.int .u8 0)), .d (.c (.int .u8 0)), .d (.c (.int .u8 0)), .d (.c (.int .u8 0)), .d (.c (.int .u8 0)), .d (.c (.int .u8 0)), .d (.c (.int .u8 0)), .d (.c (.int .u8 0)), .d (.c (.int .u8 0)), .d (.c (.int .u8 0)), .d (.c (.int .u8 0)), .d (.c (.int .u8 0)), .d (.c (.int .u8 0)), .d (.c (.int .u8 0)), .d (.c (.int .u8 0)), .d (.c (.int .u8 0)), .d (.c (.int .u8 0)), .d (.c (.int .u8 0)), .d (.c (.int .u8 0)), .d (.c (.int .u8 0)), .d (.c (.int .u8 0)), .d (.c (.int .u8 0)), .d (.c (.int .u8 0)), .d (.c (.int .u8 0)), .d (.c (.int .u8 0)), .d (.c (.int .u8 0)), .d (.c (.int .u8 0)), .d (.c (.int .u8 0)), .d (.c (.int .u8 0)), .d (.c (.int .u8 0))]), none, some (.tok ((K.take i).map (xb 54)).length), some (.tok ((K.take i).map (xb 92)).length)]
theorem pad64_step (k : List UInt8) (h : k.length < 64) : pad64 (k ++ [0]) = pad64 k := by
  rw [pad64, pad64, List.length_append, List.length_singleton, List.append_assoc, show 64 - k.length = 64 - (k.length + 1) + 1 by omega, List.replicate_succ]; rfl
theorem pad64_full (k : List UInt8) (h : k.length = 64) : pad64 k = k := by
  rw [pad64, h, Nat.sub_self, List.replicate_zero, List.append_nil]
theorem takeS (f : UInt8 → UInt8) (K : List UInt8) (i : Nat) (h : i < K.length) : (K.take i).map f ++ [f (K.getD i 0)] = (K.take (i + 1)).map f := by
  rw [List.take_succ_eq_append_getElem h, List.map_append, List.getD_eq_getElem?_getD, List.getElem?_eq_getElem h]; rfl
set_option maxHeartbeats 400000 in
theorem rTag_ac (key : List UInt8) (s : ByteArray) (b : List UInt8) (hk : key.length ≤ 140737488352000) (h : s.size + b.length ≤ 140737488351000) :
    AC Tryd.prog noG 73 [.d (.sl 1 key.length (bD key)), .d (.c (.string s)), .d (.sl 1 b.length (bD b))] [] (fun v r' => v = .d (.agg (bD (tagS key s b))) ∧ r' = []) := by
  refine AC.pure ?_ (by rintro v rfl; rfl)
  refine AC_of_R (N := 60) (res := [.cell 6 27]) ty_ok Tryd.call73 Tryd.func73 rfl rfl rfl (Nat.le_of_ble_eq_true rfl) ?_
  have hT : tagS key s b = sha ((padK key).map (xb 92) ++ sha ((padK key).map (xb 54) ++ mtx s b)) := rfl
  have hKl := padK_len key
  by_cases h64 : 64 < key.length
  · have hi : (key.length : Int) > 64 := by omega
    have hK : pad64 (sha key) = padK key := by rw [padK, if_pos h64]
    obtain ⟨hl, hb, ht, hm, hsp⟩ := dig32 (sha key) (sha_len key)
    refine rn1 @hi ?_
    refine ⟨⟨by omega, by omega⟩, HO_pureA ty_ok (refSum_ac key (by omega)) ?_⟩
    refine rn1 (jn @hm (jn @hl (jn @hb (jn @ht (jn @hsp @bA_allD))))) ?_
    clear hsp
    have hK0 : (sha key).length ≤ 64 := by omega
    generalize padK key = K at *
    obtain ⟨K0, hK0e⟩ : ∃ K0, K0 = sha key := ⟨_, rfl⟩
    rw [← hK0e] at hK hK0 hl hb ht hm ⊢
    refine ⟨⟨by decide, by decide⟩, ?_⟩
    refine HC_loopR (rt1St 3 s b) rt1Re1 (fun k => k.length ≤ 64 ∧ pad64 k = K) (fun k => 64 - k.length) K0 [0,1,2,3] [] ⟨hK0, hK⟩ ?_ ?_
    · exact ft1 (jn @rt1St.eq_1 (jn @rt1Re1.eq_1 (jn @bA_wf @hl)))
    intro k ⟨hk1, hk2⟩
    refine HC_of_R ty_ok ?_
    by_cases hlt : k.length < 64
    · have hi : (k.length : Int) < 64 := by omega
      refine rn1 (jn @rt1St.eq_1 (jn @rt1Re1.eq_1 @hi)) ?_
      refine ⟨⟨by omega, by omega⟩, k ++ [UInt8.ofNat 0], ⟨by simp only [List.length_append, List.length_singleton]; omega, (pad64_step k hlt).trans hk2⟩, by simp only [List.length_append, List.length_singleton]; omega, [0,1,2,3], [], ?_⟩
      exact ft1 @bA_wf
    · have hi : ¬ (k.length : Int) < 64 := by omega
      rw [pad64_full k (by omega)] at hk2
      subst hk2
      refine rn1 (jn @rt1St.eq_1 (jn @rt1Re1.eq_1 @hi)) ?_
      refine HC_loopR (rt2St 4 5 s b k) (rt2Re1 k) (fun i => i ≤ 64) (fun i => 64 - i) 0 [0,1,2,3,4,5] [0,0] (by omega) ?_ ?_
      · exact ft1 (jn @rt2St.eq_1 (jn @rt2Re1.eq_1 (jn @bA_wf (jn @List.take_zero.{0} @bD_z))))
      clear hi
      intro i hi
      refine HC_of_R ty_ok ?_
      have l1 : ((k.take i).map (xb 54)).length = i := by rw [List.length_map, List.length_take]; omega
      have l2 : ((k.take i).map (xb 92)).length = i := by rw [List.length_map, List.length_take]; omega
      by_cases hi64 : i < 64
      · have hlt2 : (i : Int) < 64 := by omega
        have s1 := takeS (xb 54) k i (by omega)
        have s2 := takeS (xb 92) k i (by omega)
        refine rn1 (jn @rt2St.eq_1 (jn @rt2Re1.eq_1 (jn @hlt2 (jn @xb_prog (jn @bD_u (jn @s1 (jn @s2 (jn @l1 @l2)))))))) ?_
        have l3 : ((k.take (i + 1)).map (xb 54)).length = i + 1 := by rw [List.length_map, List.length_take]; omega
        have l4 : ((k.take (i + 1)).map (xb 92)).length = i + 1 := by rw [List.length_map, List.length_take]; omega
        refine ⟨⟨by omega, by omega⟩, ⟨by omega, by omega⟩, ⟨by omega, by omega⟩, ⟨by omega, by omega⟩, i + 1, by omega, by omega, [0,1,2,3,4,5], [], ?_⟩
        exact ft1 (jn @bA_wf (jn @l3 @l4))
      · have hlt2 : ¬ (i : Int) < 64 := by omega
        have hti : k.take i = k := List.take_of_length_le (by omega)
        rw [hti] at l1 l2
        refine rn1 (jn @rt2St.eq_1 (jn @rt2Re1.eq_1 (jn @hlt2 @hti))) ?_
        refine HO_pureA ty_ok (rText_ac s b (by omega)) ?_
        have htl := mtx_len s b (by omega)
        obtain ⟨A, hA⟩ : ∃ A, A = List.map (xb 54) k := ⟨_, rfl⟩
        obtain ⟨B, hB⟩ : ∃ B, B = List.map (xb 92) k := ⟨_, rfl⟩
        rw [← hA, ← hB] at hT ⊢
        rw [← hA] at l1
        rw [← hB] at l2
        refine rn0 ?_
        have kr := refSum_ac (A ++ mtx s b) (by simp only [List.length_append]; omega)
        rw [List.length_append] at kr
        refine ⟨⟨by omega, by omega⟩, HO_pureA ty_ok kr ?_⟩
        obtain ⟨D, hD⟩ : ∃ D, D = sha (A ++ mtx s b) := ⟨_, rfl⟩
        have hDl : D.length = 32 := by rw [hD, sha_len]
        rw [← hD] at hT ⊢
        obtain ⟨hl, hb, ht, hm, hsp⟩ := dig32 D hDl
        refine rn1 (jn @hm (jn @hl (jn @hb (jn @ht (jn @hsp @bA_allD))))) ?_
        clear hsp
        have kq := refSum_ac (B ++ D) (by simp only [List.length_append]; omega)
        rw [List.length_append, hDl] at kq
        refine ⟨⟨by decide, by decide⟩, ⟨by omega, by omega⟩, HO_pureA ty_ok kq ?_⟩
        rw [← hT]
        obtain ⟨hl, hb, ht, hm, hsp⟩ := dig32 (tagS key s b) (tagS_len key s b)
        exact rz1 (jn @hm (jn @hl (jn @hb (jn @ht (jn @hsp @bA_allD)))))
  · have hi : ¬ (key.length : Int) > 64 := by omega
    have hK : pad64 key = padK key := by rw [padK, if_neg h64]
    refine rn1 @hi ?_
    have hK0 : key.length ≤ 64 := by omega
    generalize padK key = K at *
    obtain ⟨K0, hK0e⟩ : ∃ K0, K0 = key := ⟨_, rfl⟩
    refine ⟨⟨by omega, by omega⟩, ?_⟩
    rw [← hK0e] at hK hK0 hT ⊢
    refine HC_loopR (rt1St 1 s b) rt1Re2 (fun k => k.length ≤ 64 ∧ pad64 k = K) (fun k => 64 - k.length) K0 [0,1] [] ⟨hK0, hK⟩ ?_ ?_
    · exact ft1 (jn @rt1St.eq_1 (jn @rt1Re2.eq_1 (jn @bA_wf @bA_wf)))
    intro k ⟨hk1, hk2⟩
    refine HC_of_R ty_ok ?_
    by_cases hlt : k.length < 64
    · have hi : (k.length : Int) < 64 := by omega
      refine rn1 (jn @rt1St.eq_1 (jn @rt1Re2.eq_1 @hi)) ?_
      refine ⟨⟨by omega, by omega⟩, k ++ [UInt8.ofNat 0], ⟨by simp only [List.length_append, List.length_singleton]; omega, (pad64_step k hlt).trans hk2⟩, by simp only [List.length_append, List.length_singleton]; omega, [0,1], [], ?_⟩
      exact ft1 @bA_wf
    · have hi : ¬ (k.length : Int) < 64 := by omega
      rw [pad64_full k (by omega)] at hk2
      subst hk2
      refine rn1 (jn @rt1St.eq_1 (jn @rt1Re2.eq_1 @hi)) ?_
      refine HC_loopR (rt2St 2 3 s b k) (rt2Re2 k) (fun i => i ≤ 64) (fun i => 64 - i) 0 [0,1,2,3] [0,0] (by omega) ?_ ?_
      · exact ft1 (jn @rt2St.eq_1 (jn @rt2Re2.eq_1 (jn @bA_wf (jn @List.take_zero.{0} @bD_z))))
      clear hi
      intro i hi
      refine HC_of_R ty_ok ?_
      have l1 : ((k.take i).map (xb 54)).length = i := by rw [List.length_map, List.length_take]; omega
      have l2 : ((k.take i).map (xb 92)).length = i := by rw [List.length_map, List.length_take]; omega
      by_cases hi64 : i < 64
      · have hlt2 : (i : Int) < 64 := by omega
        have s1 := takeS (xb 54) k i (by omega)
        have s2 := takeS (xb 92) k i (by omega)
        refine rn1 (jn @rt2St.eq_1 (jn @rt2Re2.eq_1 (jn @hlt2 (jn @xb_prog (jn @bD_u (jn @s1 (jn @s2 (jn @l1 @l2)))))))) ?_
        have l3 : ((k.take (i + 1)).map (xb 54)).length = i + 1 := by rw [List.length_map, List.length_take]; omega
        have l4 : ((k.take (i + 1)).map (xb 92)).length = i + 1 := by rw [List.length_map, List.length_take]; omega
        refine ⟨⟨by omega, by omega⟩, ⟨by omega, by omega⟩, ⟨by omega, by omega⟩, ⟨by omega, by omega⟩, i + 1, by omega, by omega, [0,1,2,3], [], ?_⟩
        exact ft1 (jn @bA_wf (jn @l3 @l4))
      · have hlt2 : ¬ (i : Int) < 64 := by omega
        have hti : k.take i = k := List.take_of_length_le (by omega)
        rw [hti] at l1 l2
        refine rn1 (jn @rt2St.eq_1 (jn @rt2Re2.eq_1 (jn @hlt2 @hti))) ?_
        refine HO_pureA ty_ok (rText_ac s b (by omega)) ?_
        have htl := mtx_len s b (by omega)
        obtain ⟨A, hA⟩ : ∃ A, A = List.map (xb 54) k := ⟨_, rfl⟩
        obtain ⟨B, hB⟩ : ∃ B, B = List.map (xb 92) k := ⟨_, rfl⟩
        rw [← hA, ← hB] at hT ⊢
        rw [← hA] at l1
        rw [← hB] at l2
        refine rn0 ?_
        have kr := refSum_ac (A ++ mtx s b) (by simp only [List.length_append]; omega)
        rw [List.length_append] at kr
        refine ⟨⟨by omega, by omega⟩, HO_pureA ty_ok kr ?_⟩
        obtain ⟨D, hD⟩ : ∃ D, D = sha (A ++ mtx s b) := ⟨_, rfl⟩
        have hDl : D.length = 32 := by rw [hD, sha_len]
        rw [← hD] at hT ⊢
        obtain ⟨hl, hb, ht, hm, hsp⟩ := dig32 D hDl
        refine rn1 (jn @hm (jn @hl (jn @hb (jn @ht (jn @hsp @bA_allD))))) ?_
        clear hsp
        have kq := refSum_ac (B ++ D) (by simp only [List.length_append]; omega)
        rw [List.length_append, hDl] at kq
        refine ⟨⟨by decide, by decide⟩, ⟨by omega, by omega⟩, HO_pureA ty_ok kq ?_⟩
        rw [← hT]
        obtain ⟨hl, hb, ht, hm, hsp⟩ := dig32 (tagS K0 s b) (tagS_len K0 s b)
        exact rz1 (jn @hm (jn @hl (jn @hb (jn @ht (jn @hsp @bA_allD)))))
end Go.Proofs.YtdbicadncccpoaaDoor

set_option linter.unusedVariables false
set_option linter.unusedSimpArgs false
set_option maxRecDepth 100000
namespace Go.Proofs.YtdbicadncccpoaaDoor
open Go Go.ChangeShapes Go.WideShapes
def keyS (n : Int) (who : ByteArray) : List UInt8 := sha (putTx (putI (putTx [] ⟨#[107, 101, 121]⟩) n) who)
theorem keyS_len (n : Int) (who : ByteArray) : (keyS n who).length = 32 := sha_len _
theorem k0_eq : putTx [] ⟨#[107, 101, 121]⟩ = [6, 107, 101, 121] := by decide +kernel
theorem leb_le (n : Int) (h0 : -9223372036854775808 ≤ n) (h1 : n ≤ 9223372036854775807) : (leb (zig n)).length ≤ 10 := leb_len 9 (zig n) (by have := zig_lt h0 h1; omega)
set_option maxHeartbeats 400000 in
theorem mKey_ac (n : Int) (who : ByteArray) (h0 : -9223372036854775808 ≤ n) (h1 : n ≤ 9223372036854775807) (h : who.size ≤ 140737488351500) :
    AC Tryd.prog noG 41 [.d (.c (.int .i64 n)), .d (.c (.string who))] [] (fun v r' => v = .d (.agg (bD (keyS n who))) ∧ r' = []) := by
  refine AC.pure ?_ (by rintro v rfl; rfl)
  refine AC_of_R (N := 11) (res := [.cell 4 27]) ty_ok Tryd.call41 Tryd.func41 rfl rfl rfl (Nat.le_of_ble_eq_true rfl) ?_
  have hl := leb_le n h0 h1
  have hw := leb_le10 who.size (by omega)
  have hk0 : (putTx [] ⟨#[107, 101, 121]⟩).length = 4 := by rw [k0_eq]; rfl
  have hs0 : ByteArray.size ⟨#[107, 101, 121]⟩ = 3 := rfl
  have hkS : keyS n who = sha (putTx (putI (putTx [] ⟨#[107, 101, 121]⟩) n) who) := rfl
  refine rn0 ?_
  refine HO_pureA ty_ok (putText_dat [] ⟨#[107, 101, 121]⟩ (by simp) (by rw [hs0]; simp)) ?_
  generalize putTx [] ⟨#[107, 101, 121]⟩ = T at *
  refine rn0 ?_
  refine HO_pureA ty_ok (putInt_dat T n h0 h1 (by omega)) ?_
  have hpi := putI_len T n
  refine rn0 ?_
  refine HO_pureA ty_ok (putText_dat (putI T n) who (by omega) (by omega)) ?_
  have hpt := putTx_len (putI T n) who
  refine rn0 ?_
  refine HO_pureA ty_ok (hashSum_ac (putTx (putI T n) who) (by omega)) ?_
  rw [← hkS]
  obtain ⟨hl, hb, ht, hm, hsp⟩ := dig32 (keyS n who) (keyS_len n who)
  exact rz1 (jn @hm (jn @hl (jn @hb (jn @ht (jn @hsp @bA_allD)))))
set_option maxHeartbeats 400000 in
theorem rKey_ac (n : Int) (who : ByteArray) (h0 : -9223372036854775808 ≤ n) (h1 : n ≤ 9223372036854775807) (h : who.size ≤ 140737488351500) :
    AC Tryd.prog noG 72 [.d (.c (.int .i64 n)), .d (.c (.string who))] [] (fun v r' => v = .d (.agg (bD (keyS n who))) ∧ r' = []) := by
  refine AC.pure ?_ (by rintro v rfl; rfl)
  refine AC_of_R (N := 14) (res := [.cell 4 27]) ty_ok Tryd.call72 Tryd.func72 rfl rfl rfl (Nat.le_of_ble_eq_true rfl) ?_
  have hl := leb_le n h0 h1
  have hw := leb_le10 who.size (by omega)
  have hk0 : (putTx [] ⟨#[107, 101, 121]⟩).length = 4 := by rw [k0_eq]; rfl
  have hs0 : ByteArray.size ⟨#[107, 101, 121]⟩ = 3 := rfl
  have hkS : keyS n who = sha (putTx (putI (putTx [] ⟨#[107, 101, 121]⟩) n) who) := rfl
  refine rn0 ?_
  refine HO_pureA ty_ok (rputText_dat [] ⟨#[107, 101, 121]⟩ (by simp) (by rw [hs0]; simp)) ?_
  generalize putTx [] ⟨#[107, 101, 121]⟩ = T at *
  refine rn0 ?_
  refine HO_pureA ty_ok (rputInt_dat T n h0 h1 (by omega)) ?_
  have hpi := putI_len T n
  refine rn0 ?_
  refine HO_pureA ty_ok (rputText_dat (putI T n) who (by omega) (by omega)) ?_
  have hpt := putTx_len (putI T n) who
  refine rn0 ?_
  refine HO_pureA ty_ok (refSum_ac (putTx (putI T n) who) (by omega)) ?_
  rw [← hkS]
  obtain ⟨hl, hb, ht, hm, hsp⟩ := dig32 (keyS n who) (keyS_len n who)
  exact rz1 (jn @hm (jn @hl (jn @hb (jn @ht (jn @hsp @bA_allD)))))
end Go.Proofs.YtdbicadncccpoaaDoor
