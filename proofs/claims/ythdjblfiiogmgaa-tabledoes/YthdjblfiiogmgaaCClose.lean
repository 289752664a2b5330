import Derived.Test.YthdjblfiiogmgaaCTs
import Derived.Test.YthdjblfiiogmgaaRows
set_option linter.unusedVariables false
set_option linter.unusedSimpArgs false
set_option maxRecDepth 100000
namespace Go.Proofs.Ythdjblfiiogmgaa
open Go Go.ChangeShapes Go.WideShapes
theorem kids : Kids Try.prog (· < Try.prog.types.size) := kids_rows (by kernel_rfl) (by kernel_rfl)
theorem full : ∀ t e, t < Try.prog.types.size → Try.prog.underlying t = some (.slice e) → 0 < Try.prog.cellsOf e := slices_full_of _ (by kernel_rfl)
theorem own : ownKnob Try.prog.godebug = none := by kernel_rfl
abbrev boolT : TypeId := 4
theorem boolU : Try.prog.underlying boolT = some .bool := Try.underlying4
mutual
theorem bulk_one {H : Type} : ∀ d : DataW H, Rows.uptoBulk d = bk d
  | .lit l => by cases l <;> rfl
  | .nil => rfl
  | .ptr d => by simp only [Rows.uptoBulk, bk, bulk_one d]
  | .slice elems spare => by simp only [Rows.uptoBulk, bk, bulk_eq elems, bulk_eq spare]
  | .agg parts => by simp only [Rows.uptoBulk, bk, bulk_eq parts]
  | .iface _ d => by simp only [Rows.uptoBulk, bk, bulk_one d]
  | .map entries => by simp only [Rows.uptoBulk, bk, bulk_entries entries]
  | .held _ => rfl
theorem bulk_eq {H : Type} : ∀ l : List (DataW H), Rows.uptoBulkAll l = bkAll l
  | [] => rfl
  | d :: r => by simp only [Rows.uptoBulkAll, bkAll, bulk_one d, bulk_eq r]
theorem bulk_entries {H : Type} : ∀ l : List (Lit × DataW H), Rows.uptoBulkEntries l = bkEntries l
  | [] => rfl
  | x :: r => by simp only [Rows.uptoBulkEntries, bkEntries, bulk_entry x, bulk_entries r]
theorem bulk_entry {H : Type} : ∀ x : Lit × DataW H, Rows.uptoBulkEntry x = bkEntry x
  | (l, d) => by cases l <;> simp only [Rows.uptoBulkEntry, bkEntry, bulk_one d]
end
end Go.Proofs.Ythdjblfiiogmgaa
