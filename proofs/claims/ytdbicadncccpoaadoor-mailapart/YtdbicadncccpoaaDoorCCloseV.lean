import Derived.Test.YtdbicadncccpoaaDoorCJ0
import Derived.Test.YtdbicadncccpoaaDoorCards
import Derived.Test.YtdbicadncccpoaaDoorTie
import Derived.Lib.LaidTab
import Derived.Stop.LaidErr
import Derived.Deep.DeepHandedRow
import Derived.SevenTiedAt
set_option linter.unusedVariables false
set_option linter.unusedSimpArgs false
set_option maxRecDepth 100000
namespace Go.Proofs.YtdbicadncccpoaaDoor
open Go Go.ChangeShapes Go.WideShapes
theorem kids : Kids Tryd.prog (· < Tryd.prog.types.size) := kids_rows (by kernel_rfl) (by kernel_rfl)
theorem full : ∀ t e, t < Tryd.prog.types.size → Tryd.prog.underlying t = some (.slice e) → 0 < Tryd.prog.cellsOf e := slices_full_of _ (by kernel_rfl)
theorem own : ownKnob Tryd.prog.godebug = none := by kernel_rfl
abbrev boolT : TypeId := 4
theorem boolU : Tryd.prog.underlying boolT = some .bool := Tryd.underlying4
mutual
theorem bulk_one {H : Type} : ∀ d : DataW H, Rows.uptoBulk d = bk d
  | .lit l => by cases l <;> rfl
  | .nil => rfl
  | .ptr d => by simp only [Rows.uptoBulk, bk, bulk_one d]
  | .slice elems spare => by simp only [Rows.uptoBulk, bk, bulk_eq elems, bulk_eq spare]
  | .agg parts => by simp only [Rows.uptoBulk, bk, bulk_eq parts]
  | .iface _ d => by simp only [Rows.uptoBulk, bk, bulk_one d]
  | .map entries => by simp only [Rows.uptoBulk, bk, bulk_entries entries]
  | .held _ => rfl
theorem bulk_eq {H : Type} : ∀ l : List (DataW H), Rows.uptoBulkAll l = bkAll l
  | [] => rfl
  | d :: r => by simp only [Rows.uptoBulkAll, bkAll, bulk_one d, bulk_eq r]
theorem bulk_entries {H : Type} : ∀ l : List (Lit × DataW H), Rows.uptoBulkEntries l = bkEntries l
  | [] => rfl
  | x :: r => by simp only [Rows.uptoBulkEntries, bkEntries, bulk_entry x, bulk_entries r]
theorem bulk_entry {H : Type} : ∀ x : Lit × DataW H, Rows.uptoBulkEntry x = bkEntry x
  | (l, d) => by cases l <;> simp only [Rows.uptoBulkEntry, bkEntry, bulk_one d]
end
theorem glob_tab {P : Program} {W : World} {name : String} {k : IntKind} {zs : List Int} {g : Nat} (hg : P.globalNamed name = some g) (h : Lib.TabIs P W name k zs) : RM (oldT W) W (zs.map fun z => D.c (.int k z)) ⟨g, 0, none⟩ := by
  unfold Lib.TabIs World.var? at h
  rw [hg] at h
  simp only [Option.bind_some] at h
  split at h
  · rename_i cs e f hh
    injection h with h; subst h
    have hc : ∀ j v, (zs.map fun z => Value.int k z)[j]? = some v → W.cell? ⟨g, j, none⟩ = some v := fun j v hj => by unfold World.cell?; simp only [hh]; simpa using hj
    refine RM_of_get _ _ fun j d hd => ?_
    simp only [List.getElem?_map, Option.map_eq_some_iff] at hd
    obtain ⟨z, hz, rfl⟩ := hd
    have h1 := hc j (.int k z) (by simp [hz])
    refine ⟨?_, .int k z, ?_, rfl, by simp [RD, Value.oneCell']⟩
    · have := old_cell h1; simpa using this
    · rw [addr_plain, Nat.zero_add]; exact h1
  · cases h
theorem laid_globs {W : World} (h : laidMetH Tryd.prog [("avowal/hash.first", Rows.laid_avowal_hash_first), ("avowal/hash.rounds", Rows.laid_avowal_hash_rounds)] W) : ∀ g, RM (oldT W) W (noG g) ⟨g, 0, none⟩ := by
  have h : laidMet Tryd.prog [("avowal/hash.first", Lib.tabData .u32 firstL), ("avowal/hash.rounds", Lib.tabData .u32 roundsL)] W := h
  have t0 : Lib.TabIs Tryd.prog W "avowal/hash.first" .u32 firstL := Lib.tabIs_of_head (g := 0) (t := 135) (e := 134) (n := 8) (by kernel_rfl) (by kernel_rfl) Tryd.underlying135 Tryd.underlying134 (by kernel_rfl) (by kernel_rfl) h
  have t1 : Lib.TabIs Tryd.prog W "avowal/hash.rounds" .u32 roundsL := Lib.tabIs_of_head (g := 1) (t := 139) (e := 134) (n := 64) (by kernel_rfl) (by kernel_rfl) Tryd.underlying139 Tryd.underlying134 (by kernel_rfl) (by kernel_rfl) h.tail
  intro g
  match g with
  | 0 => exact glob_tab (by kernel_rfl) t0
  | 1 => exact glob_tab (by kernel_rfl) t1
  | _ + 2 => simp [noG, RM]
/-- A world for the witness: the settled one, the variables holding what their initialisers lay. -/
def laidHeap (h : Array Obj) : Array Obj := ((h.modify 0 (fun o => match o with | Obj.cells _ t frozen => Obj.cells (firstL.map fun z => Value.int .u32 z).toArray t frozen | o => o)).modify 1 (fun o => match o with | Obj.cells _ t frozen => Obj.cells (roundsL.map fun z => Value.int .u32 z).toArray t frozen | o => o))
noncomputable def laidWorld (os : Os) (args : Array Value) : World := { World.holding Tryd.prog os ⟨#[], args, []⟩ with heap := laidHeap (World.holding Tryd.prog os ⟨#[], args, []⟩).heap }
theorem bridge (s : ChangeSpec) : OpenSpec.ofChange s = OpenSpec.ofChange s := rfl
end Go.Proofs.YtdbicadncccpoaaDoor
