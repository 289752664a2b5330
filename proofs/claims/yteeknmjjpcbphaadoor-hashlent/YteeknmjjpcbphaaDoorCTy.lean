/- The types of the program, in the frame's words: each row is Lean's own print, and holds by 'rfl'. -/
import Derived.Test.YteeknmjjpcbphaaDoorProg
import Derived.Test.YteeknmjjpcbphaaDoorCZS
import Derived.KernelRfl
set_option linter.unusedVariables false
set_option maxRecDepth 100000
namespace Go.Proofs.YteeknmjjpcbphaaDoor
open Go
noncomputable def tyF (P : Program) (t : TypeId) : Option TI := match P.underlying t, P.info? t with
  | some d, some i => match i.zero with
    | some z => if z.cells.size = i.size ∧ P.stoodInHeld t = false then some ⟨d, i.size, i.bytes, z⟩ else none
    | none => none
  | _, _ => none
noncomputable def tyOf (P : Program) (l : Bool) : Ti := ⟨tyF P, l⟩
theorem tyOf_ok (P : Program) (l : Bool) : TiOK P (tyOf P l) := by
  intro t i h
  have h : tyF P t = some i := h
  unfold tyF at h
  split at h
  · rename_i d f hd hf
    split at h
    · rename_i z hz
      split at h
      · rename_i hs
        injection h with h; subst h
        exact ⟨hd, f, hf, rfl, rfl, hz, hs.1, hs.2⟩
      · cases h
    · cases h
  · cases h
noncomputable def ty : Ti := tyOf Tryd.prog false
theorem ty_ok : TiOK Tryd.prog ty := tyOf_ok _ _
noncomputable def tyL : Ti := tyOf Tryd.prog true
theorem tyL_ok : TiOK Tryd.prog tyL := tyOf_ok _ _
theorem ty_0 : ty 0 = some ⟨Go.TypeDesc.tuple #[], 1, 0, Go.Value.tuple #[]⟩ := by kernel_rfl
theorem ty_1 : ty 1 = some ⟨Go.TypeDesc.func #[] #[] false, 1, 8, Go.Value.nilFunc⟩ := by kernel_rfl
theorem ty_2 : ty 2 = some ⟨Go.TypeDesc.int Go.IntKind.i64, 1, 8, Go.Value.int Go.IntKind.i64 0⟩ := by kernel_rfl
theorem ty_3 : ty 3 = some ⟨Go.TypeDesc.int Go.IntKind.i64, 1, 8, Go.Value.int Go.IntKind.i64 0⟩ := by kernel_rfl
theorem ty_4 : ty 4 = some ⟨Go.TypeDesc.bool, 1, 1, Go.Value.bool false⟩ := by kernel_rfl
theorem ty_5 : ty 5 = some ⟨Go.TypeDesc.int Go.IntKind.u8, 1, 1, Go.Value.int Go.IntKind.u8 0⟩ := by kernel_rfl
theorem ty_6 : ty 6 = some ⟨Go.TypeDesc.int Go.IntKind.u8, 1, 1, Go.Value.int Go.IntKind.u8 0⟩ := by kernel_rfl
theorem ty_7 : ty 7 = some ⟨Go.TypeDesc.struct #[{ name := "x", type := 2, offset := 0, embedded := false, tag := "", pkgPath := "runtime", byteOffset := 0 }, { name := "y", type := 3, offset := 1, embedded := false, tag := "", pkgPath := "runtime", byteOffset := 8 }, { name := "signed", type := 4, offset := 2, embedded := false, tag := "", pkgPath := "runtime", byteOffset := 16 }, { name := "code", type := 6, offset := 3, embedded := false, tag := "", pkgPath := "runtime", byteOffset := 17 }], 4, 24, Go.Value.agg #[Go.Value.int Go.IntKind.i64 0, Go.Value.int Go.IntKind.i64 0, Go.Value.bool false, Go.Value.int Go.IntKind.u8 0]⟩ := by kernel_rfl
theorem ty_8 : ty 8 = some ⟨Go.TypeDesc.struct #[{ name := "x", type := 2, offset := 0, embedded := false, tag := "", pkgPath := "runtime", byteOffset := 0 }, { name := "y", type := 3, offset := 1, embedded := false, tag := "", pkgPath := "runtime", byteOffset := 8 }, { name := "signed", type := 4, offset := 2, embedded := false, tag := "", pkgPath := "runtime", byteOffset := 16 }, { name := "code", type := 6, offset := 3, embedded := false, tag := "", pkgPath := "runtime", byteOffset := 17 }], 4, 24, Go.Value.agg #[Go.Value.int Go.IntKind.i64 0, Go.Value.int Go.IntKind.i64 0, Go.Value.bool false, Go.Value.int Go.IntKind.u8 0]⟩ := by kernel_rfl
theorem ty_9 : ty 9 = some ⟨Go.TypeDesc.string, 1, 16, Go.Value.string { data := #[] }⟩ := by kernel_rfl
theorem ty_10 : ty 10 = some ⟨Go.TypeDesc.string, 1, 16, Go.Value.string { data := #[] }⟩ := by kernel_rfl
theorem ty_11 : ty 11 = some ⟨Go.TypeDesc.string, 1, 16, Go.Value.string { data := #[] }⟩ := by kernel_rfl
theorem ty_12 : ty 12 = some ⟨Go.TypeDesc.int Go.IntKind.u64, 1, 8, Go.Value.int Go.IntKind.u64 0⟩ := by kernel_rfl
theorem ty_15 : ty 15 = some ⟨Go.TypeDesc.pointer 52, 1, 8, Go.Value.pointer none⟩ := by kernel_rfl
theorem ty_16 : ty 16 = some ⟨Go.TypeDesc.pointer 55, 1, 8, Go.Value.pointer none⟩ := by kernel_rfl
theorem ty_17 : ty 17 = some ⟨Go.TypeDesc.pointer 63, 1, 8, Go.Value.pointer none⟩ := by kernel_rfl
theorem ty_20 : ty 20 = some ⟨Go.TypeDesc.interface #[], 1, 16, Go.Value.nilIface⟩ := by kernel_rfl
theorem ty_21 : ty 21 = some ⟨Go.TypeDesc.int Go.IntKind.i32, 1, 4, Go.Value.int Go.IntKind.i32 0⟩ := by kernel_rfl
theorem ty_22 : ty 22 = some ⟨Go.TypeDesc.slice 5, 1, 24, Go.Value.slice none 0 0⟩ := by kernel_rfl
theorem ty_23 : ty 23 = some ⟨Go.TypeDesc.func #[] #[4] false, 1, 8, Go.Value.nilFunc⟩ := by kernel_rfl
theorem ty_24 : ty 24 = some ⟨Go.TypeDesc.func #[22] #[22] false, 1, 8, Go.Value.nilFunc⟩ := by kernel_rfl
theorem ty_25 : ty 25 = some ⟨Go.TypeDesc.array 32 5, 32, 32, Go.Value.agg #[Go.Value.int Go.IntKind.u8 0, Go.Value.int Go.IntKind.u8 0, Go.Value.int Go.IntKind.u8 0, Go.Value.int Go.IntKind.u8 0, Go.Value.int Go.IntKind.u8 0, Go.Value.int Go.IntKind.u8 0, Go.Value.int Go.IntKind.u8 0, Go.Value.int Go.IntKind.u8 0, Go.Value.int Go.IntKind.u8 0, Go.Value.int Go.IntKind.u8 0, Go.Value.int Go.IntKind.u8 0, Go.Value.int Go.IntKind.u8 0, Go.Value.int Go.IntKind.u8 0, Go.Value.int Go.IntKind.u8 0, Go.Value.int Go.IntKind.u8 0, Go.Value.int Go.IntKind.u8 0, Go.Value.int Go.IntKind.u8 0, Go.Value.int Go.IntKind.u8 0, Go.Value.int Go.IntKind.u8 0, Go.Value.int Go.IntKind.u8 0, Go.Value.int Go.IntKind.u8 0, Go.Value.int Go.IntKind.u8 0, Go.Value.int Go.IntKind.u8 0, Go.Value.int Go.IntKind.u8 0, Go.Value.int Go.IntKind.u8 0, Go.Value.int Go.IntKind.u8 0, Go.Value.int Go.IntKind.u8 0, Go.Value.int Go.IntKind.u8 0, Go.Value.int Go.IntKind.u8 0, Go.Value.int Go.IntKind.u8 0, Go.Value.int Go.IntKind.u8 0, Go.Value.int Go.IntKind.u8 0]⟩ := by kernel_rfl
theorem ty_26 : ty 26 = some ⟨Go.TypeDesc.array 32 5, 32, 32, Go.Value.agg #[Go.Value.int Go.IntKind.u8 0, Go.Value.int Go.IntKind.u8 0, Go.Value.int Go.IntKind.u8 0, Go.Value.int Go.IntKind.u8 0, Go.Value.int Go.IntKind.u8 0, Go.Value.int Go.IntKind.u8 0, Go.Value.int Go.IntKind.u8 0, Go.Value.int Go.IntKind.u8 0, Go.Value.int Go.IntKind.u8 0, Go.Value.int Go.IntKind.u8 0, Go.Value.int Go.IntKind.u8 0, Go.Value.int Go.IntKind.u8 0, Go.Value.int Go.IntKind.u8 0, Go.Value.int Go.IntKind.u8 0, Go.Value.int Go.IntKind.u8 0, Go.Value.int Go.IntKind.u8 0, Go.Value.int Go.IntKind.u8 0, Go.Value.int Go.IntKind.u8 0, Go.Value.int Go.IntKind.u8 0, Go.Value.int Go.IntKind.u8 0, Go.Value.int Go.IntKind.u8 0, Go.Value.int Go.IntKind.u8 0, Go.Value.int Go.IntKind.u8 0, Go.Value.int Go.IntKind.u8 0, Go.Value.int Go.IntKind.u8 0, Go.Value.int Go.IntKind.u8 0, Go.Value.int Go.IntKind.u8 0, Go.Value.int Go.IntKind.u8 0, Go.Value.int Go.IntKind.u8 0, Go.Value.int Go.IntKind.u8 0, Go.Value.int Go.IntKind.u8 0, Go.Value.int Go.IntKind.u8 0]⟩ := by kernel_rfl
theorem ty_27 : ty 27 = some ⟨Go.TypeDesc.func #[22] #[26] false, 1, 8, Go.Value.nilFunc⟩ := by kernel_rfl
theorem ty_28 : ty 28 = some ⟨Go.TypeDesc.func #[22, 22] #[4] false, 1, 8, Go.Value.nilFunc⟩ := by kernel_rfl
theorem ty_29 : ty 29 = some ⟨Go.TypeDesc.func #[22] #[4] false, 1, 8, Go.Value.nilFunc⟩ := by kernel_rfl
theorem ty_30 : ty 30 = some ⟨Go.TypeDesc.slice 22, 1, 24, Go.Value.slice none 0 0⟩ := by kernel_rfl
theorem ty_31 : ty 31 = some ⟨Go.TypeDesc.pointer 40, 1, 8, Go.Value.pointer none⟩ := by kernel_rfl
theorem ty_32 : ty 32 = some ⟨Go.TypeDesc.func #[] #[31] false, 1, 8, Go.Value.nilFunc⟩ := by kernel_rfl
theorem ty_33 : ty 33 = some ⟨Go.TypeDesc.func #[22] #[] false, 1, 8, Go.Value.nilFunc⟩ := by kernel_rfl
theorem ty_34 : ty 34 = some ⟨Go.TypeDesc.func #[] #[3] false, 1, 8, Go.Value.nilFunc⟩ := by kernel_rfl
theorem ty_35 : ty 35 = some ⟨Go.TypeDesc.func #[] #[26] false, 1, 8, Go.Value.nilFunc⟩ := by kernel_rfl
theorem ty_36 : ty 36 = some ⟨Go.TypeDesc.func #[30] #[4] false, 1, 8, Go.Value.nilFunc⟩ := by kernel_rfl
theorem ty_37 : ty 37 = some ⟨Go.TypeDesc.int Go.IntKind.u32, 1, 4, Go.Value.int Go.IntKind.u32 0⟩ := by kernel_rfl
theorem ty_38 : ty 38 = some ⟨Go.TypeDesc.array 8 37, 8, 32, Go.Value.agg #[Go.Value.int Go.IntKind.u32 0, Go.Value.int Go.IntKind.u32 0, Go.Value.int Go.IntKind.u32 0, Go.Value.int Go.IntKind.u32 0, Go.Value.int Go.IntKind.u32 0, Go.Value.int Go.IntKind.u32 0, Go.Value.int Go.IntKind.u32 0, Go.Value.int Go.IntKind.u32 0]⟩ := by kernel_rfl
theorem ty_39 : ty 39 = some ⟨Go.TypeDesc.struct #[{ name := "state", type := 38, offset := 0, embedded := false, tag := "", pkgPath := "avowal/hash", byteOffset := 0 }, { name := "rest", type := 22, offset := 8, embedded := false, tag := "", pkgPath := "avowal/hash", byteOffset := 32 }, { name := "n", type := 3, offset := 9, embedded := false, tag := "", pkgPath := "avowal/hash", byteOffset := 56 }, { name := "made", type := 4, offset := 10, embedded := false, tag := "", pkgPath := "avowal/hash", byteOffset := 64 }], 11, 72, Go.Value.agg #[Go.Value.int Go.IntKind.u32 0, Go.Value.int Go.IntKind.u32 0, Go.Value.int Go.IntKind.u32 0, Go.Value.int Go.IntKind.u32 0, Go.Value.int Go.IntKind.u32 0, Go.Value.int Go.IntKind.u32 0, Go.Value.int Go.IntKind.u32 0, Go.Value.int Go.IntKind.u32 0, Go.Value.slice none 0 0, Go.Value.int Go.IntKind.i64 0, Go.Value.bool false]⟩ := by kernel_rfl
theorem ty_40 : ty 40 = some ⟨Go.TypeDesc.struct #[{ name := "state", type := 38, offset := 0, embedded := false, tag := "", pkgPath := "avowal/hash", byteOffset := 0 }, { name := "rest", type := 22, offset := 8, embedded := false, tag := "", pkgPath := "avowal/hash", byteOffset := 32 }, { name := "n", type := 3, offset := 9, embedded := false, tag := "", pkgPath := "avowal/hash", byteOffset := 56 }, { name := "made", type := 4, offset := 10, embedded := false, tag := "", pkgPath := "avowal/hash", byteOffset := 64 }], 11, 72, Go.Value.agg #[Go.Value.int Go.IntKind.u32 0, Go.Value.int Go.IntKind.u32 0, Go.Value.int Go.IntKind.u32 0, Go.Value.int Go.IntKind.u32 0, Go.Value.int Go.IntKind.u32 0, Go.Value.int Go.IntKind.u32 0, Go.Value.int Go.IntKind.u32 0, Go.Value.int Go.IntKind.u32 0, Go.Value.slice none 0 0, Go.Value.int Go.IntKind.i64 0, Go.Value.bool false]⟩ := by kernel_rfl
theorem ty_41 : ty 41 = some ⟨Go.TypeDesc.array 2 31, 2, 16, Go.Value.agg #[Go.Value.pointer none, Go.Value.pointer none]⟩ := by kernel_rfl
theorem ty_42 : ty 42 = some ⟨Go.TypeDesc.array 64 37, 64, 256, Go.Value.agg #[Go.Value.int Go.IntKind.u32 0, Go.Value.int Go.IntKind.u32 0, Go.Value.int Go.IntKind.u32 0, Go.Value.int Go.IntKind.u32 0, Go.Value.int Go.IntKind.u32 0, Go.Value.int Go.IntKind.u32 0, Go.Value.int Go.IntKind.u32 0, Go.Value.int Go.IntKind.u32 0, Go.Value.int Go.IntKind.u32 0, Go.Value.int Go.IntKind.u32 0, Go.Value.int Go.IntKind.u32 0, Go.Value.int Go.IntKind.u32 0, Go.Value.int Go.IntKind.u32 0, Go.Value.int Go.IntKind.u32 0, Go.Value.int Go.IntKind.u32 0, Go.Value.int Go.IntKind.u32 0, Go.Value.int Go.IntKind.u32 0, Go.Value.int Go.IntKind.u32 0, Go.Value.int Go.IntKind.u32 0, Go.Value.int Go.IntKind.u32 0, Go.Value.int Go.IntKind.u32 0, Go.Value.int Go.IntKind.u32 0, Go.Value.int Go.IntKind.u32 0, Go.Value.int Go.IntKind.u32 0, Go.Value.int Go.IntKind.u32 0, Go.Value.int Go.IntKind.u32 0, Go.Value.int Go.IntKind.u32 0, Go.Value.int Go.IntKind.u32 0, Go.Value.int Go.IntKind.u32 0, Go.Value.int Go.IntKind.u32 0, Go.Value.int Go.IntKind.u32 0, Go.Value.int Go.IntKind.u32 0, Go.Value.int Go.IntKind.u32 0, Go.Value.int Go.IntKind.u32 0, Go.Value.int Go.IntKind.u32 0, Go.Value.int Go.IntKind.u32 0, Go.Value.int Go.IntKind.u32 0, Go.Value.int Go.IntKind.u32 0, Go.Value.int Go.IntKind.u32 0, Go.Value.int Go.IntKind.u32 0, Go.Value.int Go.IntKind.u32 0, Go.Value.int Go.IntKind.u32 0, Go.Value.int Go.IntKind.u32 0, Go.Value.int Go.IntKind.u32 0, Go.Value.int Go.IntKind.u32 0, Go.Value.int Go.IntKind.u32 0, Go.Value.int Go.IntKind.u32 0, Go.Value.int Go.IntKind.u32 0, Go.Value.int Go.IntKind.u32 0, Go.Value.int Go.IntKind.u32 0, Go.Value.int Go.IntKind.u32 0, Go.Value.int Go.IntKind.u32 0, Go.Value.int Go.IntKind.u32 0, Go.Value.int Go.IntKind.u32 0, Go.Value.int Go.IntKind.u32 0, Go.Value.int Go.IntKind.u32 0, Go.Value.int Go.IntKind.u32 0, Go.Value.int Go.IntKind.u32 0, Go.Value.int Go.IntKind.u32 0, Go.Value.int Go.IntKind.u32 0, Go.Value.int Go.IntKind.u32 0, Go.Value.int Go.IntKind.u32 0, Go.Value.int Go.IntKind.u32 0, Go.Value.int Go.IntKind.u32 0]⟩ := by kernel_rfl
theorem ty_43 : ty 43 = some ⟨Go.TypeDesc.func #[] #[42] false, 1, 8, Go.Value.nilFunc⟩ := by kernel_rfl
theorem ty_44 : ty 44 = some ⟨Go.TypeDesc.int Go.IntKind.u64, 1, 8, Go.Value.int Go.IntKind.u64 0⟩ := by kernel_rfl
theorem ty_45 : ty 45 = some ⟨Go.TypeDesc.func #[37, 44] #[37] false, 1, 8, Go.Value.nilFunc⟩ := by kernel_rfl
theorem ty_46 : ty 46 = some ⟨Go.TypeDesc.func #[38, 22] #[38] false, 1, 8, Go.Value.nilFunc⟩ := by kernel_rfl
theorem ty_47 : ty 47 = some ⟨Go.TypeDesc.int Go.IntKind.u64, 1, 8, Go.Value.int Go.IntKind.u64 0⟩ := by kernel_rfl
theorem ty_48 : ty 48 = some ⟨Go.TypeDesc.func #[37, 3] #[37] false, 1, 8, Go.Value.nilFunc⟩ := by kernel_rfl
theorem ty_49 : ty 49 = some ⟨Go.TypeDesc.slice 37, 1, 24, Go.Value.slice none 0 0⟩ := by kernel_rfl
theorem ty_50 : ty 50 = some ⟨Go.TypeDesc.func #[] #[9] false, 1, 8, Go.Value.nilFunc⟩ := by kernel_rfl
theorem ty_53 : ty 53 = some ⟨Go.TypeDesc.array 0 16, 0, 0, Go.Value.agg #[]⟩ := by kernel_rfl
theorem ty_56 : ty 56 = some ⟨Go.TypeDesc.int Go.IntKind.u8, 1, 1, Go.Value.int Go.IntKind.u8 0⟩ := by kernel_rfl
theorem ty_57 : ty 57 = some ⟨Go.TypeDesc.int Go.IntKind.u8, 1, 1, Go.Value.int Go.IntKind.u8 0⟩ := by kernel_rfl
theorem ty_58 : ty 58 = some ⟨Go.TypeDesc.func #[64, 64] #[4] false, 1, 8, Go.Value.nilFunc⟩ := by kernel_rfl
theorem ty_59 : ty 59 = some ⟨Go.TypeDesc.pointer 5, 1, 8, Go.Value.pointer none⟩ := by kernel_rfl
theorem ty_60 : ty 60 = some ⟨Go.TypeDesc.int Go.IntKind.i32, 1, 4, Go.Value.int Go.IntKind.i32 0⟩ := by kernel_rfl
theorem ty_61 : ty 61 = some ⟨Go.TypeDesc.int Go.IntKind.i32, 1, 4, Go.Value.int Go.IntKind.i32 0⟩ := by kernel_rfl
theorem ty_64 : ty 64 = some ⟨Go.TypeDesc.unsafePointer, 1, 8, Go.Value.pointer none⟩ := by kernel_rfl
theorem tK_1 : tK ty 1 = .fn := by unfold tK; rw [ty_1]; rfl
theorem tS_1 : tS ty 1 = 1 := by unfold tS; rw [ty_1]
theorem tB_1 : tB ty 1 = 8 := by unfold tB; rw [ty_1]
theorem tG_1 : tG ty 1 = false := by unfold tG; rw [ty_1]; rfl
theorem tI_1 : tI ty 1 = true := by unfold tI; rw [ty_1]; rfl
theorem tZ_1 : tZ ty 1 = some [.d (.c (Go.Value.nilFunc))] := by unfold tZ; rw [ty_1]; rfl
theorem tK_2 : tK ty 2 = .int .i64 := by unfold tK; rw [ty_2]; rfl
theorem tS_2 : tS ty 2 = 1 := by unfold tS; rw [ty_2]
theorem tB_2 : tB ty 2 = 8 := by unfold tB; rw [ty_2]
theorem tG_2 : tG ty 2 = false := by unfold tG; rw [ty_2]; rfl
theorem tI_2 : tI ty 2 = true := by unfold tI; rw [ty_2]; rfl
theorem tZ_2 : tZ ty 2 = some [.d (.c (Go.Value.int Go.IntKind.i64 0))] := by unfold tZ; rw [ty_2]; rfl
theorem tK_3 : tK ty 3 = .int .i64 := by unfold tK; rw [ty_3]; rfl
theorem tS_3 : tS ty 3 = 1 := by unfold tS; rw [ty_3]
theorem tB_3 : tB ty 3 = 8 := by unfold tB; rw [ty_3]
theorem tG_3 : tG ty 3 = false := by unfold tG; rw [ty_3]; rfl
theorem tI_3 : tI ty 3 = true := by unfold tI; rw [ty_3]; rfl
theorem tZ_3 : tZ ty 3 = some [.d (.c (Go.Value.int Go.IntKind.i64 0))] := by unfold tZ; rw [ty_3]; rfl
theorem tK_4 : tK ty 4 = .bool := by unfold tK; rw [ty_4]; rfl
theorem tS_4 : tS ty 4 = 1 := by unfold tS; rw [ty_4]
theorem tB_4 : tB ty 4 = 1 := by unfold tB; rw [ty_4]
theorem tG_4 : tG ty 4 = false := by unfold tG; rw [ty_4]; rfl
theorem tI_4 : tI ty 4 = true := by unfold tI; rw [ty_4]; rfl
theorem tZ_4 : tZ ty 4 = some [.d (.c (Go.Value.bool false))] := by unfold tZ; rw [ty_4]; rfl
theorem tK_5 : tK ty 5 = .int .u8 := by unfold tK; rw [ty_5]; rfl
theorem tS_5 : tS ty 5 = 1 := by unfold tS; rw [ty_5]
theorem tB_5 : tB ty 5 = 1 := by unfold tB; rw [ty_5]
theorem tG_5 : tG ty 5 = false := by unfold tG; rw [ty_5]; rfl
theorem tI_5 : tI ty 5 = true := by unfold tI; rw [ty_5]; rfl
theorem tZ_5 : tZ ty 5 = some [.d (.c (Go.Value.int Go.IntKind.u8 0))] := by unfold tZ; rw [ty_5]; rfl
theorem tK_6 : tK ty 6 = .int .u8 := by unfold tK; rw [ty_6]; rfl
theorem tS_6 : tS ty 6 = 1 := by unfold tS; rw [ty_6]
theorem tB_6 : tB ty 6 = 1 := by unfold tB; rw [ty_6]
theorem tG_6 : tG ty 6 = false := by unfold tG; rw [ty_6]; rfl
theorem tI_6 : tI ty 6 = true := by unfold tI; rw [ty_6]; rfl
theorem tZ_6 : tZ ty 6 = some [.d (.c (Go.Value.int Go.IntKind.u8 0))] := by unfold tZ; rw [ty_6]; rfl
theorem tK_7 : tK ty 7 = .st := by unfold tK; rw [ty_7]; rfl
theorem tS_7 : tS ty 7 = 4 := by unfold tS; rw [ty_7]
theorem tB_7 : tB ty 7 = 24 := by unfold tB; rw [ty_7]
theorem tG_7 : tG ty 7 = true := by unfold tG; rw [ty_7]; rfl
theorem tI_7 : tI ty 7 = true := by unfold tI; rw [ty_7]; rfl
theorem tZ_7 : tZ ty 7 = some [.d (.c (Go.Value.int Go.IntKind.i64 0)), .d (.c (Go.Value.int Go.IntKind.i64 0)), .d (.c (Go.Value.bool false)), .d (.c (Go.Value.int Go.IntKind.u8 0))] := by unfold tZ; rw [ty_7]; rfl
theorem tF_7 : tF ty 7 = some ([.int, .int, .bool, .int]) := by unfold tF; kernel_rfl
theorem fieldOf_7_0 : fieldOf ty 7 0 = some (0, 2) := by unfold fieldOf; rw [ty_7]; rfl
theorem fieldOf_7_1 : fieldOf ty 7 1 = some (1, 3) := by unfold fieldOf; rw [ty_7]; rfl
theorem fieldOf_7_2 : fieldOf ty 7 2 = some (2, 4) := by unfold fieldOf; rw [ty_7]; rfl
theorem fieldOf_7_3 : fieldOf ty 7 3 = some (3, 6) := by unfold fieldOf; rw [ty_7]; rfl
theorem tP_7 : tP ty 7 = some [(0, 1), (1, 1), (2, 1), (3, 1)] := by unfold tP; rw [ty_7]; simp only [placesA, List.toList_toArray, ty_2, ty_3, ty_4, ty_6]
theorem tK_8 : tK ty 8 = .st := by unfold tK; rw [ty_8]; rfl
theorem tS_8 : tS ty 8 = 4 := by unfold tS; rw [ty_8]
theorem tB_8 : tB ty 8 = 24 := by unfold tB; rw [ty_8]
theorem tG_8 : tG ty 8 = true := by unfold tG; rw [ty_8]; rfl
theorem tI_8 : tI ty 8 = true := by unfold tI; rw [ty_8]; rfl
theorem tZ_8 : tZ ty 8 = some [.d (.c (Go.Value.int Go.IntKind.i64 0)), .d (.c (Go.Value.int Go.IntKind.i64 0)), .d (.c (Go.Value.bool false)), .d (.c (Go.Value.int Go.IntKind.u8 0))] := by unfold tZ; rw [ty_8]; rfl
theorem tF_8 : tF ty 8 = some ([.int, .int, .bool, .int]) := by unfold tF; kernel_rfl
theorem fieldOf_8_0 : fieldOf ty 8 0 = some (0, 2) := by unfold fieldOf; rw [ty_8]; rfl
theorem fieldOf_8_1 : fieldOf ty 8 1 = some (1, 3) := by unfold fieldOf; rw [ty_8]; rfl
theorem fieldOf_8_2 : fieldOf ty 8 2 = some (2, 4) := by unfold fieldOf; rw [ty_8]; rfl
theorem fieldOf_8_3 : fieldOf ty 8 3 = some (3, 6) := by unfold fieldOf; rw [ty_8]; rfl
theorem tP_8 : tP ty 8 = some [(0, 1), (1, 1), (2, 1), (3, 1)] := by unfold tP; rw [ty_8]; simp only [placesA, List.toList_toArray, ty_2, ty_3, ty_4, ty_6]
theorem tK_9 : tK ty 9 = .str := by unfold tK; rw [ty_9]; rfl
theorem tS_9 : tS ty 9 = 1 := by unfold tS; rw [ty_9]
theorem tB_9 : tB ty 9 = 16 := by unfold tB; rw [ty_9]
theorem tG_9 : tG ty 9 = false := by unfold tG; rw [ty_9]; rfl
theorem tI_9 : tI ty 9 = true := by unfold tI; rw [ty_9]; rfl
theorem tZ_9 : tZ ty 9 = some [.d (.c (Go.Value.string { data := #[] }))] := by unfold tZ; rw [ty_9]; rfl
theorem tK_10 : tK ty 10 = .str := by unfold tK; rw [ty_10]; rfl
theorem tS_10 : tS ty 10 = 1 := by unfold tS; rw [ty_10]
theorem tB_10 : tB ty 10 = 16 := by unfold tB; rw [ty_10]
theorem tG_10 : tG ty 10 = false := by unfold tG; rw [ty_10]; rfl
theorem tI_10 : tI ty 10 = true := by unfold tI; rw [ty_10]; rfl
theorem tZ_10 : tZ ty 10 = some [.d (.c (Go.Value.string { data := #[] }))] := by unfold tZ; rw [ty_10]; rfl
theorem tK_11 : tK ty 11 = .str := by unfold tK; rw [ty_11]; rfl
theorem tS_11 : tS ty 11 = 1 := by unfold tS; rw [ty_11]
theorem tB_11 : tB ty 11 = 16 := by unfold tB; rw [ty_11]
theorem tG_11 : tG ty 11 = false := by unfold tG; rw [ty_11]; rfl
theorem tI_11 : tI ty 11 = true := by unfold tI; rw [ty_11]; rfl
theorem tZ_11 : tZ ty 11 = some [.d (.c (Go.Value.string { data := #[] }))] := by unfold tZ; rw [ty_11]; rfl
theorem tK_12 : tK ty 12 = .int .u64 := by unfold tK; rw [ty_12]; rfl
theorem tS_12 : tS ty 12 = 1 := by unfold tS; rw [ty_12]
theorem tB_12 : tB ty 12 = 8 := by unfold tB; rw [ty_12]
theorem tG_12 : tG ty 12 = false := by unfold tG; rw [ty_12]; rfl
theorem tI_12 : tI ty 12 = true := by unfold tI; rw [ty_12]; rfl
theorem tZ_12 : tZ ty 12 = some [.d (.c (Go.Value.int Go.IntKind.u64 0))] := by unfold tZ; rw [ty_12]; rfl
theorem tK_15 : tK ty 15 = .ptr := by unfold tK; rw [ty_15]; rfl
theorem tS_15 : tS ty 15 = 1 := by unfold tS; rw [ty_15]
theorem tB_15 : tB ty 15 = 8 := by unfold tB; rw [ty_15]
theorem tG_15 : tG ty 15 = false := by unfold tG; rw [ty_15]; rfl
theorem tI_15 : tI ty 15 = true := by unfold tI; rw [ty_15]; rfl
theorem tZ_15 : tZ ty 15 = some [.d (.c (Go.Value.pointer none))] := by unfold tZ; rw [ty_15]; rfl
theorem tK_16 : tK ty 16 = .ptr := by unfold tK; rw [ty_16]; rfl
theorem tS_16 : tS ty 16 = 1 := by unfold tS; rw [ty_16]
theorem tB_16 : tB ty 16 = 8 := by unfold tB; rw [ty_16]
theorem tG_16 : tG ty 16 = false := by unfold tG; rw [ty_16]; rfl
theorem tI_16 : tI ty 16 = true := by unfold tI; rw [ty_16]; rfl
theorem tZ_16 : tZ ty 16 = some [.d (.c (Go.Value.pointer none))] := by unfold tZ; rw [ty_16]; rfl
theorem tK_17 : tK ty 17 = .ptr := by unfold tK; rw [ty_17]; rfl
theorem tS_17 : tS ty 17 = 1 := by unfold tS; rw [ty_17]
theorem tB_17 : tB ty 17 = 8 := by unfold tB; rw [ty_17]
theorem tG_17 : tG ty 17 = false := by unfold tG; rw [ty_17]; rfl
theorem tI_17 : tI ty 17 = true := by unfold tI; rw [ty_17]; rfl
theorem tZ_17 : tZ ty 17 = some [.d (.c (Go.Value.pointer none))] := by unfold tZ; rw [ty_17]; rfl
theorem tK_21 : tK ty 21 = .int .i32 := by unfold tK; rw [ty_21]; rfl
theorem tS_21 : tS ty 21 = 1 := by unfold tS; rw [ty_21]
theorem tB_21 : tB ty 21 = 4 := by unfold tB; rw [ty_21]
theorem tG_21 : tG ty 21 = false := by unfold tG; rw [ty_21]; rfl
theorem tI_21 : tI ty 21 = true := by unfold tI; rw [ty_21]; rfl
theorem tZ_21 : tZ ty 21 = some [.d (.c (Go.Value.int Go.IntKind.i32 0))] := by unfold tZ; rw [ty_21]; rfl
theorem tK_22 : tK ty 22 = .sl 5 := by unfold tK; rw [ty_22]; rfl
theorem tS_22 : tS ty 22 = 1 := by unfold tS; rw [ty_22]
theorem tB_22 : tB ty 22 = 24 := by unfold tB; rw [ty_22]
theorem tG_22 : tG ty 22 = false := by unfold tG; rw [ty_22]; rfl
theorem tI_22 : tI ty 22 = true := by unfold tI; rw [ty_22]; rfl
theorem tZ_22 : tZ ty 22 = some [.d (.c (Go.Value.slice none 0 0))] := by unfold tZ; rw [ty_22]; rfl
theorem szOf_22 : szOf ty 22 = some 1 := by unfold szOf; rw [ty_22]; simp only [ty_5, Option.map_some]
theorem tK_23 : tK ty 23 = .fn := by unfold tK; rw [ty_23]; rfl
theorem tS_23 : tS ty 23 = 1 := by unfold tS; rw [ty_23]
theorem tB_23 : tB ty 23 = 8 := by unfold tB; rw [ty_23]
theorem tG_23 : tG ty 23 = false := by unfold tG; rw [ty_23]; rfl
theorem tI_23 : tI ty 23 = true := by unfold tI; rw [ty_23]; rfl
theorem tZ_23 : tZ ty 23 = some [.d (.c (Go.Value.nilFunc))] := by unfold tZ; rw [ty_23]; rfl
theorem tK_24 : tK ty 24 = .fn := by unfold tK; rw [ty_24]; rfl
theorem tS_24 : tS ty 24 = 1 := by unfold tS; rw [ty_24]
theorem tB_24 : tB ty 24 = 8 := by unfold tB; rw [ty_24]
theorem tG_24 : tG ty 24 = false := by unfold tG; rw [ty_24]; rfl
theorem tI_24 : tI ty 24 = true := by unfold tI; rw [ty_24]; rfl
theorem tZ_24 : tZ ty 24 = some [.d (.c (Go.Value.nilFunc))] := by unfold tZ; rw [ty_24]; rfl
theorem tK_25 : tK ty 25 = .arr 32 5 := by unfold tK; rw [ty_25]; rfl
theorem tS_25 : tS ty 25 = 32 := by unfold tS; rw [ty_25]
theorem tB_25 : tB ty 25 = 32 := by unfold tB; rw [ty_25]
theorem tG_25 : tG ty 25 = true := by unfold tG; rw [ty_25]; rfl
theorem tI_25 : tI ty 25 = true := by unfold tI; rw [ty_25]; rfl
theorem tZ_25 : tZ ty 25 = some [.d (.c (Go.Value.int Go.IntKind.u8 0)), .d (.c (Go.Value.int Go.IntKind.u8 0)), .d (.c (Go.Value.int Go.IntKind.u8 0)), .d (.c (Go.Value.int Go.IntKind.u8 0)), .d (.c (Go.Value.int Go.IntKind.u8 0)), .d (.c (Go.Value.int Go.IntKind.u8 0)), .d (.c (Go.Value.int Go.IntKind.u8 0)), .d (.c (Go.Value.int Go.IntKind.u8 0)), .d (.c (Go.Value.int Go.IntKind.u8 0)), .d (.c (Go.Value.int Go.IntKind.u8 0)), .d (.c (Go.Value.int Go.IntKind.u8 0)), .d (.c (Go.Value.int Go.IntKind.u8 0)), .d (.c (Go.Value.int Go.IntKind.u8 0)), .d (.c (Go.Value.int Go.IntKind.u8 0)), .d (.c (Go.Value.int Go.IntKind.u8 0)), .d (.c (Go.Value.int Go.IntKind.u8 0)), .d (.c (Go.Value.int Go.IntKind.u8 0)), .d (.c (Go.Value.int Go.IntKind.u8 0)), .d (.c (Go.Value.int Go.IntKind.u8 0)), .d (.c (Go.Value.int Go.IntKind.u8 0)), .d (.c (Go.Value.int Go.IntKind.u8 0)), .d (.c (Go.Value.int Go.IntKind.u8 0)), .d (.c (Go.Value.int Go.IntKind.u8 0)), .d (.c (Go.Value.int Go.IntKind.u8 0)), .d (.c (Go.Value.int Go.IntKind.u8 0)), .d (.c (Go.Value.int Go.IntKind.u8 0)), .d (.c (Go.Value.int Go.IntKind.u8 0)), .d (.c (Go.Value.int Go.IntKind.u8 0)), .d (.c (Go.Value.int Go.IntKind.u8 0)), .d (.c (Go.Value.int Go.IntKind.u8 0)), .d (.c (Go.Value.int Go.IntKind.u8 0)), .d (.c (Go.Value.int Go.IntKind.u8 0))] := by unfold tZ; rw [ty_25]; rfl
theorem tF_25 : tF ty 25 = some (List.replicate 32 .int) := by unfold tF; kernel_rfl
theorem tK_26 : tK ty 26 = .arr 32 5 := by unfold tK; rw [ty_26]; rfl
theorem tS_26 : tS ty 26 = 32 := by unfold tS; rw [ty_26]
theorem tB_26 : tB ty 26 = 32 := by unfold tB; rw [ty_26]
theorem tG_26 : tG ty 26 = true := by unfold tG; rw [ty_26]; rfl
theorem tI_26 : tI ty 26 = true := by unfold tI; rw [ty_26]; rfl
theorem tZ_26 : tZ ty 26 = some [.d (.c (Go.Value.int Go.IntKind.u8 0)), .d (.c (Go.Value.int Go.IntKind.u8 0)), .d (.c (Go.Value.int Go.IntKind.u8 0)), .d (.c (Go.Value.int Go.IntKind.u8 0)), .d (.c (Go.Value.int Go.IntKind.u8 0)), .d (.c (Go.Value.int Go.IntKind.u8 0)), .d (.c (Go.Value.int Go.IntKind.u8 0)), .d (.c (Go.Value.int Go.IntKind.u8 0)), .d (.c (Go.Value.int Go.IntKind.u8 0)), .d (.c (Go.Value.int Go.IntKind.u8 0)), .d (.c (Go.Value.int Go.IntKind.u8 0)), .d (.c (Go.Value.int Go.IntKind.u8 0)), .d (.c (Go.Value.int Go.IntKind.u8 0)), .d (.c (Go.Value.int Go.IntKind.u8 0)), .d (.c (Go.Value.int Go.IntKind.u8 0)), .d (.c (Go.Value.int Go.IntKind.u8 0)), .d (.c (Go.Value.int Go.IntKind.u8 0)), .d (.c (Go.Value.int Go.IntKind.u8 0)), .d (.c (Go.Value.int Go.IntKind.u8 0)), .d (.c (Go.Value.int Go.IntKind.u8 0)), .d (.c (Go.Value.int Go.IntKind.u8 0)), .d (.c (Go.Value.int Go.IntKind.u8 0)), .d (.c (Go.Value.int Go.IntKind.u8 0)), .d (.c (Go.Value.int Go.IntKind.u8 0)), .d (.c (Go.Value.int Go.IntKind.u8 0)), .d (.c (Go.Value.int Go.IntKind.u8 0)), .d (.c (Go.Value.int Go.IntKind.u8 0)), .d (.c (Go.Value.int Go.IntKind.u8 0)), .d (.c (Go.Value.int Go.IntKind.u8 0)), .d (.c (Go.Value.int Go.IntKind.u8 0)), .d (.c (Go.Value.int Go.IntKind.u8 0)), .d (.c (Go.Value.int Go.IntKind.u8 0))] := by unfold tZ; rw [ty_26]; rfl
theorem tF_26 : tF ty 26 = some (List.replicate 32 .int) := by unfold tF; kernel_rfl
theorem tK_27 : tK ty 27 = .fn := by unfold tK; rw [ty_27]; rfl
theorem tS_27 : tS ty 27 = 1 := by unfold tS; rw [ty_27]
theorem tB_27 : tB ty 27 = 8 := by unfold tB; rw [ty_27]
theorem tG_27 : tG ty 27 = false := by unfold tG; rw [ty_27]; rfl
theorem tI_27 : tI ty 27 = true := by unfold tI; rw [ty_27]; rfl
theorem tZ_27 : tZ ty 27 = some [.d (.c (Go.Value.nilFunc))] := by unfold tZ; rw [ty_27]; rfl
theorem tK_28 : tK ty 28 = .fn := by unfold tK; rw [ty_28]; rfl
theorem tS_28 : tS ty 28 = 1 := by unfold tS; rw [ty_28]
theorem tB_28 : tB ty 28 = 8 := by unfold tB; rw [ty_28]
theorem tG_28 : tG ty 28 = false := by unfold tG; rw [ty_28]; rfl
theorem tI_28 : tI ty 28 = true := by unfold tI; rw [ty_28]; rfl
theorem tZ_28 : tZ ty 28 = some [.d (.c (Go.Value.nilFunc))] := by unfold tZ; rw [ty_28]; rfl
theorem tK_29 : tK ty 29 = .fn := by unfold tK; rw [ty_29]; rfl
theorem tS_29 : tS ty 29 = 1 := by unfold tS; rw [ty_29]
theorem tB_29 : tB ty 29 = 8 := by unfold tB; rw [ty_29]
theorem tG_29 : tG ty 29 = false := by unfold tG; rw [ty_29]; rfl
theorem tI_29 : tI ty 29 = true := by unfold tI; rw [ty_29]; rfl
theorem tZ_29 : tZ ty 29 = some [.d (.c (Go.Value.nilFunc))] := by unfold tZ; rw [ty_29]; rfl
theorem tK_30 : tK ty 30 = .sl 22 := by unfold tK; rw [ty_30]; rfl
theorem tS_30 : tS ty 30 = 1 := by unfold tS; rw [ty_30]
theorem tB_30 : tB ty 30 = 24 := by unfold tB; rw [ty_30]
theorem tG_30 : tG ty 30 = false := by unfold tG; rw [ty_30]; rfl
theorem tI_30 : tI ty 30 = true := by unfold tI; rw [ty_30]; rfl
theorem tZ_30 : tZ ty 30 = some [.d (.c (Go.Value.slice none 0 0))] := by unfold tZ; rw [ty_30]; rfl
theorem szOf_30 : szOf ty 30 = some 1 := by unfold szOf; rw [ty_30]; simp only [ty_22, Option.map_some]
theorem tK_31 : tK ty 31 = .ptr := by unfold tK; rw [ty_31]; rfl
theorem tS_31 : tS ty 31 = 1 := by unfold tS; rw [ty_31]
theorem tB_31 : tB ty 31 = 8 := by unfold tB; rw [ty_31]
theorem tG_31 : tG ty 31 = false := by unfold tG; rw [ty_31]; rfl
theorem tI_31 : tI ty 31 = true := by unfold tI; rw [ty_31]; rfl
theorem tZ_31 : tZ ty 31 = some [.d (.c (Go.Value.pointer none))] := by unfold tZ; rw [ty_31]; rfl
theorem tK_32 : tK ty 32 = .fn := by unfold tK; rw [ty_32]; rfl
theorem tS_32 : tS ty 32 = 1 := by unfold tS; rw [ty_32]
theorem tB_32 : tB ty 32 = 8 := by unfold tB; rw [ty_32]
theorem tG_32 : tG ty 32 = false := by unfold tG; rw [ty_32]; rfl
theorem tI_32 : tI ty 32 = true := by unfold tI; rw [ty_32]; rfl
theorem tZ_32 : tZ ty 32 = some [.d (.c (Go.Value.nilFunc))] := by unfold tZ; rw [ty_32]; rfl
theorem tK_33 : tK ty 33 = .fn := by unfold tK; rw [ty_33]; rfl
theorem tS_33 : tS ty 33 = 1 := by unfold tS; rw [ty_33]
theorem tB_33 : tB ty 33 = 8 := by unfold tB; rw [ty_33]
theorem tG_33 : tG ty 33 = false := by unfold tG; rw [ty_33]; rfl
theorem tI_33 : tI ty 33 = true := by unfold tI; rw [ty_33]; rfl
theorem tZ_33 : tZ ty 33 = some [.d (.c (Go.Value.nilFunc))] := by unfold tZ; rw [ty_33]; rfl
theorem tK_34 : tK ty 34 = .fn := by unfold tK; rw [ty_34]; rfl
theorem tS_34 : tS ty 34 = 1 := by unfold tS; rw [ty_34]
theorem tB_34 : tB ty 34 = 8 := by unfold tB; rw [ty_34]
theorem tG_34 : tG ty 34 = false := by unfold tG; rw [ty_34]; rfl
theorem tI_34 : tI ty 34 = true := by unfold tI; rw [ty_34]; rfl
theorem tZ_34 : tZ ty 34 = some [.d (.c (Go.Value.nilFunc))] := by unfold tZ; rw [ty_34]; rfl
theorem tK_35 : tK ty 35 = .fn := by unfold tK; rw [ty_35]; rfl
theorem tS_35 : tS ty 35 = 1 := by unfold tS; rw [ty_35]
theorem tB_35 : tB ty 35 = 8 := by unfold tB; rw [ty_35]
theorem tG_35 : tG ty 35 = false := by unfold tG; rw [ty_35]; rfl
theorem tI_35 : tI ty 35 = true := by unfold tI; rw [ty_35]; rfl
theorem tZ_35 : tZ ty 35 = some [.d (.c (Go.Value.nilFunc))] := by unfold tZ; rw [ty_35]; rfl
theorem tK_36 : tK ty 36 = .fn := by unfold tK; rw [ty_36]; rfl
theorem tS_36 : tS ty 36 = 1 := by unfold tS; rw [ty_36]
theorem tB_36 : tB ty 36 = 8 := by unfold tB; rw [ty_36]
theorem tG_36 : tG ty 36 = false := by unfold tG; rw [ty_36]; rfl
theorem tI_36 : tI ty 36 = true := by unfold tI; rw [ty_36]; rfl
theorem tZ_36 : tZ ty 36 = some [.d (.c (Go.Value.nilFunc))] := by unfold tZ; rw [ty_36]; rfl
theorem tK_37 : tK ty 37 = .int .u32 := by unfold tK; rw [ty_37]; rfl
theorem tS_37 : tS ty 37 = 1 := by unfold tS; rw [ty_37]
theorem tB_37 : tB ty 37 = 4 := by unfold tB; rw [ty_37]
theorem tG_37 : tG ty 37 = false := by unfold tG; rw [ty_37]; rfl
theorem tI_37 : tI ty 37 = true := by unfold tI; rw [ty_37]; rfl
theorem tZ_37 : tZ ty 37 = some [.d (.c (Go.Value.int Go.IntKind.u32 0))] := by unfold tZ; rw [ty_37]; rfl
theorem tK_38 : tK ty 38 = .arr 8 37 := by unfold tK; rw [ty_38]; rfl
theorem tS_38 : tS ty 38 = 8 := by unfold tS; rw [ty_38]
theorem tB_38 : tB ty 38 = 32 := by unfold tB; rw [ty_38]
theorem tG_38 : tG ty 38 = true := by unfold tG; rw [ty_38]; rfl
theorem tI_38 : tI ty 38 = true := by unfold tI; rw [ty_38]; rfl
theorem tZ_38 : tZ ty 38 = some [.d (.c (Go.Value.int Go.IntKind.u32 0)), .d (.c (Go.Value.int Go.IntKind.u32 0)), .d (.c (Go.Value.int Go.IntKind.u32 0)), .d (.c (Go.Value.int Go.IntKind.u32 0)), .d (.c (Go.Value.int Go.IntKind.u32 0)), .d (.c (Go.Value.int Go.IntKind.u32 0)), .d (.c (Go.Value.int Go.IntKind.u32 0)), .d (.c (Go.Value.int Go.IntKind.u32 0))] := by unfold tZ; rw [ty_38]; rfl
theorem tF_38 : tF ty 38 = some (List.replicate 8 .int) := by unfold tF; kernel_rfl
theorem tK_39 : tK ty 39 = .st := by unfold tK; rw [ty_39]; rfl
theorem tS_39 : tS ty 39 = 11 := by unfold tS; rw [ty_39]
theorem tB_39 : tB ty 39 = 72 := by unfold tB; rw [ty_39]
theorem tG_39 : tG ty 39 = true := by unfold tG; rw [ty_39]; rfl
theorem tI_39 : tI ty 39 = true := by unfold tI; rw [ty_39]; rfl
theorem tZ_39 : tZ ty 39 = some [.d (.c (Go.Value.int Go.IntKind.u32 0)), .d (.c (Go.Value.int Go.IntKind.u32 0)), .d (.c (Go.Value.int Go.IntKind.u32 0)), .d (.c (Go.Value.int Go.IntKind.u32 0)), .d (.c (Go.Value.int Go.IntKind.u32 0)), .d (.c (Go.Value.int Go.IntKind.u32 0)), .d (.c (Go.Value.int Go.IntKind.u32 0)), .d (.c (Go.Value.int Go.IntKind.u32 0)), .d (.c (Go.Value.slice none 0 0)), .d (.c (Go.Value.int Go.IntKind.i64 0)), .d (.c (Go.Value.bool false))] := by unfold tZ; rw [ty_39]; rfl
theorem fieldOf_39_0 : fieldOf ty 39 0 = some (0, 38) := by unfold fieldOf; rw [ty_39]; rfl
theorem fieldOf_39_1 : fieldOf ty 39 1 = some (8, 22) := by unfold fieldOf; rw [ty_39]; rfl
theorem fieldOf_39_2 : fieldOf ty 39 2 = some (9, 3) := by unfold fieldOf; rw [ty_39]; rfl
theorem fieldOf_39_3 : fieldOf ty 39 3 = some (10, 4) := by unfold fieldOf; rw [ty_39]; rfl
theorem tP_39 : tP ty 39 = some [(0, 8), (8, 1), (9, 1), (10, 1)] := by unfold tP; rw [ty_39]; simp only [placesA, List.toList_toArray, ty_22, ty_3, ty_38, ty_4]
theorem tK_40 : tK ty 40 = .st := by unfold tK; rw [ty_40]; rfl
theorem tS_40 : tS ty 40 = 11 := by unfold tS; rw [ty_40]
theorem tB_40 : tB ty 40 = 72 := by unfold tB; rw [ty_40]
theorem tG_40 : tG ty 40 = true := by unfold tG; rw [ty_40]; rfl
theorem tI_40 : tI ty 40 = true := by unfold tI; rw [ty_40]; rfl
theorem tZ_40 : tZ ty 40 = some [.d (.c (Go.Value.int Go.IntKind.u32 0)), .d (.c (Go.Value.int Go.IntKind.u32 0)), .d (.c (Go.Value.int Go.IntKind.u32 0)), .d (.c (Go.Value.int Go.IntKind.u32 0)), .d (.c (Go.Value.int Go.IntKind.u32 0)), .d (.c (Go.Value.int Go.IntKind.u32 0)), .d (.c (Go.Value.int Go.IntKind.u32 0)), .d (.c (Go.Value.int Go.IntKind.u32 0)), .d (.c (Go.Value.slice none 0 0)), .d (.c (Go.Value.int Go.IntKind.i64 0)), .d (.c (Go.Value.bool false))] := by unfold tZ; rw [ty_40]; rfl
theorem fieldOf_40_0 : fieldOf ty 40 0 = some (0, 38) := by unfold fieldOf; rw [ty_40]; rfl
theorem fieldOf_40_1 : fieldOf ty 40 1 = some (8, 22) := by unfold fieldOf; rw [ty_40]; rfl
theorem fieldOf_40_2 : fieldOf ty 40 2 = some (9, 3) := by unfold fieldOf; rw [ty_40]; rfl
theorem fieldOf_40_3 : fieldOf ty 40 3 = some (10, 4) := by unfold fieldOf; rw [ty_40]; rfl
theorem tP_40 : tP ty 40 = some [(0, 8), (8, 1), (9, 1), (10, 1)] := by unfold tP; rw [ty_40]; simp only [placesA, List.toList_toArray, ty_22, ty_3, ty_38, ty_4]
theorem tK_41 : tK ty 41 = .arr 2 31 := by unfold tK; rw [ty_41]; rfl
theorem tS_41 : tS ty 41 = 2 := by unfold tS; rw [ty_41]
theorem tB_41 : tB ty 41 = 16 := by unfold tB; rw [ty_41]
theorem tG_41 : tG ty 41 = true := by unfold tG; rw [ty_41]; rfl
theorem tI_41 : tI ty 41 = true := by unfold tI; rw [ty_41]; rfl
theorem tZ_41 : tZ ty 41 = some [.d (.c (Go.Value.pointer none)), .d (.c (Go.Value.pointer none))] := by unfold tZ; rw [ty_41]; rfl
theorem tK_42 : tK ty 42 = .arr 64 37 := by unfold tK; rw [ty_42]; rfl
theorem tS_42 : tS ty 42 = 64 := by unfold tS; rw [ty_42]
theorem tB_42 : tB ty 42 = 256 := by unfold tB; rw [ty_42]
theorem tG_42 : tG ty 42 = true := by unfold tG; rw [ty_42]; rfl
theorem tI_42 : tI ty 42 = true := by unfold tI; rw [ty_42]; rfl
theorem tZ_42 : tZ ty 42 = some [.d (.c (Go.Value.int Go.IntKind.u32 0)), .d (.c (Go.Value.int Go.IntKind.u32 0)), .d (.c (Go.Value.int Go.IntKind.u32 0)), .d (.c (Go.Value.int Go.IntKind.u32 0)), .d (.c (Go.Value.int Go.IntKind.u32 0)), .d (.c (Go.Value.int Go.IntKind.u32 0)), .d (.c (Go.Value.int Go.IntKind.u32 0)), .d (.c (Go.Value.int Go.IntKind.u32 0)), .d (.c (Go.Value.int Go.IntKind.u32 0)), .d (.c (Go.Value.int Go.IntKind.u32 0)), .d (.c (Go.Value.int Go.IntKind.u32 0)), .d (.c (Go.Value.int Go.IntKind.u32 0)), .d (.c (Go.Value.int Go.IntKind.u32 0)), .d (.c (Go.Value.int Go.IntKind.u32 0)), .d (.c (Go.Value.int Go.IntKind.u32 0)), .d (.c (Go.Value.int Go.IntKind.u32 0)), .d (.c (Go.Value.int Go.IntKind.u32 0)), .d (.c (Go.Value.int Go.IntKind.u32 0)), .d (.c (Go.Value.int Go.IntKind.u32 0)), .d (.c (Go.Value.int Go.IntKind.u32 0)), .d (.c (Go.Value.int Go.IntKind.u32 0)), .d (.c (Go.Value.int Go.IntKind.u32 0)), .d (.c (Go.Value.int Go.IntKind.u32 0)), .d (.c (Go.Value.int Go.IntKind.u32 0)), .d (.c (Go.Value.int Go.IntKind.u32 0)), .d (.c (Go.Value.int Go.IntKind.u32 0)), .d (.c (Go.Value.int Go.IntKind.u32 0)), .d (.c (Go.Value.int Go.IntKind.u32 0)), .d (.c (Go.Value.int Go.IntKind.u32 0)), .d (.c (Go.Value.int Go.IntKind.u32 0)), .d (.c (Go.Value.int Go.IntKind.u32 0)), .d (.c (Go.Value.int Go.IntKind.u32 0)), .d (.c (Go.Value.int Go.IntKind.u32 0)), .d (.c (Go.Value.int Go.IntKind.u32 0)), .d (.c (Go.Value.int Go.IntKind.u32 0)), .d (.c (Go.Value.int Go.IntKind.u32 0)), .d (.c (Go.Value.int Go.IntKind.u32 0)), .d (.c (Go.Value.int Go.IntKind.u32 0)), .d (.c (Go.Value.int Go.IntKind.u32 0)), .d (.c (Go.Value.int Go.IntKind.u32 0)), .d (.c (Go.Value.int Go.IntKind.u32 0)), .d (.c (Go.Value.int Go.IntKind.u32 0)), .d (.c (Go.Value.int Go.IntKind.u32 0)), .d (.c (Go.Value.int Go.IntKind.u32 0)), .d (.c (Go.Value.int Go.IntKind.u32 0)), .d (.c (Go.Value.int Go.IntKind.u32 0)), .d (.c (Go.Value.int Go.IntKind.u32 0)), .d (.c (Go.Value.int Go.IntKind.u32 0)), .d (.c (Go.Value.int Go.IntKind.u32 0)), .d (.c (Go.Value.int Go.IntKind.u32 0)), .d (.c (Go.Value.int Go.IntKind.u32 0)), .d (.c (Go.Value.int Go.IntKind.u32 0)), .d (.c (Go.Value.int Go.IntKind.u32 0)), .d (.c (Go.Value.int Go.IntKind.u32 0)), .d (.c (Go.Value.int Go.IntKind.u32 0)), .d (.c (Go.Value.int Go.IntKind.u32 0)), .d (.c (Go.Value.int Go.IntKind.u32 0)), .d (.c (Go.Value.int Go.IntKind.u32 0)), .d (.c (Go.Value.int Go.IntKind.u32 0)), .d (.c (Go.Value.int Go.IntKind.u32 0)), .d (.c (Go.Value.int Go.IntKind.u32 0)), .d (.c (Go.Value.int Go.IntKind.u32 0)), .d (.c (Go.Value.int Go.IntKind.u32 0)), .d (.c (Go.Value.int Go.IntKind.u32 0))] := by unfold tZ; rw [ty_42]; rfl
theorem tF_42 : tF ty 42 = some (List.replicate 64 .int) := by unfold tF; kernel_rfl
theorem tK_43 : tK ty 43 = .fn := by unfold tK; rw [ty_43]; rfl
theorem tS_43 : tS ty 43 = 1 := by unfold tS; rw [ty_43]
theorem tB_43 : tB ty 43 = 8 := by unfold tB; rw [ty_43]
theorem tG_43 : tG ty 43 = false := by unfold tG; rw [ty_43]; rfl
theorem tI_43 : tI ty 43 = true := by unfold tI; rw [ty_43]; rfl
theorem tZ_43 : tZ ty 43 = some [.d (.c (Go.Value.nilFunc))] := by unfold tZ; rw [ty_43]; rfl
theorem tK_44 : tK ty 44 = .int .u64 := by unfold tK; rw [ty_44]; rfl
theorem tS_44 : tS ty 44 = 1 := by unfold tS; rw [ty_44]
theorem tB_44 : tB ty 44 = 8 := by unfold tB; rw [ty_44]
theorem tG_44 : tG ty 44 = false := by unfold tG; rw [ty_44]; rfl
theorem tI_44 : tI ty 44 = true := by unfold tI; rw [ty_44]; rfl
theorem tZ_44 : tZ ty 44 = some [.d (.c (Go.Value.int Go.IntKind.u64 0))] := by unfold tZ; rw [ty_44]; rfl
theorem tK_45 : tK ty 45 = .fn := by unfold tK; rw [ty_45]; rfl
theorem tS_45 : tS ty 45 = 1 := by unfold tS; rw [ty_45]
theorem tB_45 : tB ty 45 = 8 := by unfold tB; rw [ty_45]
theorem tG_45 : tG ty 45 = false := by unfold tG; rw [ty_45]; rfl
theorem tI_45 : tI ty 45 = true := by unfold tI; rw [ty_45]; rfl
theorem tZ_45 : tZ ty 45 = some [.d (.c (Go.Value.nilFunc))] := by unfold tZ; rw [ty_45]; rfl
theorem tK_46 : tK ty 46 = .fn := by unfold tK; rw [ty_46]; rfl
theorem tS_46 : tS ty 46 = 1 := by unfold tS; rw [ty_46]
theorem tB_46 : tB ty 46 = 8 := by unfold tB; rw [ty_46]
theorem tG_46 : tG ty 46 = false := by unfold tG; rw [ty_46]; rfl
theorem tI_46 : tI ty 46 = true := by unfold tI; rw [ty_46]; rfl
theorem tZ_46 : tZ ty 46 = some [.d (.c (Go.Value.nilFunc))] := by unfold tZ; rw [ty_46]; rfl
theorem tK_47 : tK ty 47 = .int .u64 := by unfold tK; rw [ty_47]; rfl
theorem tS_47 : tS ty 47 = 1 := by unfold tS; rw [ty_47]
theorem tB_47 : tB ty 47 = 8 := by unfold tB; rw [ty_47]
theorem tG_47 : tG ty 47 = false := by unfold tG; rw [ty_47]; rfl
theorem tI_47 : tI ty 47 = true := by unfold tI; rw [ty_47]; rfl
theorem tZ_47 : tZ ty 47 = some [.d (.c (Go.Value.int Go.IntKind.u64 0))] := by unfold tZ; rw [ty_47]; rfl
theorem tK_48 : tK ty 48 = .fn := by unfold tK; rw [ty_48]; rfl
theorem tS_48 : tS ty 48 = 1 := by unfold tS; rw [ty_48]
theorem tB_48 : tB ty 48 = 8 := by unfold tB; rw [ty_48]
theorem tG_48 : tG ty 48 = false := by unfold tG; rw [ty_48]; rfl
theorem tI_48 : tI ty 48 = true := by unfold tI; rw [ty_48]; rfl
theorem tZ_48 : tZ ty 48 = some [.d (.c (Go.Value.nilFunc))] := by unfold tZ; rw [ty_48]; rfl
theorem tK_49 : tK ty 49 = .sl 37 := by unfold tK; rw [ty_49]; rfl
theorem tS_49 : tS ty 49 = 1 := by unfold tS; rw [ty_49]
theorem tB_49 : tB ty 49 = 24 := by unfold tB; rw [ty_49]
theorem tG_49 : tG ty 49 = false := by unfold tG; rw [ty_49]; rfl
theorem tI_49 : tI ty 49 = true := by unfold tI; rw [ty_49]; rfl
theorem tZ_49 : tZ ty 49 = some [.d (.c (Go.Value.slice none 0 0))] := by unfold tZ; rw [ty_49]; rfl
theorem szOf_49 : szOf ty 49 = some 1 := by unfold szOf; rw [ty_49]; simp only [ty_37, Option.map_some]
theorem tK_50 : tK ty 50 = .fn := by unfold tK; rw [ty_50]; rfl
theorem tS_50 : tS ty 50 = 1 := by unfold tS; rw [ty_50]
theorem tB_50 : tB ty 50 = 8 := by unfold tB; rw [ty_50]
theorem tG_50 : tG ty 50 = false := by unfold tG; rw [ty_50]; rfl
theorem tI_50 : tI ty 50 = true := by unfold tI; rw [ty_50]; rfl
theorem tZ_50 : tZ ty 50 = some [.d (.c (Go.Value.nilFunc))] := by unfold tZ; rw [ty_50]; rfl
theorem tK_53 : tK ty 53 = .arr 0 16 := by unfold tK; rw [ty_53]; rfl
theorem tS_53 : tS ty 53 = 0 := by unfold tS; rw [ty_53]
theorem tB_53 : tB ty 53 = 0 := by unfold tB; rw [ty_53]
theorem tG_53 : tG ty 53 = true := by unfold tG; rw [ty_53]; rfl
theorem tI_53 : tI ty 53 = true := by unfold tI; rw [ty_53]; rfl
theorem tZ_53 : tZ ty 53 = some [] := by unfold tZ; rw [ty_53]; rfl
theorem tK_56 : tK ty 56 = .int .u8 := by unfold tK; rw [ty_56]; rfl
theorem tS_56 : tS ty 56 = 1 := by unfold tS; rw [ty_56]
theorem tB_56 : tB ty 56 = 1 := by unfold tB; rw [ty_56]
theorem tG_56 : tG ty 56 = false := by unfold tG; rw [ty_56]; rfl
theorem tI_56 : tI ty 56 = true := by unfold tI; rw [ty_56]; rfl
theorem tZ_56 : tZ ty 56 = some [.d (.c (Go.Value.int Go.IntKind.u8 0))] := by unfold tZ; rw [ty_56]; rfl
theorem tK_57 : tK ty 57 = .int .u8 := by unfold tK; rw [ty_57]; rfl
theorem tS_57 : tS ty 57 = 1 := by unfold tS; rw [ty_57]
theorem tB_57 : tB ty 57 = 1 := by unfold tB; rw [ty_57]
theorem tG_57 : tG ty 57 = false := by unfold tG; rw [ty_57]; rfl
theorem tI_57 : tI ty 57 = true := by unfold tI; rw [ty_57]; rfl
theorem tZ_57 : tZ ty 57 = some [.d (.c (Go.Value.int Go.IntKind.u8 0))] := by unfold tZ; rw [ty_57]; rfl
theorem tK_58 : tK ty 58 = .fn := by unfold tK; rw [ty_58]; rfl
theorem tS_58 : tS ty 58 = 1 := by unfold tS; rw [ty_58]
theorem tB_58 : tB ty 58 = 8 := by unfold tB; rw [ty_58]
theorem tG_58 : tG ty 58 = false := by unfold tG; rw [ty_58]; rfl
theorem tI_58 : tI ty 58 = true := by unfold tI; rw [ty_58]; rfl
theorem tZ_58 : tZ ty 58 = some [.d (.c (Go.Value.nilFunc))] := by unfold tZ; rw [ty_58]; rfl
theorem tK_59 : tK ty 59 = .ptr := by unfold tK; rw [ty_59]; rfl
theorem tS_59 : tS ty 59 = 1 := by unfold tS; rw [ty_59]
theorem tB_59 : tB ty 59 = 8 := by unfold tB; rw [ty_59]
theorem tG_59 : tG ty 59 = false := by unfold tG; rw [ty_59]; rfl
theorem tI_59 : tI ty 59 = true := by unfold tI; rw [ty_59]; rfl
theorem tZ_59 : tZ ty 59 = some [.d (.c (Go.Value.pointer none))] := by unfold tZ; rw [ty_59]; rfl
theorem tK_60 : tK ty 60 = .int .i32 := by unfold tK; rw [ty_60]; rfl
theorem tS_60 : tS ty 60 = 1 := by unfold tS; rw [ty_60]
theorem tB_60 : tB ty 60 = 4 := by unfold tB; rw [ty_60]
theorem tG_60 : tG ty 60 = false := by unfold tG; rw [ty_60]; rfl
theorem tI_60 : tI ty 60 = true := by unfold tI; rw [ty_60]; rfl
theorem tZ_60 : tZ ty 60 = some [.d (.c (Go.Value.int Go.IntKind.i32 0))] := by unfold tZ; rw [ty_60]; rfl
theorem tK_61 : tK ty 61 = .int .i32 := by unfold tK; rw [ty_61]; rfl
theorem tS_61 : tS ty 61 = 1 := by unfold tS; rw [ty_61]
theorem tB_61 : tB ty 61 = 4 := by unfold tB; rw [ty_61]
theorem tG_61 : tG ty 61 = false := by unfold tG; rw [ty_61]; rfl
theorem tI_61 : tI ty 61 = true := by unfold tI; rw [ty_61]; rfl
theorem tZ_61 : tZ ty 61 = some [.d (.c (Go.Value.int Go.IntKind.i32 0))] := by unfold tZ; rw [ty_61]; rfl
theorem ty_lit : ty.lit = false := rfl
theorem tK_L : ∀ t : TypeId, tK tyL t = tK ty t := fun _ => rfl
theorem tS_L : ∀ t : TypeId, tS tyL t = tS ty t := fun _ => rfl
theorem tB_L : ∀ t : TypeId, tB tyL t = tB ty t := fun _ => rfl
theorem tG_L : ∀ t : TypeId, tG tyL t = tG ty t := fun _ => rfl
theorem tI_L : ∀ t : TypeId, tI tyL t = tI ty t := fun _ => rfl
theorem tZ_L : ∀ t : TypeId, tZ tyL t = tZ ty t := fun _ => rfl
theorem szOf_L : ∀ t : TypeId, szOf tyL t = szOf ty t := fun _ => rfl
theorem tF_L : ∀ t : TypeId, tF tyL t = tF ty t := fun _ => rfl
theorem places_L : ∀ l, placesA tyL l = placesA ty l
  | [] => rfl
  | f :: l => by
    have h := places_L l
    show (match ty.f f.type, placesA tyL l with | some i, some rest => some ((f.offset, i.size) :: rest) | _, _ => none) = _
    rw [h]; rfl
theorem tP_L : ∀ t : TypeId, tP tyL t = tP ty t := by
  intro t
  unfold tP
  show (match ty.f t with | some ⟨.struct fs, _, _, _⟩ => placesA tyL fs.toList | _ => none) = _
  cases ty.f t with
  | none => rfl
  | some i =>
    obtain ⟨u, _, _, _⟩ := i
    cases u <;> try rfl
    exact places_L _
theorem fieldOf_L : ∀ (t : TypeId) (k : Nat), fieldOf tyL t k = fieldOf ty t k := fun _ _ => rfl
theorem tyL_lit : tyL.lit = true := rfl
end Go.Proofs.YteeknmjjpcbphaaDoor
