/- The types of the program, in the frame's words: each row is Lean's own print, and holds by 'rfl'. -/
import Derived.Test.YthdjblfiiogmgaaProg
import Derived.Test.YthdjblfiiogmgaaCZS
import Derived.KernelRfl
set_option linter.unusedVariables false
set_option linter.unusedSimpArgs false
set_option maxRecDepth 100000
namespace Go.Proofs.Ythdjblfiiogmgaa
open Go
noncomputable def tyF (P : Program) (t : TypeId) : Option TI := match P.underlying t, P.info? t with
  | some d, some i => match i.zero with
    | some z => if z.cells.size = i.size ∧ P.stoodInHeld t = false then some ⟨d, i.size, i.bytes, z⟩ else none
    | none => none
  | _, _ => none
noncomputable def tyOf (P : Program) (l : Bool) : Ti := ⟨tyF P, l⟩
theorem tyOf_ok (P : Program) (l : Bool) : TiOK P (tyOf P l) := by
  intro t i h
  have h : tyF P t = some i := h
  unfold tyF at h
  split at h
  · rename_i d f hd hf
    split at h
    · rename_i z hz
      split at h
      · rename_i hs
        injection h with h; subst h
        exact ⟨hd, f, hf, rfl, rfl, hz, hs.1, hs.2⟩
      · cases h
    · cases h
  · cases h
noncomputable def ty : Ti := tyOf Try.prog false
theorem ty_ok : TiOK Try.prog ty := tyOf_ok _ _
noncomputable def tyL : Ti := tyOf Try.prog true
theorem tyL_ok : TiOK Try.prog tyL := tyOf_ok _ _
theorem ty_0 : ty 0 = some ⟨Go.TypeDesc.tuple #[], 1, 0, Go.Value.tuple #[]⟩ := by kernel_rfl
theorem ty_1 : ty 1 = some ⟨Go.TypeDesc.func #[] #[] false, 1, 8, Go.Value.nilFunc⟩ := by kernel_rfl
theorem ty_2 : ty 2 = some ⟨Go.TypeDesc.int Go.IntKind.i64, 1, 8, Go.Value.int Go.IntKind.i64 0⟩ := by kernel_rfl
theorem ty_3 : ty 3 = some ⟨Go.TypeDesc.int Go.IntKind.i64, 1, 8, Go.Value.int Go.IntKind.i64 0⟩ := by kernel_rfl
theorem ty_4 : ty 4 = some ⟨Go.TypeDesc.bool, 1, 1, Go.Value.bool false⟩ := by kernel_rfl
theorem ty_5 : ty 5 = some ⟨Go.TypeDesc.int Go.IntKind.u8, 1, 1, Go.Value.int Go.IntKind.u8 0⟩ := by kernel_rfl
theorem ty_6 : ty 6 = some ⟨Go.TypeDesc.int Go.IntKind.u8, 1, 1, Go.Value.int Go.IntKind.u8 0⟩ := by kernel_rfl
theorem ty_7 : ty 7 = some ⟨Go.TypeDesc.struct #[{ name := "x", type := 2, offset := 0, embedded := false, tag := "", pkgPath := "runtime", byteOffset := 0 }, { name := "y", type := 3, offset := 1, embedded := false, tag := "", pkgPath := "runtime", byteOffset := 8 }, { name := "signed", type := 4, offset := 2, embedded := false, tag := "", pkgPath := "runtime", byteOffset := 16 }, { name := "code", type := 6, offset := 3, embedded := false, tag := "", pkgPath := "runtime", byteOffset := 17 }], 4, 24, Go.Value.agg #[Go.Value.int Go.IntKind.i64 0, Go.Value.int Go.IntKind.i64 0, Go.Value.bool false, Go.Value.int Go.IntKind.u8 0]⟩ := by kernel_rfl
theorem ty_8 : ty 8 = some ⟨Go.TypeDesc.struct #[{ name := "x", type := 2, offset := 0, embedded := false, tag := "", pkgPath := "runtime", byteOffset := 0 }, { name := "y", type := 3, offset := 1, embedded := false, tag := "", pkgPath := "runtime", byteOffset := 8 }, { name := "signed", type := 4, offset := 2, embedded := false, tag := "", pkgPath := "runtime", byteOffset := 16 }, { name := "code", type := 6, offset := 3, embedded := false, tag := "", pkgPath := "runtime", byteOffset := 17 }], 4, 24, Go.Value.agg #[Go.Value.int Go.IntKind.i64 0, Go.Value.int Go.IntKind.i64 0, Go.Value.bool false, Go.Value.int Go.IntKind.u8 0]⟩ := by kernel_rfl
theorem ty_9 : ty 9 = some ⟨Go.TypeDesc.string, 1, 16, Go.Value.string { data := #[] }⟩ := by kernel_rfl
theorem ty_10 : ty 10 = some ⟨Go.TypeDesc.string, 1, 16, Go.Value.string { data := #[] }⟩ := by kernel_rfl
theorem ty_11 : ty 11 = some ⟨Go.TypeDesc.string, 1, 16, Go.Value.string { data := #[] }⟩ := by kernel_rfl
theorem ty_12 : ty 12 = some ⟨Go.TypeDesc.int Go.IntKind.u64, 1, 8, Go.Value.int Go.IntKind.u64 0⟩ := by kernel_rfl
theorem ty_15 : ty 15 = some ⟨Go.TypeDesc.pointer 131, 1, 8, Go.Value.pointer none⟩ := by kernel_rfl
theorem ty_16 : ty 16 = some ⟨Go.TypeDesc.pointer 134, 1, 8, Go.Value.pointer none⟩ := by kernel_rfl
theorem ty_17 : ty 17 = some ⟨Go.TypeDesc.pointer 143, 1, 8, Go.Value.pointer none⟩ := by kernel_rfl
theorem ty_20 : ty 20 = some ⟨Go.TypeDesc.interface #[], 1, 16, Go.Value.nilIface⟩ := by kernel_rfl
theorem ty_21 : ty 21 = some ⟨Go.TypeDesc.int Go.IntKind.i32, 1, 4, Go.Value.int Go.IntKind.i32 0⟩ := by kernel_rfl
theorem ty_22 : ty 22 = some ⟨Go.TypeDesc.slice 32, 1, 24, Go.Value.slice none 0 0⟩ := by kernel_rfl
theorem ty_23 : ty 23 = some ⟨Go.TypeDesc.func #[22, 3] #[3] false, 1, 8, Go.Value.nilFunc⟩ := by kernel_rfl
theorem ty_24 : ty 24 = some ⟨Go.TypeDesc.func #[] #[4] false, 1, 8, Go.Value.nilFunc⟩ := by kernel_rfl
theorem ty_25 : ty 25 = some ⟨Go.TypeDesc.pointer 92, 1, 8, Go.Value.pointer none⟩ := by kernel_rfl
theorem ty_26 : ty 26 = some ⟨Go.TypeDesc.int Go.IntKind.i64, 1, 8, Go.Value.int Go.IntKind.i64 0⟩ := by kernel_rfl
theorem ty_27 : ty 27 = some ⟨Go.TypeDesc.tuple #[25, 26], 1, 0, Go.Value.tuple #[Go.Value.pointer none, Go.Value.int Go.IntKind.i64 0]⟩ := by kernel_rfl
theorem ty_28 : ty 28 = some ⟨Go.TypeDesc.func #[3] #[25, 26] false, 1, 8, Go.Value.nilFunc⟩ := by kernel_rfl
theorem ty_29 : ty 29 = some ⟨Go.TypeDesc.func #[32] #[26] false, 1, 8, Go.Value.nilFunc⟩ := by kernel_rfl
theorem ty_30 : ty 30 = some ⟨Go.TypeDesc.slice 85, 1, 24, Go.Value.slice none 0 0⟩ := by kernel_rfl
theorem ty_31 : ty 31 = some ⟨Go.TypeDesc.struct #[{ name := "At", type := 9, offset := 0, embedded := false, tag := "", pkgPath := "", byteOffset := 0 }, { name := "By", type := 9, offset := 1, embedded := false, tag := "", pkgPath := "", byteOffset := 16 }, { name := "Pred", type := 9, offset := 2, embedded := false, tag := "", pkgPath := "", byteOffset := 32 }, { name := "Args", type := 30, offset := 3, embedded := false, tag := "", pkgPath := "", byteOffset := 48 }], 4, 72, Go.Value.agg #[Go.Value.string { data := #[] }, Go.Value.string { data := #[] }, Go.Value.string { data := #[] }, Go.Value.slice none 0 0]⟩ := by kernel_rfl
theorem ty_32 : ty 32 = some ⟨Go.TypeDesc.struct #[{ name := "At", type := 9, offset := 0, embedded := false, tag := "", pkgPath := "", byteOffset := 0 }, { name := "By", type := 9, offset := 1, embedded := false, tag := "", pkgPath := "", byteOffset := 16 }, { name := "Pred", type := 9, offset := 2, embedded := false, tag := "", pkgPath := "", byteOffset := 32 }, { name := "Args", type := 30, offset := 3, embedded := false, tag := "", pkgPath := "", byteOffset := 48 }], 4, 72, Go.Value.agg #[Go.Value.string { data := #[] }, Go.Value.string { data := #[] }, Go.Value.string { data := #[] }, Go.Value.slice none 0 0]⟩ := by kernel_rfl
theorem ty_33 : ty 33 = some ⟨Go.TypeDesc.func #[35, 3] #[22] false, 1, 8, Go.Value.nilFunc⟩ := by kernel_rfl
theorem ty_34 : ty 34 = some ⟨Go.TypeDesc.func #[89] #[] false, 1, 8, Go.Value.nilFunc⟩ := by kernel_rfl
theorem ty_35 : ty 35 = some ⟨Go.TypeDesc.func #[89] #[] false, 1, 8, Go.Value.nilFunc⟩ := by kernel_rfl
theorem ty_36 : ty 36 = some ⟨Go.TypeDesc.func #[] #[35] false, 1, 8, Go.Value.nilFunc⟩ := by kernel_rfl
theorem ty_37 : ty 37 = some ⟨Go.TypeDesc.func #[22, 22] #[4] false, 1, 8, Go.Value.nilFunc⟩ := by kernel_rfl
theorem ty_38 : ty 38 = some ⟨Go.TypeDesc.func #[] #[3] false, 1, 8, Go.Value.nilFunc⟩ := by kernel_rfl
theorem ty_39 : ty 39 = some ⟨Go.TypeDesc.func #[22, 3] #[4] false, 1, 8, Go.Value.nilFunc⟩ := by kernel_rfl
theorem ty_40 : ty 40 = some ⟨Go.TypeDesc.func #[22, 3] #[22] false, 1, 8, Go.Value.nilFunc⟩ := by kernel_rfl
theorem ty_41 : ty 41 = some ⟨Go.TypeDesc.func #[22] #[22] false, 1, 8, Go.Value.nilFunc⟩ := by kernel_rfl
theorem ty_42 : ty 42 = some ⟨Go.TypeDesc.func #[22] #[] false, 1, 8, Go.Value.nilFunc⟩ := by kernel_rfl
theorem ty_43 : ty 43 = some ⟨Go.TypeDesc.func #[22, 3, 32] #[4] false, 1, 8, Go.Value.nilFunc⟩ := by kernel_rfl
theorem ty_44 : ty 44 = some ⟨Go.TypeDesc.slice 51, 1, 24, Go.Value.slice none 0 0⟩ := by kernel_rfl
theorem ty_45 : ty 45 = some ⟨Go.TypeDesc.func #[44, 3] #[3] false, 1, 8, Go.Value.nilFunc⟩ := by kernel_rfl
theorem ty_46 : ty 46 = some ⟨Go.TypeDesc.pointer 72, 1, 8, Go.Value.pointer none⟩ := by kernel_rfl
theorem ty_47 : ty 47 = some ⟨Go.TypeDesc.func #[] #[46] false, 1, 8, Go.Value.nilFunc⟩ := by kernel_rfl
theorem ty_48 : ty 48 = some ⟨Go.TypeDesc.array 32 5, 32, 32, Go.Value.agg #[Go.Value.int Go.IntKind.u8 0, Go.Value.int Go.IntKind.u8 0, Go.Value.int Go.IntKind.u8 0, Go.Value.int Go.IntKind.u8 0, Go.Value.int Go.IntKind.u8 0, Go.Value.int Go.IntKind.u8 0, Go.Value.int Go.IntKind.u8 0, Go.Value.int Go.IntKind.u8 0, Go.Value.int Go.IntKind.u8 0, Go.Value.int Go.IntKind.u8 0, Go.Value.int Go.IntKind.u8 0, Go.Value.int Go.IntKind.u8 0, Go.Value.int Go.IntKind.u8 0, Go.Value.int Go.IntKind.u8 0, Go.Value.int Go.IntKind.u8 0, Go.Value.int Go.IntKind.u8 0, Go.Value.int Go.IntKind.u8 0, Go.Value.int Go.IntKind.u8 0, Go.Value.int Go.IntKind.u8 0, Go.Value.int Go.IntKind.u8 0, Go.Value.int Go.IntKind.u8 0, Go.Value.int Go.IntKind.u8 0, Go.Value.int Go.IntKind.u8 0, Go.Value.int Go.IntKind.u8 0, Go.Value.int Go.IntKind.u8 0, Go.Value.int Go.IntKind.u8 0, Go.Value.int Go.IntKind.u8 0, Go.Value.int Go.IntKind.u8 0, Go.Value.int Go.IntKind.u8 0, Go.Value.int Go.IntKind.u8 0, Go.Value.int Go.IntKind.u8 0, Go.Value.int Go.IntKind.u8 0]⟩ := by kernel_rfl
theorem ty_49 : ty 49 = some ⟨Go.TypeDesc.array 32 5, 32, 32, Go.Value.agg #[Go.Value.int Go.IntKind.u8 0, Go.Value.int Go.IntKind.u8 0, Go.Value.int Go.IntKind.u8 0, Go.Value.int Go.IntKind.u8 0, Go.Value.int Go.IntKind.u8 0, Go.Value.int Go.IntKind.u8 0, Go.Value.int Go.IntKind.u8 0, Go.Value.int Go.IntKind.u8 0, Go.Value.int Go.IntKind.u8 0, Go.Value.int Go.IntKind.u8 0, Go.Value.int Go.IntKind.u8 0, Go.Value.int Go.IntKind.u8 0, Go.Value.int Go.IntKind.u8 0, Go.Value.int Go.IntKind.u8 0, Go.Value.int Go.IntKind.u8 0, Go.Value.int Go.IntKind.u8 0, Go.Value.int Go.IntKind.u8 0, Go.Value.int Go.IntKind.u8 0, Go.Value.int Go.IntKind.u8 0, Go.Value.int Go.IntKind.u8 0, Go.Value.int Go.IntKind.u8 0, Go.Value.int Go.IntKind.u8 0, Go.Value.int Go.IntKind.u8 0, Go.Value.int Go.IntKind.u8 0, Go.Value.int Go.IntKind.u8 0, Go.Value.int Go.IntKind.u8 0, Go.Value.int Go.IntKind.u8 0, Go.Value.int Go.IntKind.u8 0, Go.Value.int Go.IntKind.u8 0, Go.Value.int Go.IntKind.u8 0, Go.Value.int Go.IntKind.u8 0, Go.Value.int Go.IntKind.u8 0]⟩ := by kernel_rfl
theorem ty_50 : ty 50 = some ⟨Go.TypeDesc.struct #[{ name := "Fact", type := 32, offset := 0, embedded := false, tag := "", pkgPath := "", byteOffset := 0 }, { name := "Why", type := 3, offset := 4, embedded := false, tag := "", pkgPath := "", byteOffset := 72 }, { name := "Rule", type := 3, offset := 5, embedded := false, tag := "", pkgPath := "", byteOffset := 80 }, { name := "Body", type := 22, offset := 6, embedded := false, tag := "", pkgPath := "", byteOffset := 88 }, { name := "Tag", type := 49, offset := 7, embedded := false, tag := "", pkgPath := "", byteOffset := 112 }], 39, 144, Go.Value.agg #[Go.Value.string { data := #[] }, Go.Value.string { data := #[] }, Go.Value.string { data := #[] }, Go.Value.slice none 0 0, Go.Value.int Go.IntKind.i64 0, Go.Value.int Go.IntKind.i64 0, Go.Value.slice none 0 0, Go.Value.int Go.IntKind.u8 0, Go.Value.int Go.IntKind.u8 0, Go.Value.int Go.IntKind.u8 0, Go.Value.int Go.IntKind.u8 0, Go.Value.int Go.IntKind.u8 0, Go.Value.int Go.IntKind.u8 0, Go.Value.int Go.IntKind.u8 0, Go.Value.int Go.IntKind.u8 0, Go.Value.int Go.IntKind.u8 0, Go.Value.int Go.IntKind.u8 0, Go.Value.int Go.IntKind.u8 0, Go.Value.int Go.IntKind.u8 0, Go.Value.int Go.IntKind.u8 0, Go.Value.int Go.IntKind.u8 0, Go.Value.int Go.IntKind.u8 0, Go.Value.int Go.IntKind.u8 0, Go.Value.int Go.IntKind.u8 0, Go.Value.int Go.IntKind.u8 0, Go.Value.int Go.IntKind.u8 0, Go.Value.int Go.IntKind.u8 0, Go.Value.int Go.IntKind.u8 0, Go.Value.int Go.IntKind.u8 0, Go.Value.int Go.IntKind.u8 0, Go.Value.int Go.IntKind.u8 0, Go.Value.int Go.IntKind.u8 0, Go.Value.int Go.IntKind.u8 0, Go.Value.int Go.IntKind.u8 0, Go.Value.int Go.IntKind.u8 0, Go.Value.int Go.IntKind.u8 0, Go.Value.int Go.IntKind.u8 0, Go.Value.int Go.IntKind.u8 0, Go.Value.int Go.IntKind.u8 0]⟩ := by kernel_rfl
theorem ty_51 : ty 51 = some ⟨Go.TypeDesc.struct #[{ name := "Fact", type := 32, offset := 0, embedded := false, tag := "", pkgPath := "", byteOffset := 0 }, { name := "Why", type := 3, offset := 4, embedded := false, tag := "", pkgPath := "", byteOffset := 72 }, { name := "Rule", type := 3, offset := 5, embedded := false, tag := "", pkgPath := "", byteOffset := 80 }, { name := "Body", type := 22, offset := 6, embedded := false, tag := "", pkgPath := "", byteOffset := 88 }, { name := "Tag", type := 49, offset := 7, embedded := false, tag := "", pkgPath := "", byteOffset := 112 }], 39, 144, Go.Value.agg #[Go.Value.string { data := #[] }, Go.Value.string { data := #[] }, Go.Value.string { data := #[] }, Go.Value.slice none 0 0, Go.Value.int Go.IntKind.i64 0, Go.Value.int Go.IntKind.i64 0, Go.Value.slice none 0 0, Go.Value.int Go.IntKind.u8 0, Go.Value.int Go.IntKind.u8 0, Go.Value.int Go.IntKind.u8 0, Go.Value.int Go.IntKind.u8 0, Go.Value.int Go.IntKind.u8 0, Go.Value.int Go.IntKind.u8 0, Go.Value.int Go.IntKind.u8 0, Go.Value.int Go.IntKind.u8 0, Go.Value.int Go.IntKind.u8 0, Go.Value.int Go.IntKind.u8 0, Go.Value.int Go.IntKind.u8 0, Go.Value.int Go.IntKind.u8 0, Go.Value.int Go.IntKind.u8 0, Go.Value.int Go.IntKind.u8 0, Go.Value.int Go.IntKind.u8 0, Go.Value.int Go.IntKind.u8 0, Go.Value.int Go.IntKind.u8 0, Go.Value.int Go.IntKind.u8 0, Go.Value.int Go.IntKind.u8 0, Go.Value.int Go.IntKind.u8 0, Go.Value.int Go.IntKind.u8 0, Go.Value.int Go.IntKind.u8 0, Go.Value.int Go.IntKind.u8 0, Go.Value.int Go.IntKind.u8 0, Go.Value.int Go.IntKind.u8 0, Go.Value.int Go.IntKind.u8 0, Go.Value.int Go.IntKind.u8 0, Go.Value.int Go.IntKind.u8 0, Go.Value.int Go.IntKind.u8 0, Go.Value.int Go.IntKind.u8 0, Go.Value.int Go.IntKind.u8 0, Go.Value.int Go.IntKind.u8 0]⟩ := by kernel_rfl
theorem ty_52 : ty 52 = some ⟨Go.TypeDesc.func #[46, 51] #[26] false, 1, 8, Go.Value.nilFunc⟩ := by kernel_rfl
theorem ty_53 : ty 53 = some ⟨Go.TypeDesc.func #[46, 3] #[44] false, 1, 8, Go.Value.nilFunc⟩ := by kernel_rfl
theorem ty_54 : ty 54 = some ⟨Go.TypeDesc.func #[44, 44] #[4] false, 1, 8, Go.Value.nilFunc⟩ := by kernel_rfl
theorem ty_55 : ty 55 = some ⟨Go.TypeDesc.func #[9, 9, 9] #[35] false, 1, 8, Go.Value.nilFunc⟩ := by kernel_rfl
theorem ty_56 : ty 56 = some ⟨Go.TypeDesc.func #[22, 32] #[4] false, 1, 8, Go.Value.nilFunc⟩ := by kernel_rfl
theorem ty_57 : ty 57 = some ⟨Go.TypeDesc.func #[32] #[3] false, 1, 8, Go.Value.nilFunc⟩ := by kernel_rfl
theorem ty_58 : ty 58 = some ⟨Go.TypeDesc.func #[44] #[4] false, 1, 8, Go.Value.nilFunc⟩ := by kernel_rfl
theorem ty_59 : ty 59 = some ⟨Go.TypeDesc.pointer 61, 1, 8, Go.Value.pointer none⟩ := by kernel_rfl
theorem ty_60 : ty 60 = some ⟨Go.TypeDesc.struct #[{ name := "L", type := 44, offset := 0, embedded := false, tag := "", pkgPath := "", byteOffset := 0 }], 1, 24, Go.Value.agg #[Go.Value.slice none 0 0]⟩ := by kernel_rfl
theorem ty_61 : ty 61 = some ⟨Go.TypeDesc.struct #[{ name := "L", type := 44, offset := 0, embedded := false, tag := "", pkgPath := "", byteOffset := 0 }], 1, 24, Go.Value.agg #[Go.Value.slice none 0 0]⟩ := by kernel_rfl
theorem ty_62 : ty 62 = some ⟨Go.TypeDesc.func #[32, 49] #[26] false, 1, 8, Go.Value.nilFunc⟩ := by kernel_rfl
theorem ty_63 : ty 63 = some ⟨Go.TypeDesc.func #[3] #[32] false, 1, 8, Go.Value.nilFunc⟩ := by kernel_rfl
theorem ty_64 : ty 64 = some ⟨Go.TypeDesc.func #[51] #[4] false, 1, 8, Go.Value.nilFunc⟩ := by kernel_rfl
theorem ty_65 : ty 65 = some ⟨Go.TypeDesc.func #[51] #[26] false, 1, 8, Go.Value.nilFunc⟩ := by kernel_rfl
theorem ty_66 : ty 66 = some ⟨Go.TypeDesc.tuple #[51, 4], 1, 0, Go.Value.tuple #[Go.Value.agg #[Go.Value.string { data := #[] }, Go.Value.string { data := #[] }, Go.Value.string { data := #[] }, Go.Value.slice none 0 0, Go.Value.int Go.IntKind.i64 0, Go.Value.int Go.IntKind.i64 0, Go.Value.slice none 0 0, Go.Value.int Go.IntKind.u8 0, Go.Value.int Go.IntKind.u8 0, Go.Value.int Go.IntKind.u8 0, Go.Value.int Go.IntKind.u8 0, Go.Value.int Go.IntKind.u8 0, Go.Value.int Go.IntKind.u8 0, Go.Value.int Go.IntKind.u8 0, Go.Value.int Go.IntKind.u8 0, Go.Value.int Go.IntKind.u8 0, Go.Value.int Go.IntKind.u8 0, Go.Value.int Go.IntKind.u8 0, Go.Value.int Go.IntKind.u8 0, Go.Value.int Go.IntKind.u8 0, Go.Value.int Go.IntKind.u8 0, Go.Value.int Go.IntKind.u8 0, Go.Value.int Go.IntKind.u8 0, Go.Value.int Go.IntKind.u8 0, Go.Value.int Go.IntKind.u8 0, Go.Value.int Go.IntKind.u8 0, Go.Value.int Go.IntKind.u8 0, Go.Value.int Go.IntKind.u8 0, Go.Value.int Go.IntKind.u8 0, Go.Value.int Go.IntKind.u8 0, Go.Value.int Go.IntKind.u8 0, Go.Value.int Go.IntKind.u8 0, Go.Value.int Go.IntKind.u8 0, Go.Value.int Go.IntKind.u8 0, Go.Value.int Go.IntKind.u8 0, Go.Value.int Go.IntKind.u8 0, Go.Value.int Go.IntKind.u8 0, Go.Value.int Go.IntKind.u8 0, Go.Value.int Go.IntKind.u8 0], Go.Value.bool false]⟩ := by kernel_rfl
theorem ty_67 : ty 67 = some ⟨Go.TypeDesc.func #[32] #[51, 4] false, 1, 8, Go.Value.nilFunc⟩ := by kernel_rfl
theorem ty_68 : ty 68 = some ⟨Go.TypeDesc.func #[51, 51] #[4] false, 1, 8, Go.Value.nilFunc⟩ := by kernel_rfl
theorem ty_69 : ty 69 = some ⟨Go.TypeDesc.func #[44, 3] #[4] false, 1, 8, Go.Value.nilFunc⟩ := by kernel_rfl
theorem ty_70 : ty 70 = some ⟨Go.TypeDesc.slice 3, 1, 24, Go.Value.slice none 0 0⟩ := by kernel_rfl
theorem ty_71 : ty 71 = some ⟨Go.TypeDesc.struct #[{ name := "l", type := 44, offset := 0, embedded := false, tag := "", pkgPath := "avowal/trail", byteOffset := 0 }, { name := "order", type := 70, offset := 1, embedded := false, tag := "", pkgPath := "avowal/trail", byteOffset := 24 }, { name := "made", type := 4, offset := 2, embedded := false, tag := "", pkgPath := "avowal/trail", byteOffset := 48 }], 3, 56, Go.Value.agg #[Go.Value.slice none 0 0, Go.Value.slice none 0 0, Go.Value.bool false]⟩ := by kernel_rfl
theorem ty_72 : ty 72 = some ⟨Go.TypeDesc.struct #[{ name := "l", type := 44, offset := 0, embedded := false, tag := "", pkgPath := "avowal/trail", byteOffset := 0 }, { name := "order", type := 70, offset := 1, embedded := false, tag := "", pkgPath := "avowal/trail", byteOffset := 24 }, { name := "made", type := 4, offset := 2, embedded := false, tag := "", pkgPath := "avowal/trail", byteOffset := 48 }], 3, 56, Go.Value.agg #[Go.Value.slice none 0 0, Go.Value.slice none 0 0, Go.Value.bool false]⟩ := by kernel_rfl
theorem ty_73 : ty 73 = some ⟨Go.TypeDesc.array 2 46, 2, 16, Go.Value.agg #[Go.Value.pointer none, Go.Value.pointer none]⟩ := by kernel_rfl
theorem ty_74 : ty 74 = some ⟨Go.TypeDesc.slice 80, 1, 24, Go.Value.slice none 0 0⟩ := by kernel_rfl
theorem ty_75 : ty 75 = some ⟨Go.TypeDesc.pointer 88, 1, 8, Go.Value.pointer none⟩ := by kernel_rfl
theorem ty_76 : ty 76 = some ⟨Go.TypeDesc.tuple #[75, 26], 1, 0, Go.Value.tuple #[Go.Value.pointer none, Go.Value.int Go.IntKind.i64 0]⟩ := by kernel_rfl
theorem ty_77 : ty 77 = some ⟨Go.TypeDesc.func #[3] #[75, 26] false, 1, 8, Go.Value.nilFunc⟩ := by kernel_rfl
theorem ty_78 : ty 78 = some ⟨Go.TypeDesc.func #[74] #[4] false, 1, 8, Go.Value.nilFunc⟩ := by kernel_rfl
theorem ty_79 : ty 79 = some ⟨Go.TypeDesc.struct #[{ name := "Kind", type := 3, offset := 0, embedded := false, tag := "", pkgPath := "", byteOffset := 0 }, { name := "F", type := 32, offset := 1, embedded := false, tag := "", pkgPath := "", byteOffset := 8 }, { name := "N", type := 3, offset := 5, embedded := false, tag := "", pkgPath := "", byteOffset := 80 }], 6, 88, Go.Value.agg #[Go.Value.int Go.IntKind.i64 0, Go.Value.string { data := #[] }, Go.Value.string { data := #[] }, Go.Value.string { data := #[] }, Go.Value.slice none 0 0, Go.Value.int Go.IntKind.i64 0]⟩ := by kernel_rfl
theorem ty_80 : ty 80 = some ⟨Go.TypeDesc.struct #[{ name := "Kind", type := 3, offset := 0, embedded := false, tag := "", pkgPath := "", byteOffset := 0 }, { name := "F", type := 32, offset := 1, embedded := false, tag := "", pkgPath := "", byteOffset := 8 }, { name := "N", type := 3, offset := 5, embedded := false, tag := "", pkgPath := "", byteOffset := 80 }], 6, 88, Go.Value.agg #[Go.Value.int Go.IntKind.i64 0, Go.Value.string { data := #[] }, Go.Value.string { data := #[] }, Go.Value.string { data := #[] }, Go.Value.slice none 0 0, Go.Value.int Go.IntKind.i64 0]⟩ := by kernel_rfl
theorem ty_81 : ty 81 = some ⟨Go.TypeDesc.func #[] #[25] false, 1, 8, Go.Value.nilFunc⟩ := by kernel_rfl
theorem ty_82 : ty 82 = some ⟨Go.TypeDesc.func #[9, 9, 9] #[22] false, 1, 8, Go.Value.nilFunc⟩ := by kernel_rfl
theorem ty_83 : ty 83 = some ⟨Go.TypeDesc.func #[9, 3, 85] #[35] false, 1, 8, Go.Value.nilFunc⟩ := by kernel_rfl
theorem ty_84 : ty 84 = some ⟨Go.TypeDesc.struct #[{ name := "Num", type := 4, offset := 0, embedded := false, tag := "", pkgPath := "", byteOffset := 0 }, { name := "N", type := 3, offset := 1, embedded := false, tag := "", pkgPath := "", byteOffset := 8 }, { name := "S", type := 9, offset := 2, embedded := false, tag := "", pkgPath := "", byteOffset := 16 }], 3, 32, Go.Value.agg #[Go.Value.bool false, Go.Value.int Go.IntKind.i64 0, Go.Value.string { data := #[] }]⟩ := by kernel_rfl
theorem ty_85 : ty 85 = some ⟨Go.TypeDesc.struct #[{ name := "Num", type := 4, offset := 0, embedded := false, tag := "", pkgPath := "", byteOffset := 0 }, { name := "N", type := 3, offset := 1, embedded := false, tag := "", pkgPath := "", byteOffset := 8 }, { name := "S", type := 9, offset := 2, embedded := false, tag := "", pkgPath := "", byteOffset := 16 }], 3, 32, Go.Value.agg #[Go.Value.bool false, Go.Value.int Go.IntKind.i64 0, Go.Value.string { data := #[] }]⟩ := by kernel_rfl
theorem ty_86 : ty 86 = some ⟨Go.TypeDesc.func #[9, 3, 85] #[22] false, 1, 8, Go.Value.nilFunc⟩ := by kernel_rfl
theorem ty_87 : ty 87 = some ⟨Go.TypeDesc.struct #[{ name := "L", type := 22, offset := 0, embedded := false, tag := "", pkgPath := "", byteOffset := 0 }, { name := "Limit", type := 3, offset := 1, embedded := false, tag := "", pkgPath := "", byteOffset := 24 }], 2, 32, Go.Value.agg #[Go.Value.slice none 0 0, Go.Value.int Go.IntKind.i64 0]⟩ := by kernel_rfl
theorem ty_88 : ty 88 = some ⟨Go.TypeDesc.struct #[{ name := "L", type := 22, offset := 0, embedded := false, tag := "", pkgPath := "", byteOffset := 0 }, { name := "Limit", type := 3, offset := 1, embedded := false, tag := "", pkgPath := "", byteOffset := 24 }], 2, 32, Go.Value.agg #[Go.Value.slice none 0 0, Go.Value.int Go.IntKind.i64 0]⟩ := by kernel_rfl
theorem ty_89 : ty 89 = some ⟨Go.TypeDesc.func #[32] #[4] false, 1, 8, Go.Value.nilFunc⟩ := by kernel_rfl
theorem ty_90 : ty 90 = some ⟨Go.TypeDesc.func #[3, 74] #[4] false, 1, 8, Go.Value.nilFunc⟩ := by kernel_rfl
theorem ty_91 : ty 91 = some ⟨Go.TypeDesc.struct #[{ name := "l", type := 22, offset := 0, embedded := false, tag := "", pkgPath := "avowal/table", byteOffset := 0 }, { name := "limit", type := 3, offset := 1, embedded := false, tag := "", pkgPath := "avowal/table", byteOffset := 24 }], 2, 32, Go.Value.agg #[Go.Value.slice none 0 0, Go.Value.int Go.IntKind.i64 0]⟩ := by kernel_rfl
theorem ty_92 : ty 92 = some ⟨Go.TypeDesc.struct #[{ name := "l", type := 22, offset := 0, embedded := false, tag := "", pkgPath := "avowal/table", byteOffset := 0 }, { name := "limit", type := 3, offset := 1, embedded := false, tag := "", pkgPath := "avowal/table", byteOffset := 24 }], 2, 32, Go.Value.agg #[Go.Value.slice none 0 0, Go.Value.int Go.IntKind.i64 0]⟩ := by kernel_rfl
theorem ty_93 : ty 93 = some ⟨Go.TypeDesc.array 2 25, 2, 16, Go.Value.agg #[Go.Value.pointer none, Go.Value.pointer none]⟩ := by kernel_rfl
theorem ty_94 : ty 94 = some ⟨Go.TypeDesc.tuple #[3, 4], 1, 0, Go.Value.tuple #[Go.Value.int Go.IntKind.i64 0, Go.Value.bool false]⟩ := by kernel_rfl
theorem ty_95 : ty 95 = some ⟨Go.TypeDesc.func #[32] #[3, 4] false, 1, 8, Go.Value.nilFunc⟩ := by kernel_rfl
theorem ty_96 : ty 96 = some ⟨Go.TypeDesc.func #[30] #[30] false, 1, 8, Go.Value.nilFunc⟩ := by kernel_rfl
theorem ty_97 : ty 97 = some ⟨Go.TypeDesc.func #[22, 3, 22] #[22] true, 1, 8, Go.Value.nilFunc⟩ := by kernel_rfl
theorem ty_98 : ty 98 = some ⟨Go.TypeDesc.func #[89] #[35] false, 1, 8, Go.Value.nilFunc⟩ := by kernel_rfl
theorem ty_99 : ty 99 = some ⟨Go.TypeDesc.func #[32, 32] #[3] false, 1, 8, Go.Value.nilFunc⟩ := by kernel_rfl
theorem ty_100 : ty 100 = some ⟨Go.TypeDesc.func #[22, 3, 3] #[22] false, 1, 8, Go.Value.nilFunc⟩ := by kernel_rfl
theorem ty_101 : ty 101 = some ⟨Go.TypeDesc.struct #[{ name := "Rule", type := 3, offset := 0, embedded := false, tag := "", pkgPath := "", byteOffset := 0 }, { name := "Head", type := 32, offset := 1, embedded := false, tag := "", pkgPath := "", byteOffset := 8 }, { name := "Body", type := 22, offset := 5, embedded := false, tag := "", pkgPath := "", byteOffset := 80 }], 6, 104, Go.Value.agg #[Go.Value.int Go.IntKind.i64 0, Go.Value.string { data := #[] }, Go.Value.string { data := #[] }, Go.Value.string { data := #[] }, Go.Value.slice none 0 0, Go.Value.slice none 0 0]⟩ := by kernel_rfl
theorem ty_102 : ty 102 = some ⟨Go.TypeDesc.struct #[{ name := "Rule", type := 3, offset := 0, embedded := false, tag := "", pkgPath := "", byteOffset := 0 }, { name := "Head", type := 32, offset := 1, embedded := false, tag := "", pkgPath := "", byteOffset := 8 }, { name := "Body", type := 22, offset := 5, embedded := false, tag := "", pkgPath := "", byteOffset := 80 }], 6, 104, Go.Value.agg #[Go.Value.int Go.IntKind.i64 0, Go.Value.string { data := #[] }, Go.Value.string { data := #[] }, Go.Value.string { data := #[] }, Go.Value.slice none 0 0, Go.Value.slice none 0 0]⟩ := by kernel_rfl
theorem ty_103 : ty 103 = some ⟨Go.TypeDesc.func #[102, 49] #[26] false, 1, 8, Go.Value.nilFunc⟩ := by kernel_rfl
theorem ty_104 : ty 104 = some ⟨Go.TypeDesc.func #[64] #[] false, 1, 8, Go.Value.nilFunc⟩ := by kernel_rfl
theorem ty_105 : ty 105 = some ⟨Go.TypeDesc.func #[64] #[] false, 1, 8, Go.Value.nilFunc⟩ := by kernel_rfl
theorem ty_106 : ty 106 = some ⟨Go.TypeDesc.func #[] #[105] false, 1, 8, Go.Value.nilFunc⟩ := by kernel_rfl
theorem ty_107 : ty 107 = some ⟨Go.TypeDesc.func #[9, 9] #[4] false, 1, 8, Go.Value.nilFunc⟩ := by kernel_rfl
theorem ty_108 : ty 108 = some ⟨Go.TypeDesc.func #[70] #[70] false, 1, 8, Go.Value.nilFunc⟩ := by kernel_rfl
theorem ty_109 : ty 109 = some ⟨Go.TypeDesc.func #[51] #[51] false, 1, 8, Go.Value.nilFunc⟩ := by kernel_rfl
theorem ty_110 : ty 110 = some ⟨Go.TypeDesc.func #[22, 32] #[22] false, 1, 8, Go.Value.nilFunc⟩ := by kernel_rfl
theorem ty_111 : ty 111 = some ⟨Go.TypeDesc.func #[22, 22] #[22] false, 1, 8, Go.Value.nilFunc⟩ := by kernel_rfl
theorem ty_112 : ty 112 = some ⟨Go.TypeDesc.func #[85, 85] #[3] false, 1, 8, Go.Value.nilFunc⟩ := by kernel_rfl
theorem ty_113 : ty 113 = some ⟨Go.TypeDesc.func #[9] #[4] false, 1, 8, Go.Value.nilFunc⟩ := by kernel_rfl
theorem ty_114 : ty 114 = some ⟨Go.TypeDesc.func #[85] #[4] false, 1, 8, Go.Value.nilFunc⟩ := by kernel_rfl
theorem ty_115 : ty 115 = some ⟨Go.TypeDesc.func #[22, 32, 99] #[3, 4] false, 1, 8, Go.Value.nilFunc⟩ := by kernel_rfl
theorem ty_116 : ty 116 = some ⟨Go.TypeDesc.func #[22, 3] #[] false, 1, 8, Go.Value.nilFunc⟩ := by kernel_rfl
theorem ty_117 : ty 117 = some ⟨Go.TypeDesc.func #[9, 9] #[3] false, 1, 8, Go.Value.nilFunc⟩ := by kernel_rfl
theorem ty_118 : ty 118 = some ⟨Go.TypeDesc.func #[70, 32, 119] #[3, 4] false, 1, 8, Go.Value.nilFunc⟩ := by kernel_rfl
theorem ty_119 : ty 119 = some ⟨Go.TypeDesc.func #[3, 32] #[3] false, 1, 8, Go.Value.nilFunc⟩ := by kernel_rfl
theorem ty_120 : ty 120 = some ⟨Go.TypeDesc.func #[70, 3, 70] #[70] true, 1, 8, Go.Value.nilFunc⟩ := by kernel_rfl
theorem ty_121 : ty 121 = some ⟨Go.TypeDesc.func #[70] #[3] true, 1, 8, Go.Value.nilFunc⟩ := by kernel_rfl
theorem ty_122 : ty 122 = some ⟨Go.TypeDesc.func #[3, 3] #[3] false, 1, 8, Go.Value.nilFunc⟩ := by kernel_rfl
theorem ty_123 : ty 123 = some ⟨Go.TypeDesc.int Go.IntKind.u64, 1, 8, Go.Value.int Go.IntKind.u64 0⟩ := by kernel_rfl
theorem ty_124 : ty 124 = some ⟨Go.TypeDesc.func #[30, 30, 112] #[3] false, 1, 8, Go.Value.nilFunc⟩ := by kernel_rfl
theorem ty_125 : ty 125 = some ⟨Go.TypeDesc.func #[70, 70] #[4] false, 1, 8, Go.Value.nilFunc⟩ := by kernel_rfl
theorem ty_126 : ty 126 = some ⟨Go.TypeDesc.func #[70, 3] #[] false, 1, 8, Go.Value.nilFunc⟩ := by kernel_rfl
theorem ty_127 : ty 127 = some ⟨Go.TypeDesc.func #[3] #[4] false, 1, 8, Go.Value.nilFunc⟩ := by kernel_rfl
theorem ty_128 : ty 128 = some ⟨Go.TypeDesc.func #[70] #[] false, 1, 8, Go.Value.nilFunc⟩ := by kernel_rfl
theorem ty_129 : ty 129 = some ⟨Go.TypeDesc.func #[] #[9] false, 1, 8, Go.Value.nilFunc⟩ := by kernel_rfl
theorem ty_132 : ty 132 = some ⟨Go.TypeDesc.array 0 16, 0, 0, Go.Value.agg #[]⟩ := by kernel_rfl
theorem ty_135 : ty 135 = some ⟨Go.TypeDesc.int Go.IntKind.u32, 1, 4, Go.Value.int Go.IntKind.u32 0⟩ := by kernel_rfl
theorem ty_136 : ty 136 = some ⟨Go.TypeDesc.int Go.IntKind.u8, 1, 1, Go.Value.int Go.IntKind.u8 0⟩ := by kernel_rfl
theorem ty_137 : ty 137 = some ⟨Go.TypeDesc.int Go.IntKind.u8, 1, 1, Go.Value.int Go.IntKind.u8 0⟩ := by kernel_rfl
theorem ty_138 : ty 138 = some ⟨Go.TypeDesc.func #[144, 144] #[4] false, 1, 8, Go.Value.nilFunc⟩ := by kernel_rfl
theorem ty_139 : ty 139 = some ⟨Go.TypeDesc.pointer 5, 1, 8, Go.Value.pointer none⟩ := by kernel_rfl
theorem ty_140 : ty 140 = some ⟨Go.TypeDesc.int Go.IntKind.i32, 1, 4, Go.Value.int Go.IntKind.i32 0⟩ := by kernel_rfl
theorem ty_141 : ty 141 = some ⟨Go.TypeDesc.int Go.IntKind.i32, 1, 4, Go.Value.int Go.IntKind.i32 0⟩ := by kernel_rfl
theorem ty_144 : ty 144 = some ⟨Go.TypeDesc.unsafePointer, 1, 8, Go.Value.pointer none⟩ := by kernel_rfl
theorem tK_1 : tK ty 1 = .fn := by unfold tK; rw [ty_1]; rfl
theorem tS_1 : tS ty 1 = 1 := by unfold tS; rw [ty_1]
theorem tB_1 : tB ty 1 = 8 := by unfold tB; rw [ty_1]
theorem tG_1 : tG ty 1 = false := by unfold tG; rw [ty_1]; rfl
theorem tI_1 : tI ty 1 = true := by unfold tI; rw [ty_1]; rfl
theorem tZ_1 : tZ ty 1 = some [.d (.c (Go.Value.nilFunc))] := by unfold tZ; rw [ty_1]; rfl
theorem tK_2 : tK ty 2 = .int .i64 := by unfold tK; rw [ty_2]; rfl
theorem tS_2 : tS ty 2 = 1 := by unfold tS; rw [ty_2]
theorem tB_2 : tB ty 2 = 8 := by unfold tB; rw [ty_2]
theorem tG_2 : tG ty 2 = false := by unfold tG; rw [ty_2]; rfl
theorem tI_2 : tI ty 2 = true := by unfold tI; rw [ty_2]; rfl
theorem tZ_2 : tZ ty 2 = some [.d (.c (Go.Value.int Go.IntKind.i64 0))] := by unfold tZ; rw [ty_2]; rfl
theorem tK_3 : tK ty 3 = .int .i64 := by unfold tK; rw [ty_3]; rfl
theorem tS_3 : tS ty 3 = 1 := by unfold tS; rw [ty_3]
theorem tB_3 : tB ty 3 = 8 := by unfold tB; rw [ty_3]
theorem tG_3 : tG ty 3 = false := by unfold tG; rw [ty_3]; rfl
theorem tI_3 : tI ty 3 = true := by unfold tI; rw [ty_3]; rfl
theorem tZ_3 : tZ ty 3 = some [.d (.c (Go.Value.int Go.IntKind.i64 0))] := by unfold tZ; rw [ty_3]; rfl
theorem tK_4 : tK ty 4 = .bool := by unfold tK; rw [ty_4]; rfl
theorem tS_4 : tS ty 4 = 1 := by unfold tS; rw [ty_4]
theorem tB_4 : tB ty 4 = 1 := by unfold tB; rw [ty_4]
theorem tG_4 : tG ty 4 = false := by unfold tG; rw [ty_4]; rfl
theorem tI_4 : tI ty 4 = true := by unfold tI; rw [ty_4]; rfl
theorem tZ_4 : tZ ty 4 = some [.d (.c (Go.Value.bool false))] := by unfold tZ; rw [ty_4]; rfl
theorem tK_5 : tK ty 5 = .int .u8 := by unfold tK; rw [ty_5]; rfl
theorem tS_5 : tS ty 5 = 1 := by unfold tS; rw [ty_5]
theorem tB_5 : tB ty 5 = 1 := by unfold tB; rw [ty_5]
theorem tG_5 : tG ty 5 = false := by unfold tG; rw [ty_5]; rfl
theorem tI_5 : tI ty 5 = true := by unfold tI; rw [ty_5]; rfl
theorem tZ_5 : tZ ty 5 = some [.d (.c (Go.Value.int Go.IntKind.u8 0))] := by unfold tZ; rw [ty_5]; rfl
theorem tK_6 : tK ty 6 = .int .u8 := by unfold tK; rw [ty_6]; rfl
theorem tS_6 : tS ty 6 = 1 := by unfold tS; rw [ty_6]
theorem tB_6 : tB ty 6 = 1 := by unfold tB; rw [ty_6]
theorem tG_6 : tG ty 6 = false := by unfold tG; rw [ty_6]; rfl
theorem tI_6 : tI ty 6 = true := by unfold tI; rw [ty_6]; rfl
theorem tZ_6 : tZ ty 6 = some [.d (.c (Go.Value.int Go.IntKind.u8 0))] := by unfold tZ; rw [ty_6]; rfl
theorem tK_7 : tK ty 7 = .st := by unfold tK; rw [ty_7]; rfl
theorem tS_7 : tS ty 7 = 4 := by unfold tS; rw [ty_7]
theorem tB_7 : tB ty 7 = 24 := by unfold tB; rw [ty_7]
theorem tG_7 : tG ty 7 = true := by unfold tG; rw [ty_7]; rfl
theorem tI_7 : tI ty 7 = true := by unfold tI; rw [ty_7]; rfl
theorem tZ_7 : tZ ty 7 = some [.d (.c (Go.Value.int Go.IntKind.i64 0)), .d (.c (Go.Value.int Go.IntKind.i64 0)), .d (.c (Go.Value.bool false)), .d (.c (Go.Value.int Go.IntKind.u8 0))] := by unfold tZ; rw [ty_7]; rfl
theorem tF_7 : tF ty 7 = some ([.int, .int, .bool, .int]) := by unfold tF; kernel_rfl
theorem fieldOf_7_0 : fieldOf ty 7 0 = some (0, 2) := by unfold fieldOf; rw [ty_7]; rfl
theorem fieldOf_7_1 : fieldOf ty 7 1 = some (1, 3) := by unfold fieldOf; rw [ty_7]; rfl
theorem fieldOf_7_2 : fieldOf ty 7 2 = some (2, 4) := by unfold fieldOf; rw [ty_7]; rfl
theorem fieldOf_7_3 : fieldOf ty 7 3 = some (3, 6) := by unfold fieldOf; rw [ty_7]; rfl
theorem tP_7 : tP ty 7 = some [(0, 1), (1, 1), (2, 1), (3, 1)] := by unfold tP; rw [ty_7]; simp only [placesA, List.toList_toArray, ty_2, ty_3, ty_4, ty_6]
theorem tK_8 : tK ty 8 = .st := by unfold tK; rw [ty_8]; rfl
theorem tS_8 : tS ty 8 = 4 := by unfold tS; rw [ty_8]
theorem tB_8 : tB ty 8 = 24 := by unfold tB; rw [ty_8]
theorem tG_8 : tG ty 8 = true := by unfold tG; rw [ty_8]; rfl
theorem tI_8 : tI ty 8 = true := by unfold tI; rw [ty_8]; rfl
theorem tZ_8 : tZ ty 8 = some [.d (.c (Go.Value.int Go.IntKind.i64 0)), .d (.c (Go.Value.int Go.IntKind.i64 0)), .d (.c (Go.Value.bool false)), .d (.c (Go.Value.int Go.IntKind.u8 0))] := by unfold tZ; rw [ty_8]; rfl
theorem tF_8 : tF ty 8 = some ([.int, .int, .bool, .int]) := by unfold tF; kernel_rfl
theorem fieldOf_8_0 : fieldOf ty 8 0 = some (0, 2) := by unfold fieldOf; rw [ty_8]; rfl
theorem fieldOf_8_1 : fieldOf ty 8 1 = some (1, 3) := by unfold fieldOf; rw [ty_8]; rfl
theorem fieldOf_8_2 : fieldOf ty 8 2 = some (2, 4) := by unfold fieldOf; rw [ty_8]; rfl
theorem fieldOf_8_3 : fieldOf ty 8 3 = some (3, 6) := by unfold fieldOf; rw [ty_8]; rfl
theorem tP_8 : tP ty 8 = some [(0, 1), (1, 1), (2, 1), (3, 1)] := by unfold tP; rw [ty_8]; simp only [placesA, List.toList_toArray, ty_2, ty_3, ty_4, ty_6]
theorem tK_9 : tK ty 9 = .str := by unfold tK; rw [ty_9]; rfl
theorem tS_9 : tS ty 9 = 1 := by unfold tS; rw [ty_9]
theorem tB_9 : tB ty 9 = 16 := by unfold tB; rw [ty_9]
theorem tG_9 : tG ty 9 = false := by unfold tG; rw [ty_9]; rfl
theorem tI_9 : tI ty 9 = true := by unfold tI; rw [ty_9]; rfl
theorem tZ_9 : tZ ty 9 = some [.d (.c (Go.Value.string { data := #[] }))] := by unfold tZ; rw [ty_9]; rfl
theorem tK_10 : tK ty 10 = .str := by unfold tK; rw [ty_10]; rfl
theorem tS_10 : tS ty 10 = 1 := by unfold tS; rw [ty_10]
theorem tB_10 : tB ty 10 = 16 := by unfold tB; rw [ty_10]
theorem tG_10 : tG ty 10 = false := by unfold tG; rw [ty_10]; rfl
theorem tI_10 : tI ty 10 = true := by unfold tI; rw [ty_10]; rfl
theorem tZ_10 : tZ ty 10 = some [.d (.c (Go.Value.string { data := #[] }))] := by unfold tZ; rw [ty_10]; rfl
theorem tK_11 : tK ty 11 = .str := by unfold tK; rw [ty_11]; rfl
theorem tS_11 : tS ty 11 = 1 := by unfold tS; rw [ty_11]
theorem tB_11 : tB ty 11 = 16 := by unfold tB; rw [ty_11]
theorem tG_11 : tG ty 11 = false := by unfold tG; rw [ty_11]; rfl
theorem tI_11 : tI ty 11 = true := by unfold tI; rw [ty_11]; rfl
theorem tZ_11 : tZ ty 11 = some [.d (.c (Go.Value.string { data := #[] }))] := by unfold tZ; rw [ty_11]; rfl
theorem tK_12 : tK ty 12 = .int .u64 := by unfold tK; rw [ty_12]; rfl
theorem tS_12 : tS ty 12 = 1 := by unfold tS; rw [ty_12]
theorem tB_12 : tB ty 12 = 8 := by unfold tB; rw [ty_12]
theorem tG_12 : tG ty 12 = false := by unfold tG; rw [ty_12]; rfl
theorem tI_12 : tI ty 12 = true := by unfold tI; rw [ty_12]; rfl
theorem tZ_12 : tZ ty 12 = some [.d (.c (Go.Value.int Go.IntKind.u64 0))] := by unfold tZ; rw [ty_12]; rfl
theorem tK_15 : tK ty 15 = .ptr := by unfold tK; rw [ty_15]; rfl
theorem tS_15 : tS ty 15 = 1 := by unfold tS; rw [ty_15]
theorem tB_15 : tB ty 15 = 8 := by unfold tB; rw [ty_15]
theorem tG_15 : tG ty 15 = false := by unfold tG; rw [ty_15]; rfl
theorem tI_15 : tI ty 15 = true := by unfold tI; rw [ty_15]; rfl
theorem tZ_15 : tZ ty 15 = some [.d (.c (Go.Value.pointer none))] := by unfold tZ; rw [ty_15]; rfl
theorem tK_16 : tK ty 16 = .ptr := by unfold tK; rw [ty_16]; rfl
theorem tS_16 : tS ty 16 = 1 := by unfold tS; rw [ty_16]
theorem tB_16 : tB ty 16 = 8 := by unfold tB; rw [ty_16]
theorem tG_16 : tG ty 16 = false := by unfold tG; rw [ty_16]; rfl
theorem tI_16 : tI ty 16 = true := by unfold tI; rw [ty_16]; rfl
theorem tZ_16 : tZ ty 16 = some [.d (.c (Go.Value.pointer none))] := by unfold tZ; rw [ty_16]; rfl
theorem tK_17 : tK ty 17 = .ptr := by unfold tK; rw [ty_17]; rfl
theorem tS_17 : tS ty 17 = 1 := by unfold tS; rw [ty_17]
theorem tB_17 : tB ty 17 = 8 := by unfold tB; rw [ty_17]
theorem tG_17 : tG ty 17 = false := by unfold tG; rw [ty_17]; rfl
theorem tI_17 : tI ty 17 = true := by unfold tI; rw [ty_17]; rfl
theorem tZ_17 : tZ ty 17 = some [.d (.c (Go.Value.pointer none))] := by unfold tZ; rw [ty_17]; rfl
theorem tK_21 : tK ty 21 = .int .i32 := by unfold tK; rw [ty_21]; rfl
theorem tS_21 : tS ty 21 = 1 := by unfold tS; rw [ty_21]
theorem tB_21 : tB ty 21 = 4 := by unfold tB; rw [ty_21]
theorem tG_21 : tG ty 21 = false := by unfold tG; rw [ty_21]; rfl
theorem tI_21 : tI ty 21 = true := by unfold tI; rw [ty_21]; rfl
theorem tZ_21 : tZ ty 21 = some [.d (.c (Go.Value.int Go.IntKind.i32 0))] := by unfold tZ; rw [ty_21]; rfl
theorem tK_22 : tK ty 22 = .sl 32 := by unfold tK; rw [ty_22]; rfl
theorem tS_22 : tS ty 22 = 1 := by unfold tS; rw [ty_22]
theorem tB_22 : tB ty 22 = 24 := by unfold tB; rw [ty_22]
theorem tG_22 : tG ty 22 = false := by unfold tG; rw [ty_22]; rfl
theorem tI_22 : tI ty 22 = true := by unfold tI; rw [ty_22]; rfl
theorem tZ_22 : tZ ty 22 = some [.d (.c (Go.Value.slice none 0 0))] := by unfold tZ; rw [ty_22]; rfl
theorem szOf_22 : szOf ty 22 = some 4 := by unfold szOf; rw [ty_22]; simp only [ty_32, Option.map_some]
theorem tK_23 : tK ty 23 = .fn := by unfold tK; rw [ty_23]; rfl
theorem tS_23 : tS ty 23 = 1 := by unfold tS; rw [ty_23]
theorem tB_23 : tB ty 23 = 8 := by unfold tB; rw [ty_23]
theorem tG_23 : tG ty 23 = false := by unfold tG; rw [ty_23]; rfl
theorem tI_23 : tI ty 23 = true := by unfold tI; rw [ty_23]; rfl
theorem tZ_23 : tZ ty 23 = some [.d (.c (Go.Value.nilFunc))] := by unfold tZ; rw [ty_23]; rfl
theorem tK_24 : tK ty 24 = .fn := by unfold tK; rw [ty_24]; rfl
theorem tS_24 : tS ty 24 = 1 := by unfold tS; rw [ty_24]
theorem tB_24 : tB ty 24 = 8 := by unfold tB; rw [ty_24]
theorem tG_24 : tG ty 24 = false := by unfold tG; rw [ty_24]; rfl
theorem tI_24 : tI ty 24 = true := by unfold tI; rw [ty_24]; rfl
theorem tZ_24 : tZ ty 24 = some [.d (.c (Go.Value.nilFunc))] := by unfold tZ; rw [ty_24]; rfl
theorem tK_25 : tK ty 25 = .ptr := by unfold tK; rw [ty_25]; rfl
theorem tS_25 : tS ty 25 = 1 := by unfold tS; rw [ty_25]
theorem tB_25 : tB ty 25 = 8 := by unfold tB; rw [ty_25]
theorem tG_25 : tG ty 25 = false := by unfold tG; rw [ty_25]; rfl
theorem tI_25 : tI ty 25 = true := by unfold tI; rw [ty_25]; rfl
theorem tZ_25 : tZ ty 25 = some [.d (.c (Go.Value.pointer none))] := by unfold tZ; rw [ty_25]; rfl
theorem tK_26 : tK ty 26 = .int .i64 := by unfold tK; rw [ty_26]; rfl
theorem tS_26 : tS ty 26 = 1 := by unfold tS; rw [ty_26]
theorem tB_26 : tB ty 26 = 8 := by unfold tB; rw [ty_26]
theorem tG_26 : tG ty 26 = false := by unfold tG; rw [ty_26]; rfl
theorem tI_26 : tI ty 26 = true := by unfold tI; rw [ty_26]; rfl
theorem tZ_26 : tZ ty 26 = some [.d (.c (Go.Value.int Go.IntKind.i64 0))] := by unfold tZ; rw [ty_26]; rfl
theorem tK_28 : tK ty 28 = .fn := by unfold tK; rw [ty_28]; rfl
theorem tS_28 : tS ty 28 = 1 := by unfold tS; rw [ty_28]
theorem tB_28 : tB ty 28 = 8 := by unfold tB; rw [ty_28]
theorem tG_28 : tG ty 28 = false := by unfold tG; rw [ty_28]; rfl
theorem tI_28 : tI ty 28 = true := by unfold tI; rw [ty_28]; rfl
theorem tZ_28 : tZ ty 28 = some [.d (.c (Go.Value.nilFunc))] := by unfold tZ; rw [ty_28]; rfl
theorem tK_29 : tK ty 29 = .fn := by unfold tK; rw [ty_29]; rfl
theorem tS_29 : tS ty 29 = 1 := by unfold tS; rw [ty_29]
theorem tB_29 : tB ty 29 = 8 := by unfold tB; rw [ty_29]
theorem tG_29 : tG ty 29 = false := by unfold tG; rw [ty_29]; rfl
theorem tI_29 : tI ty 29 = true := by unfold tI; rw [ty_29]; rfl
theorem tZ_29 : tZ ty 29 = some [.d (.c (Go.Value.nilFunc))] := by unfold tZ; rw [ty_29]; rfl
theorem tK_30 : tK ty 30 = .sl 85 := by unfold tK; rw [ty_30]; rfl
theorem tS_30 : tS ty 30 = 1 := by unfold tS; rw [ty_30]
theorem tB_30 : tB ty 30 = 24 := by unfold tB; rw [ty_30]
theorem tG_30 : tG ty 30 = false := by unfold tG; rw [ty_30]; rfl
theorem tI_30 : tI ty 30 = true := by unfold tI; rw [ty_30]; rfl
theorem tZ_30 : tZ ty 30 = some [.d (.c (Go.Value.slice none 0 0))] := by unfold tZ; rw [ty_30]; rfl
theorem szOf_30 : szOf ty 30 = some 3 := by unfold szOf; rw [ty_30]; simp only [ty_85, Option.map_some]
theorem tK_31 : tK ty 31 = .st := by unfold tK; rw [ty_31]; rfl
theorem tS_31 : tS ty 31 = 4 := by unfold tS; rw [ty_31]
theorem tB_31 : tB ty 31 = 72 := by unfold tB; rw [ty_31]
theorem tG_31 : tG ty 31 = true := by unfold tG; rw [ty_31]; rfl
theorem tI_31 : tI ty 31 = true := by unfold tI; rw [ty_31]; rfl
theorem tZ_31 : tZ ty 31 = some [.d (.c (Go.Value.string { data := #[] })), .d (.c (Go.Value.string { data := #[] })), .d (.c (Go.Value.string { data := #[] })), .d (.c (Go.Value.slice none 0 0))] := by unfold tZ; rw [ty_31]; rfl
theorem fieldOf_31_0 : fieldOf ty 31 0 = some (0, 9) := by unfold fieldOf; rw [ty_31]; rfl
theorem fieldOf_31_1 : fieldOf ty 31 1 = some (1, 9) := by unfold fieldOf; rw [ty_31]; rfl
theorem fieldOf_31_2 : fieldOf ty 31 2 = some (2, 9) := by unfold fieldOf; rw [ty_31]; rfl
theorem fieldOf_31_3 : fieldOf ty 31 3 = some (3, 30) := by unfold fieldOf; rw [ty_31]; rfl
theorem tP_31 : tP ty 31 = some [(0, 1), (1, 1), (2, 1), (3, 1)] := by unfold tP; rw [ty_31]; simp only [placesA, List.toList_toArray, ty_30, ty_9]
theorem tK_32 : tK ty 32 = .st := by unfold tK; rw [ty_32]; rfl
theorem tS_32 : tS ty 32 = 4 := by unfold tS; rw [ty_32]
theorem tB_32 : tB ty 32 = 72 := by unfold tB; rw [ty_32]
theorem tG_32 : tG ty 32 = true := by unfold tG; rw [ty_32]; rfl
theorem tI_32 : tI ty 32 = true := by unfold tI; rw [ty_32]; rfl
theorem tZ_32 : tZ ty 32 = some [.d (.c (Go.Value.string { data := #[] })), .d (.c (Go.Value.string { data := #[] })), .d (.c (Go.Value.string { data := #[] })), .d (.c (Go.Value.slice none 0 0))] := by unfold tZ; rw [ty_32]; rfl
theorem fieldOf_32_0 : fieldOf ty 32 0 = some (0, 9) := by unfold fieldOf; rw [ty_32]; rfl
theorem fieldOf_32_1 : fieldOf ty 32 1 = some (1, 9) := by unfold fieldOf; rw [ty_32]; rfl
theorem fieldOf_32_2 : fieldOf ty 32 2 = some (2, 9) := by unfold fieldOf; rw [ty_32]; rfl
theorem fieldOf_32_3 : fieldOf ty 32 3 = some (3, 30) := by unfold fieldOf; rw [ty_32]; rfl
theorem tP_32 : tP ty 32 = some [(0, 1), (1, 1), (2, 1), (3, 1)] := by unfold tP; rw [ty_32]; simp only [placesA, List.toList_toArray, ty_30, ty_9]
theorem tK_33 : tK ty 33 = .fn := by unfold tK; rw [ty_33]; rfl
theorem tS_33 : tS ty 33 = 1 := by unfold tS; rw [ty_33]
theorem tB_33 : tB ty 33 = 8 := by unfold tB; rw [ty_33]
theorem tG_33 : tG ty 33 = false := by unfold tG; rw [ty_33]; rfl
theorem tI_33 : tI ty 33 = true := by unfold tI; rw [ty_33]; rfl
theorem tZ_33 : tZ ty 33 = some [.d (.c (Go.Value.nilFunc))] := by unfold tZ; rw [ty_33]; rfl
theorem tK_34 : tK ty 34 = .fn := by unfold tK; rw [ty_34]; rfl
theorem tS_34 : tS ty 34 = 1 := by unfold tS; rw [ty_34]
theorem tB_34 : tB ty 34 = 8 := by unfold tB; rw [ty_34]
theorem tG_34 : tG ty 34 = false := by unfold tG; rw [ty_34]; rfl
theorem tI_34 : tI ty 34 = true := by unfold tI; rw [ty_34]; rfl
theorem tZ_34 : tZ ty 34 = some [.d (.c (Go.Value.nilFunc))] := by unfold tZ; rw [ty_34]; rfl
theorem tK_35 : tK ty 35 = .fn := by unfold tK; rw [ty_35]; rfl
theorem tS_35 : tS ty 35 = 1 := by unfold tS; rw [ty_35]
theorem tB_35 : tB ty 35 = 8 := by unfold tB; rw [ty_35]
theorem tG_35 : tG ty 35 = false := by unfold tG; rw [ty_35]; rfl
theorem tI_35 : tI ty 35 = true := by unfold tI; rw [ty_35]; rfl
theorem tZ_35 : tZ ty 35 = some [.d (.c (Go.Value.nilFunc))] := by unfold tZ; rw [ty_35]; rfl
theorem tK_36 : tK ty 36 = .fn := by unfold tK; rw [ty_36]; rfl
theorem tS_36 : tS ty 36 = 1 := by unfold tS; rw [ty_36]
theorem tB_36 : tB ty 36 = 8 := by unfold tB; rw [ty_36]
theorem tG_36 : tG ty 36 = false := by unfold tG; rw [ty_36]; rfl
theorem tI_36 : tI ty 36 = true := by unfold tI; rw [ty_36]; rfl
theorem tZ_36 : tZ ty 36 = some [.d (.c (Go.Value.nilFunc))] := by unfold tZ; rw [ty_36]; rfl
theorem tK_37 : tK ty 37 = .fn := by unfold tK; rw [ty_37]; rfl
theorem tS_37 : tS ty 37 = 1 := by unfold tS; rw [ty_37]
theorem tB_37 : tB ty 37 = 8 := by unfold tB; rw [ty_37]
theorem tG_37 : tG ty 37 = false := by unfold tG; rw [ty_37]; rfl
theorem tI_37 : tI ty 37 = true := by unfold tI; rw [ty_37]; rfl
theorem tZ_37 : tZ ty 37 = some [.d (.c (Go.Value.nilFunc))] := by unfold tZ; rw [ty_37]; rfl
theorem tK_38 : tK ty 38 = .fn := by unfold tK; rw [ty_38]; rfl
theorem tS_38 : tS ty 38 = 1 := by unfold tS; rw [ty_38]
theorem tB_38 : tB ty 38 = 8 := by unfold tB; rw [ty_38]
theorem tG_38 : tG ty 38 = false := by unfold tG; rw [ty_38]; rfl
theorem tI_38 : tI ty 38 = true := by unfold tI; rw [ty_38]; rfl
theorem tZ_38 : tZ ty 38 = some [.d (.c (Go.Value.nilFunc))] := by unfold tZ; rw [ty_38]; rfl
theorem tK_39 : tK ty 39 = .fn := by unfold tK; rw [ty_39]; rfl
theorem tS_39 : tS ty 39 = 1 := by unfold tS; rw [ty_39]
theorem tB_39 : tB ty 39 = 8 := by unfold tB; rw [ty_39]
theorem tG_39 : tG ty 39 = false := by unfold tG; rw [ty_39]; rfl
theorem tI_39 : tI ty 39 = true := by unfold tI; rw [ty_39]; rfl
theorem tZ_39 : tZ ty 39 = some [.d (.c (Go.Value.nilFunc))] := by unfold tZ; rw [ty_39]; rfl
theorem tK_40 : tK ty 40 = .fn := by unfold tK; rw [ty_40]; rfl
theorem tS_40 : tS ty 40 = 1 := by unfold tS; rw [ty_40]
theorem tB_40 : tB ty 40 = 8 := by unfold tB; rw [ty_40]
theorem tG_40 : tG ty 40 = false := by unfold tG; rw [ty_40]; rfl
theorem tI_40 : tI ty 40 = true := by unfold tI; rw [ty_40]; rfl
theorem tZ_40 : tZ ty 40 = some [.d (.c (Go.Value.nilFunc))] := by unfold tZ; rw [ty_40]; rfl
theorem tK_41 : tK ty 41 = .fn := by unfold tK; rw [ty_41]; rfl
theorem tS_41 : tS ty 41 = 1 := by unfold tS; rw [ty_41]
theorem tB_41 : tB ty 41 = 8 := by unfold tB; rw [ty_41]
theorem tG_41 : tG ty 41 = false := by unfold tG; rw [ty_41]; rfl
theorem tI_41 : tI ty 41 = true := by unfold tI; rw [ty_41]; rfl
theorem tZ_41 : tZ ty 41 = some [.d (.c (Go.Value.nilFunc))] := by unfold tZ; rw [ty_41]; rfl
theorem tK_42 : tK ty 42 = .fn := by unfold tK; rw [ty_42]; rfl
theorem tS_42 : tS ty 42 = 1 := by unfold tS; rw [ty_42]
theorem tB_42 : tB ty 42 = 8 := by unfold tB; rw [ty_42]
theorem tG_42 : tG ty 42 = false := by unfold tG; rw [ty_42]; rfl
theorem tI_42 : tI ty 42 = true := by unfold tI; rw [ty_42]; rfl
theorem tZ_42 : tZ ty 42 = some [.d (.c (Go.Value.nilFunc))] := by unfold tZ; rw [ty_42]; rfl
theorem tK_43 : tK ty 43 = .fn := by unfold tK; rw [ty_43]; rfl
theorem tS_43 : tS ty 43 = 1 := by unfold tS; rw [ty_43]
theorem tB_43 : tB ty 43 = 8 := by unfold tB; rw [ty_43]
theorem tG_43 : tG ty 43 = false := by unfold tG; rw [ty_43]; rfl
theorem tI_43 : tI ty 43 = true := by unfold tI; rw [ty_43]; rfl
theorem tZ_43 : tZ ty 43 = some [.d (.c (Go.Value.nilFunc))] := by unfold tZ; rw [ty_43]; rfl
theorem tK_44 : tK ty 44 = .sl 51 := by unfold tK; rw [ty_44]; rfl
theorem tS_44 : tS ty 44 = 1 := by unfold tS; rw [ty_44]
theorem tB_44 : tB ty 44 = 24 := by unfold tB; rw [ty_44]
theorem tG_44 : tG ty 44 = false := by unfold tG; rw [ty_44]; rfl
theorem tI_44 : tI ty 44 = true := by unfold tI; rw [ty_44]; rfl
theorem tZ_44 : tZ ty 44 = some [.d (.c (Go.Value.slice none 0 0))] := by unfold tZ; rw [ty_44]; rfl
theorem szOf_44 : szOf ty 44 = some 39 := by unfold szOf; rw [ty_44]; simp only [ty_51, Option.map_some]
theorem tK_45 : tK ty 45 = .fn := by unfold tK; rw [ty_45]; rfl
theorem tS_45 : tS ty 45 = 1 := by unfold tS; rw [ty_45]
theorem tB_45 : tB ty 45 = 8 := by unfold tB; rw [ty_45]
theorem tG_45 : tG ty 45 = false := by unfold tG; rw [ty_45]; rfl
theorem tI_45 : tI ty 45 = true := by unfold tI; rw [ty_45]; rfl
theorem tZ_45 : tZ ty 45 = some [.d (.c (Go.Value.nilFunc))] := by unfold tZ; rw [ty_45]; rfl
theorem tK_46 : tK ty 46 = .ptr := by unfold tK; rw [ty_46]; rfl
theorem tS_46 : tS ty 46 = 1 := by unfold tS; rw [ty_46]
theorem tB_46 : tB ty 46 = 8 := by unfold tB; rw [ty_46]
theorem tG_46 : tG ty 46 = false := by unfold tG; rw [ty_46]; rfl
theorem tI_46 : tI ty 46 = true := by unfold tI; rw [ty_46]; rfl
theorem tZ_46 : tZ ty 46 = some [.d (.c (Go.Value.pointer none))] := by unfold tZ; rw [ty_46]; rfl
theorem tK_47 : tK ty 47 = .fn := by unfold tK; rw [ty_47]; rfl
theorem tS_47 : tS ty 47 = 1 := by unfold tS; rw [ty_47]
theorem tB_47 : tB ty 47 = 8 := by unfold tB; rw [ty_47]
theorem tG_47 : tG ty 47 = false := by unfold tG; rw [ty_47]; rfl
theorem tI_47 : tI ty 47 = true := by unfold tI; rw [ty_47]; rfl
theorem tZ_47 : tZ ty 47 = some [.d (.c (Go.Value.nilFunc))] := by unfold tZ; rw [ty_47]; rfl
theorem tK_48 : tK ty 48 = .arr 32 5 := by unfold tK; rw [ty_48]; rfl
theorem tS_48 : tS ty 48 = 32 := by unfold tS; rw [ty_48]
theorem tB_48 : tB ty 48 = 32 := by unfold tB; rw [ty_48]
theorem tG_48 : tG ty 48 = true := by unfold tG; rw [ty_48]; rfl
theorem tI_48 : tI ty 48 = true := by unfold tI; rw [ty_48]; rfl
theorem tZ_48 : tZ ty 48 = some [.d (.c (Go.Value.int Go.IntKind.u8 0)), .d (.c (Go.Value.int Go.IntKind.u8 0)), .d (.c (Go.Value.int Go.IntKind.u8 0)), .d (.c (Go.Value.int Go.IntKind.u8 0)), .d (.c (Go.Value.int Go.IntKind.u8 0)), .d (.c (Go.Value.int Go.IntKind.u8 0)), .d (.c (Go.Value.int Go.IntKind.u8 0)), .d (.c (Go.Value.int Go.IntKind.u8 0)), .d (.c (Go.Value.int Go.IntKind.u8 0)), .d (.c (Go.Value.int Go.IntKind.u8 0)), .d (.c (Go.Value.int Go.IntKind.u8 0)), .d (.c (Go.Value.int Go.IntKind.u8 0)), .d (.c (Go.Value.int Go.IntKind.u8 0)), .d (.c (Go.Value.int Go.IntKind.u8 0)), .d (.c (Go.Value.int Go.IntKind.u8 0)), .d (.c (Go.Value.int Go.IntKind.u8 0)), .d (.c (Go.Value.int Go.IntKind.u8 0)), .d (.c (Go.Value.int Go.IntKind.u8 0)), .d (.c (Go.Value.int Go.IntKind.u8 0)), .d (.c (Go.Value.int Go.IntKind.u8 0)), .d (.c (Go.Value.int Go.IntKind.u8 0)), .d (.c (Go.Value.int Go.IntKind.u8 0)), .d (.c (Go.Value.int Go.IntKind.u8 0)), .d (.c (Go.Value.int Go.IntKind.u8 0)), .d (.c (Go.Value.int Go.IntKind.u8 0)), .d (.c (Go.Value.int Go.IntKind.u8 0)), .d (.c (Go.Value.int Go.IntKind.u8 0)), .d (.c (Go.Value.int Go.IntKind.u8 0)), .d (.c (Go.Value.int Go.IntKind.u8 0)), .d (.c (Go.Value.int Go.IntKind.u8 0)), .d (.c (Go.Value.int Go.IntKind.u8 0)), .d (.c (Go.Value.int Go.IntKind.u8 0))] := by unfold tZ; rw [ty_48]; rfl
theorem tF_48 : tF ty 48 = some (List.replicate 32 .int) := by unfold tF; kernel_rfl
theorem tK_49 : tK ty 49 = .arr 32 5 := by unfold tK; rw [ty_49]; rfl
theorem tS_49 : tS ty 49 = 32 := by unfold tS; rw [ty_49]
theorem tB_49 : tB ty 49 = 32 := by unfold tB; rw [ty_49]
theorem tG_49 : tG ty 49 = true := by unfold tG; rw [ty_49]; rfl
theorem tI_49 : tI ty 49 = true := by unfold tI; rw [ty_49]; rfl
theorem tZ_49 : tZ ty 49 = some [.d (.c (Go.Value.int Go.IntKind.u8 0)), .d (.c (Go.Value.int Go.IntKind.u8 0)), .d (.c (Go.Value.int Go.IntKind.u8 0)), .d (.c (Go.Value.int Go.IntKind.u8 0)), .d (.c (Go.Value.int Go.IntKind.u8 0)), .d (.c (Go.Value.int Go.IntKind.u8 0)), .d (.c (Go.Value.int Go.IntKind.u8 0)), .d (.c (Go.Value.int Go.IntKind.u8 0)), .d (.c (Go.Value.int Go.IntKind.u8 0)), .d (.c (Go.Value.int Go.IntKind.u8 0)), .d (.c (Go.Value.int Go.IntKind.u8 0)), .d (.c (Go.Value.int Go.IntKind.u8 0)), .d (.c (Go.Value.int Go.IntKind.u8 0)), .d (.c (Go.Value.int Go.IntKind.u8 0)), .d (.c (Go.Value.int Go.IntKind.u8 0)), .d (.c (Go.Value.int Go.IntKind.u8 0)), .d (.c (Go.Value.int Go.IntKind.u8 0)), .d (.c (Go.Value.int Go.IntKind.u8 0)), .d (.c (Go.Value.int Go.IntKind.u8 0)), .d (.c (Go.Value.int Go.IntKind.u8 0)), .d (.c (Go.Value.int Go.IntKind.u8 0)), .d (.c (Go.Value.int Go.IntKind.u8 0)), .d (.c (Go.Value.int Go.IntKind.u8 0)), .d (.c (Go.Value.int Go.IntKind.u8 0)), .d (.c (Go.Value.int Go.IntKind.u8 0)), .d (.c (Go.Value.int Go.IntKind.u8 0)), .d (.c (Go.Value.int Go.IntKind.u8 0)), .d (.c (Go.Value.int Go.IntKind.u8 0)), .d (.c (Go.Value.int Go.IntKind.u8 0)), .d (.c (Go.Value.int Go.IntKind.u8 0)), .d (.c (Go.Value.int Go.IntKind.u8 0)), .d (.c (Go.Value.int Go.IntKind.u8 0))] := by unfold tZ; rw [ty_49]; rfl
theorem tF_49 : tF ty 49 = some (List.replicate 32 .int) := by unfold tF; kernel_rfl
theorem tK_50 : tK ty 50 = .st := by unfold tK; rw [ty_50]; rfl
theorem tS_50 : tS ty 50 = 39 := by unfold tS; rw [ty_50]
theorem tB_50 : tB ty 50 = 144 := by unfold tB; rw [ty_50]
theorem tG_50 : tG ty 50 = true := by unfold tG; rw [ty_50]; rfl
theorem tI_50 : tI ty 50 = true := by unfold tI; rw [ty_50]; rfl
theorem tZ_50 : tZ ty 50 = some [.d (.c (Go.Value.string { data := #[] })), .d (.c (Go.Value.string { data := #[] })), .d (.c (Go.Value.string { data := #[] })), .d (.c (Go.Value.slice none 0 0)), .d (.c (Go.Value.int Go.IntKind.i64 0)), .d (.c (Go.Value.int Go.IntKind.i64 0)), .d (.c (Go.Value.slice none 0 0)), .d (.c (Go.Value.int Go.IntKind.u8 0)), .d (.c (Go.Value.int Go.IntKind.u8 0)), .d (.c (Go.Value.int Go.IntKind.u8 0)), .d (.c (Go.Value.int Go.IntKind.u8 0)), .d (.c (Go.Value.int Go.IntKind.u8 0)), .d (.c (Go.Value.int Go.IntKind.u8 0)), .d (.c (Go.Value.int Go.IntKind.u8 0)), .d (.c (Go.Value.int Go.IntKind.u8 0)), .d (.c (Go.Value.int Go.IntKind.u8 0)), .d (.c (Go.Value.int Go.IntKind.u8 0)), .d (.c (Go.Value.int Go.IntKind.u8 0)), .d (.c (Go.Value.int Go.IntKind.u8 0)), .d (.c (Go.Value.int Go.IntKind.u8 0)), .d (.c (Go.Value.int Go.IntKind.u8 0)), .d (.c (Go.Value.int Go.IntKind.u8 0)), .d (.c (Go.Value.int Go.IntKind.u8 0)), .d (.c (Go.Value.int Go.IntKind.u8 0)), .d (.c (Go.Value.int Go.IntKind.u8 0)), .d (.c (Go.Value.int Go.IntKind.u8 0)), .d (.c (Go.Value.int Go.IntKind.u8 0)), .d (.c (Go.Value.int Go.IntKind.u8 0)), .d (.c (Go.Value.int Go.IntKind.u8 0)), .d (.c (Go.Value.int Go.IntKind.u8 0)), .d (.c (Go.Value.int Go.IntKind.u8 0)), .d (.c (Go.Value.int Go.IntKind.u8 0)), .d (.c (Go.Value.int Go.IntKind.u8 0)), .d (.c (Go.Value.int Go.IntKind.u8 0)), .d (.c (Go.Value.int Go.IntKind.u8 0)), .d (.c (Go.Value.int Go.IntKind.u8 0)), .d (.c (Go.Value.int Go.IntKind.u8 0)), .d (.c (Go.Value.int Go.IntKind.u8 0)), .d (.c (Go.Value.int Go.IntKind.u8 0))] := by unfold tZ; rw [ty_50]; rfl
theorem fieldOf_50_0 : fieldOf ty 50 0 = some (0, 32) := by unfold fieldOf; rw [ty_50]; rfl
theorem fieldOf_50_1 : fieldOf ty 50 1 = some (4, 3) := by unfold fieldOf; rw [ty_50]; rfl
theorem fieldOf_50_2 : fieldOf ty 50 2 = some (5, 3) := by unfold fieldOf; rw [ty_50]; rfl
theorem fieldOf_50_3 : fieldOf ty 50 3 = some (6, 22) := by unfold fieldOf; rw [ty_50]; rfl
theorem fieldOf_50_4 : fieldOf ty 50 4 = some (7, 49) := by unfold fieldOf; rw [ty_50]; rfl
theorem tP_50 : tP ty 50 = some [(0, 4), (4, 1), (5, 1), (6, 1), (7, 32)] := by unfold tP; rw [ty_50]; simp only [placesA, List.toList_toArray, ty_22, ty_3, ty_32, ty_49]
theorem tK_51 : tK ty 51 = .st := by unfold tK; rw [ty_51]; rfl
theorem tS_51 : tS ty 51 = 39 := by unfold tS; rw [ty_51]
theorem tB_51 : tB ty 51 = 144 := by unfold tB; rw [ty_51]
theorem tG_51 : tG ty 51 = true := by unfold tG; rw [ty_51]; rfl
theorem tI_51 : tI ty 51 = true := by unfold tI; rw [ty_51]; rfl
theorem tZ_51 : tZ ty 51 = some [.d (.c (Go.Value.string { data := #[] })), .d (.c (Go.Value.string { data := #[] })), .d (.c (Go.Value.string { data := #[] })), .d (.c (Go.Value.slice none 0 0)), .d (.c (Go.Value.int Go.IntKind.i64 0)), .d (.c (Go.Value.int Go.IntKind.i64 0)), .d (.c (Go.Value.slice none 0 0)), .d (.c (Go.Value.int Go.IntKind.u8 0)), .d (.c (Go.Value.int Go.IntKind.u8 0)), .d (.c (Go.Value.int Go.IntKind.u8 0)), .d (.c (Go.Value.int Go.IntKind.u8 0)), .d (.c (Go.Value.int Go.IntKind.u8 0)), .d (.c (Go.Value.int Go.IntKind.u8 0)), .d (.c (Go.Value.int Go.IntKind.u8 0)), .d (.c (Go.Value.int Go.IntKind.u8 0)), .d (.c (Go.Value.int Go.IntKind.u8 0)), .d (.c (Go.Value.int Go.IntKind.u8 0)), .d (.c (Go.Value.int Go.IntKind.u8 0)), .d (.c (Go.Value.int Go.IntKind.u8 0)), .d (.c (Go.Value.int Go.IntKind.u8 0)), .d (.c (Go.Value.int Go.IntKind.u8 0)), .d (.c (Go.Value.int Go.IntKind.u8 0)), .d (.c (Go.Value.int Go.IntKind.u8 0)), .d (.c (Go.Value.int Go.IntKind.u8 0)), .d (.c (Go.Value.int Go.IntKind.u8 0)), .d (.c (Go.Value.int Go.IntKind.u8 0)), .d (.c (Go.Value.int Go.IntKind.u8 0)), .d (.c (Go.Value.int Go.IntKind.u8 0)), .d (.c (Go.Value.int Go.IntKind.u8 0)), .d (.c (Go.Value.int Go.IntKind.u8 0)), .d (.c (Go.Value.int Go.IntKind.u8 0)), .d (.c (Go.Value.int Go.IntKind.u8 0)), .d (.c (Go.Value.int Go.IntKind.u8 0)), .d (.c (Go.Value.int Go.IntKind.u8 0)), .d (.c (Go.Value.int Go.IntKind.u8 0)), .d (.c (Go.Value.int Go.IntKind.u8 0)), .d (.c (Go.Value.int Go.IntKind.u8 0)), .d (.c (Go.Value.int Go.IntKind.u8 0)), .d (.c (Go.Value.int Go.IntKind.u8 0))] := by unfold tZ; rw [ty_51]; rfl
theorem fieldOf_51_0 : fieldOf ty 51 0 = some (0, 32) := by unfold fieldOf; rw [ty_51]; rfl
theorem fieldOf_51_1 : fieldOf ty 51 1 = some (4, 3) := by unfold fieldOf; rw [ty_51]; rfl
theorem fieldOf_51_2 : fieldOf ty 51 2 = some (5, 3) := by unfold fieldOf; rw [ty_51]; rfl
theorem fieldOf_51_3 : fieldOf ty 51 3 = some (6, 22) := by unfold fieldOf; rw [ty_51]; rfl
theorem fieldOf_51_4 : fieldOf ty 51 4 = some (7, 49) := by unfold fieldOf; rw [ty_51]; rfl
theorem tP_51 : tP ty 51 = some [(0, 4), (4, 1), (5, 1), (6, 1), (7, 32)] := by unfold tP; rw [ty_51]; simp only [placesA, List.toList_toArray, ty_22, ty_3, ty_32, ty_49]
theorem tK_52 : tK ty 52 = .fn := by unfold tK; rw [ty_52]; rfl
theorem tS_52 : tS ty 52 = 1 := by unfold tS; rw [ty_52]
theorem tB_52 : tB ty 52 = 8 := by unfold tB; rw [ty_52]
theorem tG_52 : tG ty 52 = false := by unfold tG; rw [ty_52]; rfl
theorem tI_52 : tI ty 52 = true := by unfold tI; rw [ty_52]; rfl
theorem tZ_52 : tZ ty 52 = some [.d (.c (Go.Value.nilFunc))] := by unfold tZ; rw [ty_52]; rfl
theorem tK_53 : tK ty 53 = .fn := by unfold tK; rw [ty_53]; rfl
theorem tS_53 : tS ty 53 = 1 := by unfold tS; rw [ty_53]
theorem tB_53 : tB ty 53 = 8 := by unfold tB; rw [ty_53]
theorem tG_53 : tG ty 53 = false := by unfold tG; rw [ty_53]; rfl
theorem tI_53 : tI ty 53 = true := by unfold tI; rw [ty_53]; rfl
theorem tZ_53 : tZ ty 53 = some [.d (.c (Go.Value.nilFunc))] := by unfold tZ; rw [ty_53]; rfl
theorem tK_54 : tK ty 54 = .fn := by unfold tK; rw [ty_54]; rfl
theorem tS_54 : tS ty 54 = 1 := by unfold tS; rw [ty_54]
theorem tB_54 : tB ty 54 = 8 := by unfold tB; rw [ty_54]
theorem tG_54 : tG ty 54 = false := by unfold tG; rw [ty_54]; rfl
theorem tI_54 : tI ty 54 = true := by unfold tI; rw [ty_54]; rfl
theorem tZ_54 : tZ ty 54 = some [.d (.c (Go.Value.nilFunc))] := by unfold tZ; rw [ty_54]; rfl
theorem tK_55 : tK ty 55 = .fn := by unfold tK; rw [ty_55]; rfl
theorem tS_55 : tS ty 55 = 1 := by unfold tS; rw [ty_55]
theorem tB_55 : tB ty 55 = 8 := by unfold tB; rw [ty_55]
theorem tG_55 : tG ty 55 = false := by unfold tG; rw [ty_55]; rfl
theorem tI_55 : tI ty 55 = true := by unfold tI; rw [ty_55]; rfl
theorem tZ_55 : tZ ty 55 = some [.d (.c (Go.Value.nilFunc))] := by unfold tZ; rw [ty_55]; rfl
theorem tK_56 : tK ty 56 = .fn := by unfold tK; rw [ty_56]; rfl
theorem tS_56 : tS ty 56 = 1 := by unfold tS; rw [ty_56]
theorem tB_56 : tB ty 56 = 8 := by unfold tB; rw [ty_56]
theorem tG_56 : tG ty 56 = false := by unfold tG; rw [ty_56]; rfl
theorem tI_56 : tI ty 56 = true := by unfold tI; rw [ty_56]; rfl
theorem tZ_56 : tZ ty 56 = some [.d (.c (Go.Value.nilFunc))] := by unfold tZ; rw [ty_56]; rfl
theorem tK_57 : tK ty 57 = .fn := by unfold tK; rw [ty_57]; rfl
theorem tS_57 : tS ty 57 = 1 := by unfold tS; rw [ty_57]
theorem tB_57 : tB ty 57 = 8 := by unfold tB; rw [ty_57]
theorem tG_57 : tG ty 57 = false := by unfold tG; rw [ty_57]; rfl
theorem tI_57 : tI ty 57 = true := by unfold tI; rw [ty_57]; rfl
theorem tZ_57 : tZ ty 57 = some [.d (.c (Go.Value.nilFunc))] := by unfold tZ; rw [ty_57]; rfl
theorem tK_58 : tK ty 58 = .fn := by unfold tK; rw [ty_58]; rfl
theorem tS_58 : tS ty 58 = 1 := by unfold tS; rw [ty_58]
theorem tB_58 : tB ty 58 = 8 := by unfold tB; rw [ty_58]
theorem tG_58 : tG ty 58 = false := by unfold tG; rw [ty_58]; rfl
theorem tI_58 : tI ty 58 = true := by unfold tI; rw [ty_58]; rfl
theorem tZ_58 : tZ ty 58 = some [.d (.c (Go.Value.nilFunc))] := by unfold tZ; rw [ty_58]; rfl
theorem tK_59 : tK ty 59 = .ptr := by unfold tK; rw [ty_59]; rfl
theorem tS_59 : tS ty 59 = 1 := by unfold tS; rw [ty_59]
theorem tB_59 : tB ty 59 = 8 := by unfold tB; rw [ty_59]
theorem tG_59 : tG ty 59 = false := by unfold tG; rw [ty_59]; rfl
theorem tI_59 : tI ty 59 = true := by unfold tI; rw [ty_59]; rfl
theorem tZ_59 : tZ ty 59 = some [.d (.c (Go.Value.pointer none))] := by unfold tZ; rw [ty_59]; rfl
theorem tK_60 : tK ty 60 = .st := by unfold tK; rw [ty_60]; rfl
theorem tS_60 : tS ty 60 = 1 := by unfold tS; rw [ty_60]
theorem tB_60 : tB ty 60 = 24 := by unfold tB; rw [ty_60]
theorem tG_60 : tG ty 60 = true := by unfold tG; rw [ty_60]; rfl
theorem tI_60 : tI ty 60 = true := by unfold tI; rw [ty_60]; rfl
theorem tZ_60 : tZ ty 60 = some [.d (.c (Go.Value.slice none 0 0))] := by unfold tZ; rw [ty_60]; rfl
theorem fieldOf_60_0 : fieldOf ty 60 0 = some (0, 44) := by unfold fieldOf; rw [ty_60]; rfl
theorem tP_60 : tP ty 60 = some [(0, 1)] := by unfold tP; rw [ty_60]; simp only [placesA, List.toList_toArray, ty_44]
theorem tK_61 : tK ty 61 = .st := by unfold tK; rw [ty_61]; rfl
theorem tS_61 : tS ty 61 = 1 := by unfold tS; rw [ty_61]
theorem tB_61 : tB ty 61 = 24 := by unfold tB; rw [ty_61]
theorem tG_61 : tG ty 61 = true := by unfold tG; rw [ty_61]; rfl
theorem tI_61 : tI ty 61 = true := by unfold tI; rw [ty_61]; rfl
theorem tZ_61 : tZ ty 61 = some [.d (.c (Go.Value.slice none 0 0))] := by unfold tZ; rw [ty_61]; rfl
theorem fieldOf_61_0 : fieldOf ty 61 0 = some (0, 44) := by unfold fieldOf; rw [ty_61]; rfl
theorem tP_61 : tP ty 61 = some [(0, 1)] := by unfold tP; rw [ty_61]; simp only [placesA, List.toList_toArray, ty_44]
theorem tK_62 : tK ty 62 = .fn := by unfold tK; rw [ty_62]; rfl
theorem tS_62 : tS ty 62 = 1 := by unfold tS; rw [ty_62]
theorem tB_62 : tB ty 62 = 8 := by unfold tB; rw [ty_62]
theorem tG_62 : tG ty 62 = false := by unfold tG; rw [ty_62]; rfl
theorem tI_62 : tI ty 62 = true := by unfold tI; rw [ty_62]; rfl
theorem tZ_62 : tZ ty 62 = some [.d (.c (Go.Value.nilFunc))] := by unfold tZ; rw [ty_62]; rfl
theorem tK_63 : tK ty 63 = .fn := by unfold tK; rw [ty_63]; rfl
theorem tS_63 : tS ty 63 = 1 := by unfold tS; rw [ty_63]
theorem tB_63 : tB ty 63 = 8 := by unfold tB; rw [ty_63]
theorem tG_63 : tG ty 63 = false := by unfold tG; rw [ty_63]; rfl
theorem tI_63 : tI ty 63 = true := by unfold tI; rw [ty_63]; rfl
theorem tZ_63 : tZ ty 63 = some [.d (.c (Go.Value.nilFunc))] := by unfold tZ; rw [ty_63]; rfl
theorem tK_64 : tK ty 64 = .fn := by unfold tK; rw [ty_64]; rfl
theorem tS_64 : tS ty 64 = 1 := by unfold tS; rw [ty_64]
theorem tB_64 : tB ty 64 = 8 := by unfold tB; rw [ty_64]
theorem tG_64 : tG ty 64 = false := by unfold tG; rw [ty_64]; rfl
theorem tI_64 : tI ty 64 = true := by unfold tI; rw [ty_64]; rfl
theorem tZ_64 : tZ ty 64 = some [.d (.c (Go.Value.nilFunc))] := by unfold tZ; rw [ty_64]; rfl
theorem tK_65 : tK ty 65 = .fn := by unfold tK; rw [ty_65]; rfl
theorem tS_65 : tS ty 65 = 1 := by unfold tS; rw [ty_65]
theorem tB_65 : tB ty 65 = 8 := by unfold tB; rw [ty_65]
theorem tG_65 : tG ty 65 = false := by unfold tG; rw [ty_65]; rfl
theorem tI_65 : tI ty 65 = true := by unfold tI; rw [ty_65]; rfl
theorem tZ_65 : tZ ty 65 = some [.d (.c (Go.Value.nilFunc))] := by unfold tZ; rw [ty_65]; rfl
theorem tK_67 : tK ty 67 = .fn := by unfold tK; rw [ty_67]; rfl
theorem tS_67 : tS ty 67 = 1 := by unfold tS; rw [ty_67]
theorem tB_67 : tB ty 67 = 8 := by unfold tB; rw [ty_67]
theorem tG_67 : tG ty 67 = false := by unfold tG; rw [ty_67]; rfl
theorem tI_67 : tI ty 67 = true := by unfold tI; rw [ty_67]; rfl
theorem tZ_67 : tZ ty 67 = some [.d (.c (Go.Value.nilFunc))] := by unfold tZ; rw [ty_67]; rfl
theorem tK_68 : tK ty 68 = .fn := by unfold tK; rw [ty_68]; rfl
theorem tS_68 : tS ty 68 = 1 := by unfold tS; rw [ty_68]
theorem tB_68 : tB ty 68 = 8 := by unfold tB; rw [ty_68]
theorem tG_68 : tG ty 68 = false := by unfold tG; rw [ty_68]; rfl
theorem tI_68 : tI ty 68 = true := by unfold tI; rw [ty_68]; rfl
theorem tZ_68 : tZ ty 68 = some [.d (.c (Go.Value.nilFunc))] := by unfold tZ; rw [ty_68]; rfl
theorem tK_69 : tK ty 69 = .fn := by unfold tK; rw [ty_69]; rfl
theorem tS_69 : tS ty 69 = 1 := by unfold tS; rw [ty_69]
theorem tB_69 : tB ty 69 = 8 := by unfold tB; rw [ty_69]
theorem tG_69 : tG ty 69 = false := by unfold tG; rw [ty_69]; rfl
theorem tI_69 : tI ty 69 = true := by unfold tI; rw [ty_69]; rfl
theorem tZ_69 : tZ ty 69 = some [.d (.c (Go.Value.nilFunc))] := by unfold tZ; rw [ty_69]; rfl
theorem tK_70 : tK ty 70 = .sl 3 := by unfold tK; rw [ty_70]; rfl
theorem tS_70 : tS ty 70 = 1 := by unfold tS; rw [ty_70]
theorem tB_70 : tB ty 70 = 24 := by unfold tB; rw [ty_70]
theorem tG_70 : tG ty 70 = false := by unfold tG; rw [ty_70]; rfl
theorem tI_70 : tI ty 70 = true := by unfold tI; rw [ty_70]; rfl
theorem tZ_70 : tZ ty 70 = some [.d (.c (Go.Value.slice none 0 0))] := by unfold tZ; rw [ty_70]; rfl
theorem szOf_70 : szOf ty 70 = some 1 := by unfold szOf; rw [ty_70]; simp only [ty_3, Option.map_some]
theorem tK_71 : tK ty 71 = .st := by unfold tK; rw [ty_71]; rfl
theorem tS_71 : tS ty 71 = 3 := by unfold tS; rw [ty_71]
theorem tB_71 : tB ty 71 = 56 := by unfold tB; rw [ty_71]
theorem tG_71 : tG ty 71 = true := by unfold tG; rw [ty_71]; rfl
theorem tI_71 : tI ty 71 = true := by unfold tI; rw [ty_71]; rfl
theorem tZ_71 : tZ ty 71 = some [.d (.c (Go.Value.slice none 0 0)), .d (.c (Go.Value.slice none 0 0)), .d (.c (Go.Value.bool false))] := by unfold tZ; rw [ty_71]; rfl
theorem fieldOf_71_0 : fieldOf ty 71 0 = some (0, 44) := by unfold fieldOf; rw [ty_71]; rfl
theorem fieldOf_71_1 : fieldOf ty 71 1 = some (1, 70) := by unfold fieldOf; rw [ty_71]; rfl
theorem fieldOf_71_2 : fieldOf ty 71 2 = some (2, 4) := by unfold fieldOf; rw [ty_71]; rfl
theorem tP_71 : tP ty 71 = some [(0, 1), (1, 1), (2, 1)] := by unfold tP; rw [ty_71]; simp only [placesA, List.toList_toArray, ty_4, ty_44, ty_70]
theorem tK_72 : tK ty 72 = .st := by unfold tK; rw [ty_72]; rfl
theorem tS_72 : tS ty 72 = 3 := by unfold tS; rw [ty_72]
theorem tB_72 : tB ty 72 = 56 := by unfold tB; rw [ty_72]
theorem tG_72 : tG ty 72 = true := by unfold tG; rw [ty_72]; rfl
theorem tI_72 : tI ty 72 = true := by unfold tI; rw [ty_72]; rfl
theorem tZ_72 : tZ ty 72 = some [.d (.c (Go.Value.slice none 0 0)), .d (.c (Go.Value.slice none 0 0)), .d (.c (Go.Value.bool false))] := by unfold tZ; rw [ty_72]; rfl
theorem fieldOf_72_0 : fieldOf ty 72 0 = some (0, 44) := by unfold fieldOf; rw [ty_72]; rfl
theorem fieldOf_72_1 : fieldOf ty 72 1 = some (1, 70) := by unfold fieldOf; rw [ty_72]; rfl
theorem fieldOf_72_2 : fieldOf ty 72 2 = some (2, 4) := by unfold fieldOf; rw [ty_72]; rfl
theorem tP_72 : tP ty 72 = some [(0, 1), (1, 1), (2, 1)] := by unfold tP; rw [ty_72]; simp only [placesA, List.toList_toArray, ty_4, ty_44, ty_70]
theorem tK_73 : tK ty 73 = .arr 2 46 := by unfold tK; rw [ty_73]; rfl
theorem tS_73 : tS ty 73 = 2 := by unfold tS; rw [ty_73]
theorem tB_73 : tB ty 73 = 16 := by unfold tB; rw [ty_73]
theorem tG_73 : tG ty 73 = true := by unfold tG; rw [ty_73]; rfl
theorem tI_73 : tI ty 73 = true := by unfold tI; rw [ty_73]; rfl
theorem tZ_73 : tZ ty 73 = some [.d (.c (Go.Value.pointer none)), .d (.c (Go.Value.pointer none))] := by unfold tZ; rw [ty_73]; rfl
theorem tK_74 : tK ty 74 = .sl 80 := by unfold tK; rw [ty_74]; rfl
theorem tS_74 : tS ty 74 = 1 := by unfold tS; rw [ty_74]
theorem tB_74 : tB ty 74 = 24 := by unfold tB; rw [ty_74]
theorem tG_74 : tG ty 74 = false := by unfold tG; rw [ty_74]; rfl
theorem tI_74 : tI ty 74 = true := by unfold tI; rw [ty_74]; rfl
theorem tZ_74 : tZ ty 74 = some [.d (.c (Go.Value.slice none 0 0))] := by unfold tZ; rw [ty_74]; rfl
theorem szOf_74 : szOf ty 74 = some 6 := by unfold szOf; rw [ty_74]; simp only [ty_80, Option.map_some]
theorem tK_75 : tK ty 75 = .ptr := by unfold tK; rw [ty_75]; rfl
theorem tS_75 : tS ty 75 = 1 := by unfold tS; rw [ty_75]
theorem tB_75 : tB ty 75 = 8 := by unfold tB; rw [ty_75]
theorem tG_75 : tG ty 75 = false := by unfold tG; rw [ty_75]; rfl
theorem tI_75 : tI ty 75 = true := by unfold tI; rw [ty_75]; rfl
theorem tZ_75 : tZ ty 75 = some [.d (.c (Go.Value.pointer none))] := by unfold tZ; rw [ty_75]; rfl
theorem tK_77 : tK ty 77 = .fn := by unfold tK; rw [ty_77]; rfl
theorem tS_77 : tS ty 77 = 1 := by unfold tS; rw [ty_77]
theorem tB_77 : tB ty 77 = 8 := by unfold tB; rw [ty_77]
theorem tG_77 : tG ty 77 = false := by unfold tG; rw [ty_77]; rfl
theorem tI_77 : tI ty 77 = true := by unfold tI; rw [ty_77]; rfl
theorem tZ_77 : tZ ty 77 = some [.d (.c (Go.Value.nilFunc))] := by unfold tZ; rw [ty_77]; rfl
theorem tK_78 : tK ty 78 = .fn := by unfold tK; rw [ty_78]; rfl
theorem tS_78 : tS ty 78 = 1 := by unfold tS; rw [ty_78]
theorem tB_78 : tB ty 78 = 8 := by unfold tB; rw [ty_78]
theorem tG_78 : tG ty 78 = false := by unfold tG; rw [ty_78]; rfl
theorem tI_78 : tI ty 78 = true := by unfold tI; rw [ty_78]; rfl
theorem tZ_78 : tZ ty 78 = some [.d (.c (Go.Value.nilFunc))] := by unfold tZ; rw [ty_78]; rfl
theorem tK_79 : tK ty 79 = .st := by unfold tK; rw [ty_79]; rfl
theorem tS_79 : tS ty 79 = 6 := by unfold tS; rw [ty_79]
theorem tB_79 : tB ty 79 = 88 := by unfold tB; rw [ty_79]
theorem tG_79 : tG ty 79 = true := by unfold tG; rw [ty_79]; rfl
theorem tI_79 : tI ty 79 = true := by unfold tI; rw [ty_79]; rfl
theorem tZ_79 : tZ ty 79 = some [.d (.c (Go.Value.int Go.IntKind.i64 0)), .d (.c (Go.Value.string { data := #[] })), .d (.c (Go.Value.string { data := #[] })), .d (.c (Go.Value.string { data := #[] })), .d (.c (Go.Value.slice none 0 0)), .d (.c (Go.Value.int Go.IntKind.i64 0))] := by unfold tZ; rw [ty_79]; rfl
theorem fieldOf_79_0 : fieldOf ty 79 0 = some (0, 3) := by unfold fieldOf; rw [ty_79]; rfl
theorem fieldOf_79_1 : fieldOf ty 79 1 = some (1, 32) := by unfold fieldOf; rw [ty_79]; rfl
theorem fieldOf_79_2 : fieldOf ty 79 2 = some (5, 3) := by unfold fieldOf; rw [ty_79]; rfl
theorem tP_79 : tP ty 79 = some [(0, 1), (1, 4), (5, 1)] := by unfold tP; rw [ty_79]; simp only [placesA, List.toList_toArray, ty_3, ty_32]
theorem tK_80 : tK ty 80 = .st := by unfold tK; rw [ty_80]; rfl
theorem tS_80 : tS ty 80 = 6 := by unfold tS; rw [ty_80]
theorem tB_80 : tB ty 80 = 88 := by unfold tB; rw [ty_80]
theorem tG_80 : tG ty 80 = true := by unfold tG; rw [ty_80]; rfl
theorem tI_80 : tI ty 80 = true := by unfold tI; rw [ty_80]; rfl
theorem tZ_80 : tZ ty 80 = some [.d (.c (Go.Value.int Go.IntKind.i64 0)), .d (.c (Go.Value.string { data := #[] })), .d (.c (Go.Value.string { data := #[] })), .d (.c (Go.Value.string { data := #[] })), .d (.c (Go.Value.slice none 0 0)), .d (.c (Go.Value.int Go.IntKind.i64 0))] := by unfold tZ; rw [ty_80]; rfl
theorem fieldOf_80_0 : fieldOf ty 80 0 = some (0, 3) := by unfold fieldOf; rw [ty_80]; rfl
theorem fieldOf_80_1 : fieldOf ty 80 1 = some (1, 32) := by unfold fieldOf; rw [ty_80]; rfl
theorem fieldOf_80_2 : fieldOf ty 80 2 = some (5, 3) := by unfold fieldOf; rw [ty_80]; rfl
theorem tP_80 : tP ty 80 = some [(0, 1), (1, 4), (5, 1)] := by unfold tP; rw [ty_80]; simp only [placesA, List.toList_toArray, ty_3, ty_32]
theorem tK_81 : tK ty 81 = .fn := by unfold tK; rw [ty_81]; rfl
theorem tS_81 : tS ty 81 = 1 := by unfold tS; rw [ty_81]
theorem tB_81 : tB ty 81 = 8 := by unfold tB; rw [ty_81]
theorem tG_81 : tG ty 81 = false := by unfold tG; rw [ty_81]; rfl
theorem tI_81 : tI ty 81 = true := by unfold tI; rw [ty_81]; rfl
theorem tZ_81 : tZ ty 81 = some [.d (.c (Go.Value.nilFunc))] := by unfold tZ; rw [ty_81]; rfl
theorem tK_82 : tK ty 82 = .fn := by unfold tK; rw [ty_82]; rfl
theorem tS_82 : tS ty 82 = 1 := by unfold tS; rw [ty_82]
theorem tB_82 : tB ty 82 = 8 := by unfold tB; rw [ty_82]
theorem tG_82 : tG ty 82 = false := by unfold tG; rw [ty_82]; rfl
theorem tI_82 : tI ty 82 = true := by unfold tI; rw [ty_82]; rfl
theorem tZ_82 : tZ ty 82 = some [.d (.c (Go.Value.nilFunc))] := by unfold tZ; rw [ty_82]; rfl
theorem tK_83 : tK ty 83 = .fn := by unfold tK; rw [ty_83]; rfl
theorem tS_83 : tS ty 83 = 1 := by unfold tS; rw [ty_83]
theorem tB_83 : tB ty 83 = 8 := by unfold tB; rw [ty_83]
theorem tG_83 : tG ty 83 = false := by unfold tG; rw [ty_83]; rfl
theorem tI_83 : tI ty 83 = true := by unfold tI; rw [ty_83]; rfl
theorem tZ_83 : tZ ty 83 = some [.d (.c (Go.Value.nilFunc))] := by unfold tZ; rw [ty_83]; rfl
theorem tK_84 : tK ty 84 = .st := by unfold tK; rw [ty_84]; rfl
theorem tS_84 : tS ty 84 = 3 := by unfold tS; rw [ty_84]
theorem tB_84 : tB ty 84 = 32 := by unfold tB; rw [ty_84]
theorem tG_84 : tG ty 84 = true := by unfold tG; rw [ty_84]; rfl
theorem tI_84 : tI ty 84 = true := by unfold tI; rw [ty_84]; rfl
theorem tZ_84 : tZ ty 84 = some [.d (.c (Go.Value.bool false)), .d (.c (Go.Value.int Go.IntKind.i64 0)), .d (.c (Go.Value.string { data := #[] }))] := by unfold tZ; rw [ty_84]; rfl
theorem tF_84 : tF ty 84 = some ([.bool, .int, .str]) := by unfold tF; kernel_rfl
theorem fieldOf_84_0 : fieldOf ty 84 0 = some (0, 4) := by unfold fieldOf; rw [ty_84]; rfl
theorem fieldOf_84_1 : fieldOf ty 84 1 = some (1, 3) := by unfold fieldOf; rw [ty_84]; rfl
theorem fieldOf_84_2 : fieldOf ty 84 2 = some (2, 9) := by unfold fieldOf; rw [ty_84]; rfl
theorem tP_84 : tP ty 84 = some [(0, 1), (1, 1), (2, 1)] := by unfold tP; rw [ty_84]; simp only [placesA, List.toList_toArray, ty_3, ty_4, ty_9]
theorem tK_85 : tK ty 85 = .st := by unfold tK; rw [ty_85]; rfl
theorem tS_85 : tS ty 85 = 3 := by unfold tS; rw [ty_85]
theorem tB_85 : tB ty 85 = 32 := by unfold tB; rw [ty_85]
theorem tG_85 : tG ty 85 = true := by unfold tG; rw [ty_85]; rfl
theorem tI_85 : tI ty 85 = true := by unfold tI; rw [ty_85]; rfl
theorem tZ_85 : tZ ty 85 = some [.d (.c (Go.Value.bool false)), .d (.c (Go.Value.int Go.IntKind.i64 0)), .d (.c (Go.Value.string { data := #[] }))] := by unfold tZ; rw [ty_85]; rfl
theorem tF_85 : tF ty 85 = some ([.bool, .int, .str]) := by unfold tF; kernel_rfl
theorem fieldOf_85_0 : fieldOf ty 85 0 = some (0, 4) := by unfold fieldOf; rw [ty_85]; rfl
theorem fieldOf_85_1 : fieldOf ty 85 1 = some (1, 3) := by unfold fieldOf; rw [ty_85]; rfl
theorem fieldOf_85_2 : fieldOf ty 85 2 = some (2, 9) := by unfold fieldOf; rw [ty_85]; rfl
theorem tP_85 : tP ty 85 = some [(0, 1), (1, 1), (2, 1)] := by unfold tP; rw [ty_85]; simp only [placesA, List.toList_toArray, ty_3, ty_4, ty_9]
theorem tK_86 : tK ty 86 = .fn := by unfold tK; rw [ty_86]; rfl
theorem tS_86 : tS ty 86 = 1 := by unfold tS; rw [ty_86]
theorem tB_86 : tB ty 86 = 8 := by unfold tB; rw [ty_86]
theorem tG_86 : tG ty 86 = false := by unfold tG; rw [ty_86]; rfl
theorem tI_86 : tI ty 86 = true := by unfold tI; rw [ty_86]; rfl
theorem tZ_86 : tZ ty 86 = some [.d (.c (Go.Value.nilFunc))] := by unfold tZ; rw [ty_86]; rfl
theorem tK_87 : tK ty 87 = .st := by unfold tK; rw [ty_87]; rfl
theorem tS_87 : tS ty 87 = 2 := by unfold tS; rw [ty_87]
theorem tB_87 : tB ty 87 = 32 := by unfold tB; rw [ty_87]
theorem tG_87 : tG ty 87 = true := by unfold tG; rw [ty_87]; rfl
theorem tI_87 : tI ty 87 = true := by unfold tI; rw [ty_87]; rfl
theorem tZ_87 : tZ ty 87 = some [.d (.c (Go.Value.slice none 0 0)), .d (.c (Go.Value.int Go.IntKind.i64 0))] := by unfold tZ; rw [ty_87]; rfl
theorem fieldOf_87_0 : fieldOf ty 87 0 = some (0, 22) := by unfold fieldOf; rw [ty_87]; rfl
theorem fieldOf_87_1 : fieldOf ty 87 1 = some (1, 3) := by unfold fieldOf; rw [ty_87]; rfl
theorem tP_87 : tP ty 87 = some [(0, 1), (1, 1)] := by unfold tP; rw [ty_87]; simp only [placesA, List.toList_toArray, ty_22, ty_3]
theorem tK_88 : tK ty 88 = .st := by unfold tK; rw [ty_88]; rfl
theorem tS_88 : tS ty 88 = 2 := by unfold tS; rw [ty_88]
theorem tB_88 : tB ty 88 = 32 := by unfold tB; rw [ty_88]
theorem tG_88 : tG ty 88 = true := by unfold tG; rw [ty_88]; rfl
theorem tI_88 : tI ty 88 = true := by unfold tI; rw [ty_88]; rfl
theorem tZ_88 : tZ ty 88 = some [.d (.c (Go.Value.slice none 0 0)), .d (.c (Go.Value.int Go.IntKind.i64 0))] := by unfold tZ; rw [ty_88]; rfl
theorem fieldOf_88_0 : fieldOf ty 88 0 = some (0, 22) := by unfold fieldOf; rw [ty_88]; rfl
theorem fieldOf_88_1 : fieldOf ty 88 1 = some (1, 3) := by unfold fieldOf; rw [ty_88]; rfl
theorem tP_88 : tP ty 88 = some [(0, 1), (1, 1)] := by unfold tP; rw [ty_88]; simp only [placesA, List.toList_toArray, ty_22, ty_3]
theorem tK_89 : tK ty 89 = .fn := by unfold tK; rw [ty_89]; rfl
theorem tS_89 : tS ty 89 = 1 := by unfold tS; rw [ty_89]
theorem tB_89 : tB ty 89 = 8 := by unfold tB; rw [ty_89]
theorem tG_89 : tG ty 89 = false := by unfold tG; rw [ty_89]; rfl
theorem tI_89 : tI ty 89 = true := by unfold tI; rw [ty_89]; rfl
theorem tZ_89 : tZ ty 89 = some [.d (.c (Go.Value.nilFunc))] := by unfold tZ; rw [ty_89]; rfl
theorem tK_90 : tK ty 90 = .fn := by unfold tK; rw [ty_90]; rfl
theorem tS_90 : tS ty 90 = 1 := by unfold tS; rw [ty_90]
theorem tB_90 : tB ty 90 = 8 := by unfold tB; rw [ty_90]
theorem tG_90 : tG ty 90 = false := by unfold tG; rw [ty_90]; rfl
theorem tI_90 : tI ty 90 = true := by unfold tI; rw [ty_90]; rfl
theorem tZ_90 : tZ ty 90 = some [.d (.c (Go.Value.nilFunc))] := by unfold tZ; rw [ty_90]; rfl
theorem tK_91 : tK ty 91 = .st := by unfold tK; rw [ty_91]; rfl
theorem tS_91 : tS ty 91 = 2 := by unfold tS; rw [ty_91]
theorem tB_91 : tB ty 91 = 32 := by unfold tB; rw [ty_91]
theorem tG_91 : tG ty 91 = true := by unfold tG; rw [ty_91]; rfl
theorem tI_91 : tI ty 91 = true := by unfold tI; rw [ty_91]; rfl
theorem tZ_91 : tZ ty 91 = some [.d (.c (Go.Value.slice none 0 0)), .d (.c (Go.Value.int Go.IntKind.i64 0))] := by unfold tZ; rw [ty_91]; rfl
theorem fieldOf_91_0 : fieldOf ty 91 0 = some (0, 22) := by unfold fieldOf; rw [ty_91]; rfl
theorem fieldOf_91_1 : fieldOf ty 91 1 = some (1, 3) := by unfold fieldOf; rw [ty_91]; rfl
theorem tP_91 : tP ty 91 = some [(0, 1), (1, 1)] := by unfold tP; rw [ty_91]; simp only [placesA, List.toList_toArray, ty_22, ty_3]
theorem tK_92 : tK ty 92 = .st := by unfold tK; rw [ty_92]; rfl
theorem tS_92 : tS ty 92 = 2 := by unfold tS; rw [ty_92]
theorem tB_92 : tB ty 92 = 32 := by unfold tB; rw [ty_92]
theorem tG_92 : tG ty 92 = true := by unfold tG; rw [ty_92]; rfl
theorem tI_92 : tI ty 92 = true := by unfold tI; rw [ty_92]; rfl
theorem tZ_92 : tZ ty 92 = some [.d (.c (Go.Value.slice none 0 0)), .d (.c (Go.Value.int Go.IntKind.i64 0))] := by unfold tZ; rw [ty_92]; rfl
theorem fieldOf_92_0 : fieldOf ty 92 0 = some (0, 22) := by unfold fieldOf; rw [ty_92]; rfl
theorem fieldOf_92_1 : fieldOf ty 92 1 = some (1, 3) := by unfold fieldOf; rw [ty_92]; rfl
theorem tP_92 : tP ty 92 = some [(0, 1), (1, 1)] := by unfold tP; rw [ty_92]; simp only [placesA, List.toList_toArray, ty_22, ty_3]
theorem tK_93 : tK ty 93 = .arr 2 25 := by unfold tK; rw [ty_93]; rfl
theorem tS_93 : tS ty 93 = 2 := by unfold tS; rw [ty_93]
theorem tB_93 : tB ty 93 = 16 := by unfold tB; rw [ty_93]
theorem tG_93 : tG ty 93 = true := by unfold tG; rw [ty_93]; rfl
theorem tI_93 : tI ty 93 = true := by unfold tI; rw [ty_93]; rfl
theorem tZ_93 : tZ ty 93 = some [.d (.c (Go.Value.pointer none)), .d (.c (Go.Value.pointer none))] := by unfold tZ; rw [ty_93]; rfl
theorem tK_95 : tK ty 95 = .fn := by unfold tK; rw [ty_95]; rfl
theorem tS_95 : tS ty 95 = 1 := by unfold tS; rw [ty_95]
theorem tB_95 : tB ty 95 = 8 := by unfold tB; rw [ty_95]
theorem tG_95 : tG ty 95 = false := by unfold tG; rw [ty_95]; rfl
theorem tI_95 : tI ty 95 = true := by unfold tI; rw [ty_95]; rfl
theorem tZ_95 : tZ ty 95 = some [.d (.c (Go.Value.nilFunc))] := by unfold tZ; rw [ty_95]; rfl
theorem tK_96 : tK ty 96 = .fn := by unfold tK; rw [ty_96]; rfl
theorem tS_96 : tS ty 96 = 1 := by unfold tS; rw [ty_96]
theorem tB_96 : tB ty 96 = 8 := by unfold tB; rw [ty_96]
theorem tG_96 : tG ty 96 = false := by unfold tG; rw [ty_96]; rfl
theorem tI_96 : tI ty 96 = true := by unfold tI; rw [ty_96]; rfl
theorem tZ_96 : tZ ty 96 = some [.d (.c (Go.Value.nilFunc))] := by unfold tZ; rw [ty_96]; rfl
theorem tK_97 : tK ty 97 = .fn := by unfold tK; rw [ty_97]; rfl
theorem tS_97 : tS ty 97 = 1 := by unfold tS; rw [ty_97]
theorem tB_97 : tB ty 97 = 8 := by unfold tB; rw [ty_97]
theorem tG_97 : tG ty 97 = false := by unfold tG; rw [ty_97]; rfl
theorem tI_97 : tI ty 97 = true := by unfold tI; rw [ty_97]; rfl
theorem tZ_97 : tZ ty 97 = some [.d (.c (Go.Value.nilFunc))] := by unfold tZ; rw [ty_97]; rfl
theorem tK_98 : tK ty 98 = .fn := by unfold tK; rw [ty_98]; rfl
theorem tS_98 : tS ty 98 = 1 := by unfold tS; rw [ty_98]
theorem tB_98 : tB ty 98 = 8 := by unfold tB; rw [ty_98]
theorem tG_98 : tG ty 98 = false := by unfold tG; rw [ty_98]; rfl
theorem tI_98 : tI ty 98 = true := by unfold tI; rw [ty_98]; rfl
theorem tZ_98 : tZ ty 98 = some [.d (.c (Go.Value.nilFunc))] := by unfold tZ; rw [ty_98]; rfl
theorem tK_99 : tK ty 99 = .fn := by unfold tK; rw [ty_99]; rfl
theorem tS_99 : tS ty 99 = 1 := by unfold tS; rw [ty_99]
theorem tB_99 : tB ty 99 = 8 := by unfold tB; rw [ty_99]
theorem tG_99 : tG ty 99 = false := by unfold tG; rw [ty_99]; rfl
theorem tI_99 : tI ty 99 = true := by unfold tI; rw [ty_99]; rfl
theorem tZ_99 : tZ ty 99 = some [.d (.c (Go.Value.nilFunc))] := by unfold tZ; rw [ty_99]; rfl
theorem tK_100 : tK ty 100 = .fn := by unfold tK; rw [ty_100]; rfl
theorem tS_100 : tS ty 100 = 1 := by unfold tS; rw [ty_100]
theorem tB_100 : tB ty 100 = 8 := by unfold tB; rw [ty_100]
theorem tG_100 : tG ty 100 = false := by unfold tG; rw [ty_100]; rfl
theorem tI_100 : tI ty 100 = true := by unfold tI; rw [ty_100]; rfl
theorem tZ_100 : tZ ty 100 = some [.d (.c (Go.Value.nilFunc))] := by unfold tZ; rw [ty_100]; rfl
theorem tK_101 : tK ty 101 = .st := by unfold tK; rw [ty_101]; rfl
theorem tS_101 : tS ty 101 = 6 := by unfold tS; rw [ty_101]
theorem tB_101 : tB ty 101 = 104 := by unfold tB; rw [ty_101]
theorem tG_101 : tG ty 101 = true := by unfold tG; rw [ty_101]; rfl
theorem tI_101 : tI ty 101 = true := by unfold tI; rw [ty_101]; rfl
theorem tZ_101 : tZ ty 101 = some [.d (.c (Go.Value.int Go.IntKind.i64 0)), .d (.c (Go.Value.string { data := #[] })), .d (.c (Go.Value.string { data := #[] })), .d (.c (Go.Value.string { data := #[] })), .d (.c (Go.Value.slice none 0 0)), .d (.c (Go.Value.slice none 0 0))] := by unfold tZ; rw [ty_101]; rfl
theorem fieldOf_101_0 : fieldOf ty 101 0 = some (0, 3) := by unfold fieldOf; rw [ty_101]; rfl
theorem fieldOf_101_1 : fieldOf ty 101 1 = some (1, 32) := by unfold fieldOf; rw [ty_101]; rfl
theorem fieldOf_101_2 : fieldOf ty 101 2 = some (5, 22) := by unfold fieldOf; rw [ty_101]; rfl
theorem tP_101 : tP ty 101 = some [(0, 1), (1, 4), (5, 1)] := by unfold tP; rw [ty_101]; simp only [placesA, List.toList_toArray, ty_22, ty_3, ty_32]
theorem tK_102 : tK ty 102 = .st := by unfold tK; rw [ty_102]; rfl
theorem tS_102 : tS ty 102 = 6 := by unfold tS; rw [ty_102]
theorem tB_102 : tB ty 102 = 104 := by unfold tB; rw [ty_102]
theorem tG_102 : tG ty 102 = true := by unfold tG; rw [ty_102]; rfl
theorem tI_102 : tI ty 102 = true := by unfold tI; rw [ty_102]; rfl
theorem tZ_102 : tZ ty 102 = some [.d (.c (Go.Value.int Go.IntKind.i64 0)), .d (.c (Go.Value.string { data := #[] })), .d (.c (Go.Value.string { data := #[] })), .d (.c (Go.Value.string { data := #[] })), .d (.c (Go.Value.slice none 0 0)), .d (.c (Go.Value.slice none 0 0))] := by unfold tZ; rw [ty_102]; rfl
theorem fieldOf_102_0 : fieldOf ty 102 0 = some (0, 3) := by unfold fieldOf; rw [ty_102]; rfl
theorem fieldOf_102_1 : fieldOf ty 102 1 = some (1, 32) := by unfold fieldOf; rw [ty_102]; rfl
theorem fieldOf_102_2 : fieldOf ty 102 2 = some (5, 22) := by unfold fieldOf; rw [ty_102]; rfl
theorem tP_102 : tP ty 102 = some [(0, 1), (1, 4), (5, 1)] := by unfold tP; rw [ty_102]; simp only [placesA, List.toList_toArray, ty_22, ty_3, ty_32]
theorem tK_103 : tK ty 103 = .fn := by unfold tK; rw [ty_103]; rfl
theorem tS_103 : tS ty 103 = 1 := by unfold tS; rw [ty_103]
theorem tB_103 : tB ty 103 = 8 := by unfold tB; rw [ty_103]
theorem tG_103 : tG ty 103 = false := by unfold tG; rw [ty_103]; rfl
theorem tI_103 : tI ty 103 = true := by unfold tI; rw [ty_103]; rfl
theorem tZ_103 : tZ ty 103 = some [.d (.c (Go.Value.nilFunc))] := by unfold tZ; rw [ty_103]; rfl
theorem tK_104 : tK ty 104 = .fn := by unfold tK; rw [ty_104]; rfl
theorem tS_104 : tS ty 104 = 1 := by unfold tS; rw [ty_104]
theorem tB_104 : tB ty 104 = 8 := by unfold tB; rw [ty_104]
theorem tG_104 : tG ty 104 = false := by unfold tG; rw [ty_104]; rfl
theorem tI_104 : tI ty 104 = true := by unfold tI; rw [ty_104]; rfl
theorem tZ_104 : tZ ty 104 = some [.d (.c (Go.Value.nilFunc))] := by unfold tZ; rw [ty_104]; rfl
theorem tK_105 : tK ty 105 = .fn := by unfold tK; rw [ty_105]; rfl
theorem tS_105 : tS ty 105 = 1 := by unfold tS; rw [ty_105]
theorem tB_105 : tB ty 105 = 8 := by unfold tB; rw [ty_105]
theorem tG_105 : tG ty 105 = false := by unfold tG; rw [ty_105]; rfl
theorem tI_105 : tI ty 105 = true := by unfold tI; rw [ty_105]; rfl
theorem tZ_105 : tZ ty 105 = some [.d (.c (Go.Value.nilFunc))] := by unfold tZ; rw [ty_105]; rfl
theorem tK_106 : tK ty 106 = .fn := by unfold tK; rw [ty_106]; rfl
theorem tS_106 : tS ty 106 = 1 := by unfold tS; rw [ty_106]
theorem tB_106 : tB ty 106 = 8 := by unfold tB; rw [ty_106]
theorem tG_106 : tG ty 106 = false := by unfold tG; rw [ty_106]; rfl
theorem tI_106 : tI ty 106 = true := by unfold tI; rw [ty_106]; rfl
theorem tZ_106 : tZ ty 106 = some [.d (.c (Go.Value.nilFunc))] := by unfold tZ; rw [ty_106]; rfl
theorem tK_107 : tK ty 107 = .fn := by unfold tK; rw [ty_107]; rfl
theorem tS_107 : tS ty 107 = 1 := by unfold tS; rw [ty_107]
theorem tB_107 : tB ty 107 = 8 := by unfold tB; rw [ty_107]
theorem tG_107 : tG ty 107 = false := by unfold tG; rw [ty_107]; rfl
theorem tI_107 : tI ty 107 = true := by unfold tI; rw [ty_107]; rfl
theorem tZ_107 : tZ ty 107 = some [.d (.c (Go.Value.nilFunc))] := by unfold tZ; rw [ty_107]; rfl
theorem tK_108 : tK ty 108 = .fn := by unfold tK; rw [ty_108]; rfl
theorem tS_108 : tS ty 108 = 1 := by unfold tS; rw [ty_108]
theorem tB_108 : tB ty 108 = 8 := by unfold tB; rw [ty_108]
theorem tG_108 : tG ty 108 = false := by unfold tG; rw [ty_108]; rfl
theorem tI_108 : tI ty 108 = true := by unfold tI; rw [ty_108]; rfl
theorem tZ_108 : tZ ty 108 = some [.d (.c (Go.Value.nilFunc))] := by unfold tZ; rw [ty_108]; rfl
theorem tK_109 : tK ty 109 = .fn := by unfold tK; rw [ty_109]; rfl
theorem tS_109 : tS ty 109 = 1 := by unfold tS; rw [ty_109]
theorem tB_109 : tB ty 109 = 8 := by unfold tB; rw [ty_109]
theorem tG_109 : tG ty 109 = false := by unfold tG; rw [ty_109]; rfl
theorem tI_109 : tI ty 109 = true := by unfold tI; rw [ty_109]; rfl
theorem tZ_109 : tZ ty 109 = some [.d (.c (Go.Value.nilFunc))] := by unfold tZ; rw [ty_109]; rfl
theorem tK_110 : tK ty 110 = .fn := by unfold tK; rw [ty_110]; rfl
theorem tS_110 : tS ty 110 = 1 := by unfold tS; rw [ty_110]
theorem tB_110 : tB ty 110 = 8 := by unfold tB; rw [ty_110]
theorem tG_110 : tG ty 110 = false := by unfold tG; rw [ty_110]; rfl
theorem tI_110 : tI ty 110 = true := by unfold tI; rw [ty_110]; rfl
theorem tZ_110 : tZ ty 110 = some [.d (.c (Go.Value.nilFunc))] := by unfold tZ; rw [ty_110]; rfl
theorem tK_111 : tK ty 111 = .fn := by unfold tK; rw [ty_111]; rfl
theorem tS_111 : tS ty 111 = 1 := by unfold tS; rw [ty_111]
theorem tB_111 : tB ty 111 = 8 := by unfold tB; rw [ty_111]
theorem tG_111 : tG ty 111 = false := by unfold tG; rw [ty_111]; rfl
theorem tI_111 : tI ty 111 = true := by unfold tI; rw [ty_111]; rfl
theorem tZ_111 : tZ ty 111 = some [.d (.c (Go.Value.nilFunc))] := by unfold tZ; rw [ty_111]; rfl
theorem tK_112 : tK ty 112 = .fn := by unfold tK; rw [ty_112]; rfl
theorem tS_112 : tS ty 112 = 1 := by unfold tS; rw [ty_112]
theorem tB_112 : tB ty 112 = 8 := by unfold tB; rw [ty_112]
theorem tG_112 : tG ty 112 = false := by unfold tG; rw [ty_112]; rfl
theorem tI_112 : tI ty 112 = true := by unfold tI; rw [ty_112]; rfl
theorem tZ_112 : tZ ty 112 = some [.d (.c (Go.Value.nilFunc))] := by unfold tZ; rw [ty_112]; rfl
theorem tK_113 : tK ty 113 = .fn := by unfold tK; rw [ty_113]; rfl
theorem tS_113 : tS ty 113 = 1 := by unfold tS; rw [ty_113]
theorem tB_113 : tB ty 113 = 8 := by unfold tB; rw [ty_113]
theorem tG_113 : tG ty 113 = false := by unfold tG; rw [ty_113]; rfl
theorem tI_113 : tI ty 113 = true := by unfold tI; rw [ty_113]; rfl
theorem tZ_113 : tZ ty 113 = some [.d (.c (Go.Value.nilFunc))] := by unfold tZ; rw [ty_113]; rfl
theorem tK_114 : tK ty 114 = .fn := by unfold tK; rw [ty_114]; rfl
theorem tS_114 : tS ty 114 = 1 := by unfold tS; rw [ty_114]
theorem tB_114 : tB ty 114 = 8 := by unfold tB; rw [ty_114]
theorem tG_114 : tG ty 114 = false := by unfold tG; rw [ty_114]; rfl
theorem tI_114 : tI ty 114 = true := by unfold tI; rw [ty_114]; rfl
theorem tZ_114 : tZ ty 114 = some [.d (.c (Go.Value.nilFunc))] := by unfold tZ; rw [ty_114]; rfl
theorem tK_115 : tK ty 115 = .fn := by unfold tK; rw [ty_115]; rfl
theorem tS_115 : tS ty 115 = 1 := by unfold tS; rw [ty_115]
theorem tB_115 : tB ty 115 = 8 := by unfold tB; rw [ty_115]
theorem tG_115 : tG ty 115 = false := by unfold tG; rw [ty_115]; rfl
theorem tI_115 : tI ty 115 = true := by unfold tI; rw [ty_115]; rfl
theorem tZ_115 : tZ ty 115 = some [.d (.c (Go.Value.nilFunc))] := by unfold tZ; rw [ty_115]; rfl
theorem tK_116 : tK ty 116 = .fn := by unfold tK; rw [ty_116]; rfl
theorem tS_116 : tS ty 116 = 1 := by unfold tS; rw [ty_116]
theorem tB_116 : tB ty 116 = 8 := by unfold tB; rw [ty_116]
theorem tG_116 : tG ty 116 = false := by unfold tG; rw [ty_116]; rfl
theorem tI_116 : tI ty 116 = true := by unfold tI; rw [ty_116]; rfl
theorem tZ_116 : tZ ty 116 = some [.d (.c (Go.Value.nilFunc))] := by unfold tZ; rw [ty_116]; rfl
theorem tK_117 : tK ty 117 = .fn := by unfold tK; rw [ty_117]; rfl
theorem tS_117 : tS ty 117 = 1 := by unfold tS; rw [ty_117]
theorem tB_117 : tB ty 117 = 8 := by unfold tB; rw [ty_117]
theorem tG_117 : tG ty 117 = false := by unfold tG; rw [ty_117]; rfl
theorem tI_117 : tI ty 117 = true := by unfold tI; rw [ty_117]; rfl
theorem tZ_117 : tZ ty 117 = some [.d (.c (Go.Value.nilFunc))] := by unfold tZ; rw [ty_117]; rfl
theorem tK_118 : tK ty 118 = .fn := by unfold tK; rw [ty_118]; rfl
theorem tS_118 : tS ty 118 = 1 := by unfold tS; rw [ty_118]
theorem tB_118 : tB ty 118 = 8 := by unfold tB; rw [ty_118]
theorem tG_118 : tG ty 118 = false := by unfold tG; rw [ty_118]; rfl
theorem tI_118 : tI ty 118 = true := by unfold tI; rw [ty_118]; rfl
theorem tZ_118 : tZ ty 118 = some [.d (.c (Go.Value.nilFunc))] := by unfold tZ; rw [ty_118]; rfl
theorem tK_119 : tK ty 119 = .fn := by unfold tK; rw [ty_119]; rfl
theorem tS_119 : tS ty 119 = 1 := by unfold tS; rw [ty_119]
theorem tB_119 : tB ty 119 = 8 := by unfold tB; rw [ty_119]
theorem tG_119 : tG ty 119 = false := by unfold tG; rw [ty_119]; rfl
theorem tI_119 : tI ty 119 = true := by unfold tI; rw [ty_119]; rfl
theorem tZ_119 : tZ ty 119 = some [.d (.c (Go.Value.nilFunc))] := by unfold tZ; rw [ty_119]; rfl
theorem tK_120 : tK ty 120 = .fn := by unfold tK; rw [ty_120]; rfl
theorem tS_120 : tS ty 120 = 1 := by unfold tS; rw [ty_120]
theorem tB_120 : tB ty 120 = 8 := by unfold tB; rw [ty_120]
theorem tG_120 : tG ty 120 = false := by unfold tG; rw [ty_120]; rfl
theorem tI_120 : tI ty 120 = true := by unfold tI; rw [ty_120]; rfl
theorem tZ_120 : tZ ty 120 = some [.d (.c (Go.Value.nilFunc))] := by unfold tZ; rw [ty_120]; rfl
theorem tK_121 : tK ty 121 = .fn := by unfold tK; rw [ty_121]; rfl
theorem tS_121 : tS ty 121 = 1 := by unfold tS; rw [ty_121]
theorem tB_121 : tB ty 121 = 8 := by unfold tB; rw [ty_121]
theorem tG_121 : tG ty 121 = false := by unfold tG; rw [ty_121]; rfl
theorem tI_121 : tI ty 121 = true := by unfold tI; rw [ty_121]; rfl
theorem tZ_121 : tZ ty 121 = some [.d (.c (Go.Value.nilFunc))] := by unfold tZ; rw [ty_121]; rfl
theorem tK_122 : tK ty 122 = .fn := by unfold tK; rw [ty_122]; rfl
theorem tS_122 : tS ty 122 = 1 := by unfold tS; rw [ty_122]
theorem tB_122 : tB ty 122 = 8 := by unfold tB; rw [ty_122]
theorem tG_122 : tG ty 122 = false := by unfold tG; rw [ty_122]; rfl
theorem tI_122 : tI ty 122 = true := by unfold tI; rw [ty_122]; rfl
theorem tZ_122 : tZ ty 122 = some [.d (.c (Go.Value.nilFunc))] := by unfold tZ; rw [ty_122]; rfl
theorem tK_123 : tK ty 123 = .int .u64 := by unfold tK; rw [ty_123]; rfl
theorem tS_123 : tS ty 123 = 1 := by unfold tS; rw [ty_123]
theorem tB_123 : tB ty 123 = 8 := by unfold tB; rw [ty_123]
theorem tG_123 : tG ty 123 = false := by unfold tG; rw [ty_123]; rfl
theorem tI_123 : tI ty 123 = true := by unfold tI; rw [ty_123]; rfl
theorem tZ_123 : tZ ty 123 = some [.d (.c (Go.Value.int Go.IntKind.u64 0))] := by unfold tZ; rw [ty_123]; rfl
theorem tK_124 : tK ty 124 = .fn := by unfold tK; rw [ty_124]; rfl
theorem tS_124 : tS ty 124 = 1 := by unfold tS; rw [ty_124]
theorem tB_124 : tB ty 124 = 8 := by unfold tB; rw [ty_124]
theorem tG_124 : tG ty 124 = false := by unfold tG; rw [ty_124]; rfl
theorem tI_124 : tI ty 124 = true := by unfold tI; rw [ty_124]; rfl
theorem tZ_124 : tZ ty 124 = some [.d (.c (Go.Value.nilFunc))] := by unfold tZ; rw [ty_124]; rfl
theorem tK_125 : tK ty 125 = .fn := by unfold tK; rw [ty_125]; rfl
theorem tS_125 : tS ty 125 = 1 := by unfold tS; rw [ty_125]
theorem tB_125 : tB ty 125 = 8 := by unfold tB; rw [ty_125]
theorem tG_125 : tG ty 125 = false := by unfold tG; rw [ty_125]; rfl
theorem tI_125 : tI ty 125 = true := by unfold tI; rw [ty_125]; rfl
theorem tZ_125 : tZ ty 125 = some [.d (.c (Go.Value.nilFunc))] := by unfold tZ; rw [ty_125]; rfl
theorem tK_126 : tK ty 126 = .fn := by unfold tK; rw [ty_126]; rfl
theorem tS_126 : tS ty 126 = 1 := by unfold tS; rw [ty_126]
theorem tB_126 : tB ty 126 = 8 := by unfold tB; rw [ty_126]
theorem tG_126 : tG ty 126 = false := by unfold tG; rw [ty_126]; rfl
theorem tI_126 : tI ty 126 = true := by unfold tI; rw [ty_126]; rfl
theorem tZ_126 : tZ ty 126 = some [.d (.c (Go.Value.nilFunc))] := by unfold tZ; rw [ty_126]; rfl
theorem tK_127 : tK ty 127 = .fn := by unfold tK; rw [ty_127]; rfl
theorem tS_127 : tS ty 127 = 1 := by unfold tS; rw [ty_127]
theorem tB_127 : tB ty 127 = 8 := by unfold tB; rw [ty_127]
theorem tG_127 : tG ty 127 = false := by unfold tG; rw [ty_127]; rfl
theorem tI_127 : tI ty 127 = true := by unfold tI; rw [ty_127]; rfl
theorem tZ_127 : tZ ty 127 = some [.d (.c (Go.Value.nilFunc))] := by unfold tZ; rw [ty_127]; rfl
theorem tK_128 : tK ty 128 = .fn := by unfold tK; rw [ty_128]; rfl
theorem tS_128 : tS ty 128 = 1 := by unfold tS; rw [ty_128]
theorem tB_128 : tB ty 128 = 8 := by unfold tB; rw [ty_128]
theorem tG_128 : tG ty 128 = false := by unfold tG; rw [ty_128]; rfl
theorem tI_128 : tI ty 128 = true := by unfold tI; rw [ty_128]; rfl
theorem tZ_128 : tZ ty 128 = some [.d (.c (Go.Value.nilFunc))] := by unfold tZ; rw [ty_128]; rfl
theorem tK_129 : tK ty 129 = .fn := by unfold tK; rw [ty_129]; rfl
theorem tS_129 : tS ty 129 = 1 := by unfold tS; rw [ty_129]
theorem tB_129 : tB ty 129 = 8 := by unfold tB; rw [ty_129]
theorem tG_129 : tG ty 129 = false := by unfold tG; rw [ty_129]; rfl
theorem tI_129 : tI ty 129 = true := by unfold tI; rw [ty_129]; rfl
theorem tZ_129 : tZ ty 129 = some [.d (.c (Go.Value.nilFunc))] := by unfold tZ; rw [ty_129]; rfl
theorem tK_132 : tK ty 132 = .arr 0 16 := by unfold tK; rw [ty_132]; rfl
theorem tS_132 : tS ty 132 = 0 := by unfold tS; rw [ty_132]
theorem tB_132 : tB ty 132 = 0 := by unfold tB; rw [ty_132]
theorem tG_132 : tG ty 132 = true := by unfold tG; rw [ty_132]; rfl
theorem tI_132 : tI ty 132 = true := by unfold tI; rw [ty_132]; rfl
theorem tZ_132 : tZ ty 132 = some [] := by unfold tZ; rw [ty_132]; rfl
theorem tK_135 : tK ty 135 = .int .u32 := by unfold tK; rw [ty_135]; rfl
theorem tS_135 : tS ty 135 = 1 := by unfold tS; rw [ty_135]
theorem tB_135 : tB ty 135 = 4 := by unfold tB; rw [ty_135]
theorem tG_135 : tG ty 135 = false := by unfold tG; rw [ty_135]; rfl
theorem tI_135 : tI ty 135 = true := by unfold tI; rw [ty_135]; rfl
theorem tZ_135 : tZ ty 135 = some [.d (.c (Go.Value.int Go.IntKind.u32 0))] := by unfold tZ; rw [ty_135]; rfl
theorem tK_136 : tK ty 136 = .int .u8 := by unfold tK; rw [ty_136]; rfl
theorem tS_136 : tS ty 136 = 1 := by unfold tS; rw [ty_136]
theorem tB_136 : tB ty 136 = 1 := by unfold tB; rw [ty_136]
theorem tG_136 : tG ty 136 = false := by unfold tG; rw [ty_136]; rfl
theorem tI_136 : tI ty 136 = true := by unfold tI; rw [ty_136]; rfl
theorem tZ_136 : tZ ty 136 = some [.d (.c (Go.Value.int Go.IntKind.u8 0))] := by unfold tZ; rw [ty_136]; rfl
theorem tK_137 : tK ty 137 = .int .u8 := by unfold tK; rw [ty_137]; rfl
theorem tS_137 : tS ty 137 = 1 := by unfold tS; rw [ty_137]
theorem tB_137 : tB ty 137 = 1 := by unfold tB; rw [ty_137]
theorem tG_137 : tG ty 137 = false := by unfold tG; rw [ty_137]; rfl
theorem tI_137 : tI ty 137 = true := by unfold tI; rw [ty_137]; rfl
theorem tZ_137 : tZ ty 137 = some [.d (.c (Go.Value.int Go.IntKind.u8 0))] := by unfold tZ; rw [ty_137]; rfl
theorem tK_138 : tK ty 138 = .fn := by unfold tK; rw [ty_138]; rfl
theorem tS_138 : tS ty 138 = 1 := by unfold tS; rw [ty_138]
theorem tB_138 : tB ty 138 = 8 := by unfold tB; rw [ty_138]
theorem tG_138 : tG ty 138 = false := by unfold tG; rw [ty_138]; rfl
theorem tI_138 : tI ty 138 = true := by unfold tI; rw [ty_138]; rfl
theorem tZ_138 : tZ ty 138 = some [.d (.c (Go.Value.nilFunc))] := by unfold tZ; rw [ty_138]; rfl
theorem tK_139 : tK ty 139 = .ptr := by unfold tK; rw [ty_139]; rfl
theorem tS_139 : tS ty 139 = 1 := by unfold tS; rw [ty_139]
theorem tB_139 : tB ty 139 = 8 := by unfold tB; rw [ty_139]
theorem tG_139 : tG ty 139 = false := by unfold tG; rw [ty_139]; rfl
theorem tI_139 : tI ty 139 = true := by unfold tI; rw [ty_139]; rfl
theorem tZ_139 : tZ ty 139 = some [.d (.c (Go.Value.pointer none))] := by unfold tZ; rw [ty_139]; rfl
theorem tK_140 : tK ty 140 = .int .i32 := by unfold tK; rw [ty_140]; rfl
theorem tS_140 : tS ty 140 = 1 := by unfold tS; rw [ty_140]
theorem tB_140 : tB ty 140 = 4 := by unfold tB; rw [ty_140]
theorem tG_140 : tG ty 140 = false := by unfold tG; rw [ty_140]; rfl
theorem tI_140 : tI ty 140 = true := by unfold tI; rw [ty_140]; rfl
theorem tZ_140 : tZ ty 140 = some [.d (.c (Go.Value.int Go.IntKind.i32 0))] := by unfold tZ; rw [ty_140]; rfl
theorem tK_141 : tK ty 141 = .int .i32 := by unfold tK; rw [ty_141]; rfl
theorem tS_141 : tS ty 141 = 1 := by unfold tS; rw [ty_141]
theorem tB_141 : tB ty 141 = 4 := by unfold tB; rw [ty_141]
theorem tG_141 : tG ty 141 = false := by unfold tG; rw [ty_141]; rfl
theorem tI_141 : tI ty 141 = true := by unfold tI; rw [ty_141]; rfl
theorem tZ_141 : tZ ty 141 = some [.d (.c (Go.Value.int Go.IntKind.i32 0))] := by unfold tZ; rw [ty_141]; rfl
theorem ty_lit : ty.lit = false := rfl
theorem tK_L : ∀ t : TypeId, tK tyL t = tK ty t := fun _ => rfl
theorem tS_L : ∀ t : TypeId, tS tyL t = tS ty t := fun _ => rfl
theorem tB_L : ∀ t : TypeId, tB tyL t = tB ty t := fun _ => rfl
theorem tG_L : ∀ t : TypeId, tG tyL t = tG ty t := fun _ => rfl
theorem tI_L : ∀ t : TypeId, tI tyL t = tI ty t := fun _ => rfl
theorem tZ_L : ∀ t : TypeId, tZ tyL t = tZ ty t := fun _ => rfl
theorem szOf_L : ∀ t : TypeId, szOf tyL t = szOf ty t := fun _ => rfl
theorem tF_L : ∀ t : TypeId, tF tyL t = tF ty t := fun _ => rfl
theorem places_L : ∀ l, placesA tyL l = placesA ty l
  | [] => rfl
  | f :: l => by
    have h := places_L l
    show (match ty.f f.type, placesA tyL l with | some i, some rest => some ((f.offset, i.size) :: rest) | _, _ => none) = _
    rw [h]; rfl
theorem tP_L : ∀ t : TypeId, tP tyL t = tP ty t := by
  intro t
  unfold tP
  show (match ty.f t with | some ⟨.struct fs, _, _, _⟩ => placesA tyL fs.toList | _ => none) = _
  cases ty.f t with
  | none => rfl
  | some i =>
    obtain ⟨u, _, _, _⟩ := i
    cases u <;> try rfl
    exact places_L _
theorem fieldOf_L : ∀ (t : TypeId) (k : Nat), fieldOf tyL t k = fieldOf ty t k := fun _ _ => rfl
theorem tyL_lit : tyL.lit = true := rfl
end Go.Proofs.Ythdjblfiiogmgaa
