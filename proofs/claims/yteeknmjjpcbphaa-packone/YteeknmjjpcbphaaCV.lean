/- The frame of these proofs, part V: the rules for the operands' forms. -/
import Derived.Test.YteeknmjjpcbphaaCU
set_option linter.unusedVariables false
set_option linter.unusedSimpArgs false
namespace Go.Proofs.Yteeknmjjpcbphaa
open Go
section
variable {ti : Ti} {r : Rs} {t u s d e : TypeId} {k k' j : IntKind} {a b n m : Int} {A B : ByteArray}

theorem wantA_bool {q w : Bool} : wantA w (.d (.c (.bool q))) = some q := rfl
theorem wantA_und_t {l : List AV} : wantA true (.tup l) = some false := rfl
theorem wantA_und_f {l : List AV} : wantA false (.tup l) = some true := rfl
theorem boolOfA_bool {q : Bool} : boolOfA (.d (.c (.bool q))) = some q := rfl
theorem evPick_bool {q : Bool} {x y : AV} : evPick (.d (.c (.bool q))) x y = some (if q = true then x else y) := rfl
theorem evUn_not {q : Bool} : evUn .not (.d (.c (.bool q))) = some (.d (.c (.bool !q))) := rfl
theorem evUn_neg : evUn .neg (.d (.c (.int k n))) = some (.d (.c (.int k (k.wrap (0 - n))))) := rfl
theorem evUn_xor : evUn .xor (.d (.c (.int k n))) = some (.d (.c (.int k (ibits .xor k (if k.signed then -1 else k.max) n)))) := rfl

/-! ### Sums and tests -/
theorem bin_add : evBin ti r .add t (.d (.c (.int k a))) (.d (.c (.int k b))) = some (.d (.c (.int k (k.wrap (a + b))))) := by simp [evBin, vBin, vAdd, oneC, chk, Value.oneCell']
theorem bin_sub : evBin ti r .sub t (.d (.c (.int k a))) (.d (.c (.int k b))) = some (.d (.c (.int k (k.wrap (a - b))))) := by simp [evBin, vBin, vAr, oneC, chk, Value.oneCell']
theorem bin_mul : evBin ti r .mul t (.d (.c (.int k a))) (.d (.c (.int k b))) = some (.d (.c (.int k (k.wrap (a * b))))) := by simp [evBin, vBin, vAr, oneC, chk, Value.oneCell']
theorem bin_quo (h : b ≠ 0) : evBin ti r .quo t (.d (.c (.int k a))) (.d (.c (.int k b))) = some (.d (.c (.int k (k.wrap (a.tdiv b))))) := by simp [evBin, vBin, vDiv, oneC, chk, Value.oneCell', h]
theorem bin_rem (h : b ≠ 0) : evBin ti r .rem t (.d (.c (.int k a))) (.d (.c (.int k b))) = some (.d (.c (.int k (a.tmod b)))) := by simp [evBin, vBin, vDiv, oneC, chk, Value.oneCell', h]
theorem bin_and : evBin ti r .and t (.d (.c (.int k a))) (.d (.c (.int k b))) = some (.d (.c (.int k (ibits .and k a b)))) := by simp [evBin, vBin, vBits, oneC, chk, Value.oneCell']
theorem bin_or : evBin ti r .or t (.d (.c (.int k a))) (.d (.c (.int k b))) = some (.d (.c (.int k (ibits .or k a b)))) := by simp [evBin, vBin, vBits, oneC, chk, Value.oneCell']
theorem bin_xor : evBin ti r .xor t (.d (.c (.int k a))) (.d (.c (.int k b))) = some (.d (.c (.int k (ibits .xor k a b)))) := by simp [evBin, vBin, vBits, oneC, chk, Value.oneCell']
theorem bin_andNot : evBin ti r .andNot t (.d (.c (.int k a))) (.d (.c (.int k b))) = some (.d (.c (.int k (ibits .andNot k a b)))) := by simp [evBin, vBin, vBits, oneC, chk, Value.oneCell']
theorem bin_shl (h : 0 ≤ b) : evBin ti r .shl t (.d (.c (.int k a))) (.d (.c (.int j b))) = some (.d (.c (.int k (ishl k a b)))) := by simp [evBin, vBin, vSh, oneC, chk, Value.oneCell', h]
theorem bin_shr (h : 0 ≤ b) : evBin ti r .shr t (.d (.c (.int k a))) (.d (.c (.int j b))) = some (.d (.c (.int k (ishr k a b)))) := by simp [evBin, vBin, vSh, oneC, chk, Value.oneCell', h]
theorem bin_lss : evBin ti r .lss t (.d (.c (.int k a))) (.d (.c (.int k b))) = some (.d (.c (.bool (decide (a < b))))) := by simp [evBin, vBin, vCmp, oneC, chk, Value.oneCell']
theorem bin_leq : evBin ti r .leq t (.d (.c (.int k a))) (.d (.c (.int k b))) = some (.d (.c (.bool (decide (a ≤ b))))) := by simp [evBin, vBin, vCmp, oneC, chk, Value.oneCell']
theorem bin_gtr : evBin ti r .gtr t (.d (.c (.int k a))) (.d (.c (.int k b))) = some (.d (.c (.bool (decide (b < a))))) := by simp [evBin, vBin, vCmp, oneC, chk, Value.oneCell']
theorem bin_geq : evBin ti r .geq t (.d (.c (.int k a))) (.d (.c (.int k b))) = some (.d (.c (.bool (decide (b ≤ a))))) := by simp [evBin, vBin, vCmp, oneC, chk, Value.oneCell']
theorem bin_eql : evBin ti r .eql t (.d (.c (.int k a))) (.d (.c (.int k b))) = some (.d (.c (.bool (decide (a = b))))) := by simp [evBin, vBin, vEq, oneC, chk, Value.oneCell']; rfl
theorem bin_neq : evBin ti r .neq t (.d (.c (.int k a))) (.d (.c (.int k b))) = some (.d (.c (.bool (!decide (a = b))))) := by simp [evBin, vBin, vEq, oneC, chk, Value.oneCell']; rfl
theorem sEq (A B : ByteArray) : (A.toList == B.toList) = decide (A = B) := by
  have h : A.toList = B.toList ↔ A = B := by
    rw [Go.ByteArray.toList_eq, Go.ByteArray.toList_eq]
    constructor
    · intro h; exact ByteArray.ext (Array.ext' h)
    · rintro rfl; rfl
  rw [Bool.eq_iff_iff]
  simp [h]
theorem bin_seql : evBin ti r .eql t (.d (.c (.string A))) (.d (.c (.string B))) = some (.d (.c (.bool (decide (A = B))))) := by simp [evBin, vBin, vEq, oneC, chk, Value.oneCell', sEq]
theorem bin_sneq : evBin ti r .neq t (.d (.c (.string A))) (.d (.c (.string B))) = some (.d (.c (.bool (!decide (A = B))))) := by simp [evBin, vBin, vEq, oneC, chk, Value.oneCell', sEq]
theorem bin_slss : evBin ti r .lss t (.d (.c (.string A))) (.d (.c (.string B))) = some (.d (.c (.bool (Op.bytesLess A.toList B.toList)))) := by simp [evBin, vBin, vCmp, oneC, chk, Value.oneCell']
theorem bin_sgtr : evBin ti r .gtr t (.d (.c (.string A))) (.d (.c (.string B))) = some (.d (.c (.bool (!(Op.bytesLess A.toList B.toList || decide (A = B)))))) := by simp [evBin, vBin, vCmp, oneC, chk, Value.oneCell', sEq]
theorem bin_sadd : evBin ti r .add t (.d (.c (.string A))) (.d (.c (.string B))) = chk (A.size + B.size ≤ 9223372036854775807) (some (.d (.c (.string (A ++ B))))) := by
  by_cases h : A.size + B.size ≤ 9223372036854775807
  · simp [evBin, vBin, vAdd, chk, h, oneC, Value.oneCell']
  · simp [evBin, vBin, vAdd, chk, h, evNilOp]
def bB : TK → Bool → Option AV
  | .bool, q => some (.d (.c (.bool q)))
  | _, _ => none
theorem bB_bool {q : Bool} : bB .bool q = some (.d (.c (.bool q))) := rfl
theorem isBool_eq : isBool ti t = match tK ti t with | .bool => true | _ => false := by
  unfold isBool tK
  cases ti t with
  | none => rfl
  | some i =>
    obtain ⟨u, _, _, _⟩ := i
    cases u <;> rfl
theorem absNil_bool {q : Bool} : absNil r (.d (.c (.bool q))) = none := rfl
theorem bin_beql {x y : Bool} : evBin ti r .eql t (.d (.c (.bool x))) (.d (.c (.bool y))) = bB (tK ti t) (x == y) := by
  have hn : evNil ti r t false (.d (.c (.bool x))) (.d (.c (.bool y))) = none := by unfold evNil; cases ti t <;> rfl
  unfold evBin vBin vEq bB
  simp only [isBool_eq]
  cases tK ti t <;> simp [oneC, chk, Value.oneCell', evNilOp, hn]
theorem bin_bneq {x y : Bool} : evBin ti r .neq t (.d (.c (.bool x))) (.d (.c (.bool y))) = bB (tK ti t) (!(x == y)) := by
  have hn : evNil ti r t true (.d (.c (.bool x))) (.d (.c (.bool y))) = none := by unfold evNil; cases ti t <;> rfl
  unfold evBin vBin vEq bB
  simp only [isBool_eq]
  cases tK ti t <;> simp [oneC, chk, Value.oneCell', evNilOp, hn]
/-- Against nil. -/
def nlK : TK → NK → Option (List AV) → Bool → Option AV
  | .ptr, .ptr, some _, q => some (.d (.c (.bool q)))
  | .map, .map, some _, q => some (.d (.c (.bool q)))
  | .fn, .fn, some _, q => some (.d (.c (.bool q)))
  | _, _, _, _ => none
theorem nlK_ptr {l : List AV} {q : Bool} : nlK .ptr .ptr (some l) q = some (.d (.c (.bool q))) := rfl
theorem nlK_map {l : List AV} {q : Bool} : nlK .map .map (some l) q = some (.d (.c (.bool q))) := rfl
theorem nlK_fn {l : List AV} {q : Bool} : nlK .fn .fn (some l) q = some (.d (.c (.bool q))) := rfl
theorem evNil_ptr {i off : Nat} {neg : Bool} : evNil ti r t neg (.ptr i off) (.d (.c (.pointer none))) = nlK (tK ti t) .ptr (objOf r i) neg := by
  unfold evNil tK nlK
  cases ti t with
  | none => rfl
  | some i' =>
    obtain ⟨u, _, _, _⟩ := i'
    simp only [absNil]
    cases objOf r i <;> cases u <;> cases neg <;> simp [tkOf, kdOf]
theorem bin_ptr_eql {i off : Nat} : evBin ti r .eql t (.ptr i off) (.d (.c (.pointer none))) = nlK (tK ti t) .ptr (objOf r i) false := evNil_ptr
theorem bin_ptr_neq {i off : Nat} : evBin ti r .neq t (.ptr i off) (.d (.c (.pointer none))) = nlK (tK ti t) .ptr (objOf r i) true := evNil_ptr
theorem bin_nil_eql : evBin ti r .eql t (.d (.c (.pointer none))) (.d (.c (.pointer none))) = nlK (tK ti t) .ptr (some []) true := by
  show evNil ti r t false _ _ = _
  unfold evNil tK nlK
  cases ti t with
  | none => rfl
  | some i' => obtain ⟨u, _, _, _⟩ := i'; cases u <;> simp [tkOf, kdOf, absNil]
theorem bin_nil_neq : evBin ti r .neq t (.d (.c (.pointer none))) (.d (.c (.pointer none))) = nlK (tK ti t) .ptr (some []) false := by
  show evNil ti r t true _ _ = _
  unfold evNil tK nlK
  cases ti t with
  | none => rfl
  | some i' => obtain ⟨u, _, _, _⟩ := i'; cases u <;> simp [tkOf, kdOf, absNil]
theorem bin_fn_eql {f : Fn} {x y : List AV} : evBin ti r .eql t (.fn f x y) (.d (.c .nilFunc)) = nlK (tK ti t) .fn (some []) false := by
  show evNil ti r t false _ _ = _
  unfold evNil tK nlK
  cases ti t with
  | none => rfl
  | some i' => obtain ⟨u, _, _, _⟩ := i'; cases u <;> simp [tkOf, kdOf, absNil]

/-! ### What is owned -/
def obX : Option Res → Option (List AV)
  | some (.obj l) => some l
  | _ => none
theorem objOf_zero {x : Option Res} : objOf (x :: r) 0 = obX x := by
  unfold objOf obX
  rw [List.getElem?_cons_zero]
  cases x with
  | none => rfl
  | some x => cases x <;> rfl
theorem objOf_succ {x : Option Res} {i : Nat} : objOf (x :: r) (i + 1) = objOf r i := by
  unfold objOf
  rw [List.getElem?_cons_succ]
theorem obX_obj {l : List AV} : obX (some (.obj l)) = some l := rfl
def lvO (o : Option (List AV)) (a : AV) : Option AV := o.map fun _ => a
theorem lvO_some {l : List AV} {a : AV} : lvO (some l) a = some a := rfl
theorem nc_ptr {i off : Nat} : evNC r (.ptr i off) = lvO (objOf r i) (.ptr i off) := rfl
theorem nc_el {xs : List D} : evNC r (.el xs) = some (.el xs) := rfl
theorem nc_fn {f : FuncId} {x y : List AV} : evNC r (.fn (.func f) x y) = some (.fn (.func f) x y) := rfl
theorem ext_tup {i : Nat} {l : List AV} : evExt i (.tup l) = l[i]? := rfl

/-! ### Conversions -/
def cvI (r : Rs) : Bool → TK → Int → Option (AV × Rs)
  | true, .int k, n => some (.d (.c (.int k (k.wrap n))), r)
  | _, _, _ => none
theorem cvI_int : cvI r true (.int k) n = some (.d (.c (.int k (k.wrap n))), r) := rfl
theorem cvt_int : evCvt ti r s d (.d (.c (.int k n))) = cvI r (tI ti s) (tK ti d) n := by
  unfold evCvt evConv evSB tI tK
  cases ti s with
  | none => cases ti d <;> rfl
  | some i =>
    cases ti d with
    | none => rfl
    | some i' =>
      obtain ⟨u, _, _, _⟩ := i
      obtain ⟨u', _, _, _⟩ := i'
      cases u' <;> simp [tkOf, cvI]
      · cases u <;> simp [slOf] <;> split <;> simp_all
def cvS (ti : Ti) (r : Rs) : Bool → TK → ByteArray → Option (AV × Rs)
  | true, .str, s => some (.d (.c (.string s)), r)
  | true, .sl e, s => match tK ti e with
    | .int .u8 => some (.d (.sl 1 s.size (bD s.toList)), r)
    | _ => none
  | _, _, _ => none
theorem cvS_str : cvS ti r true .str A = some (.d (.c (.string A)), r) := rfl
def cvS2 (r : Rs) (A : ByteArray) : TK → Option (AV × Rs)
  | .int .u8 => some (.d (.sl 1 A.size (bD A.toList)), r)
  | _ => none
theorem cvS_sl : cvS ti r true (.sl e) A = cvS2 r A (tK ti e) := rfl
theorem cvS2_u8 : cvS2 r A (.int .u8) = some (.d (.sl 1 A.size (bD A.toList)), r) := rfl
theorem cvt_str : evCvt ti r s d (.d (.c (.string A))) = cvS ti r (tI ti s) (tK ti d) A := by
  unfold evCvt evConv evSB tI tK
  cases hs : ti s with
  | none => cases ti d <;> rfl
  | some i =>
    cases hd : ti d with
    | none => rfl
    | some i' =>
      obtain ⟨u, _, _, _⟩ := i
      obtain ⟨u', _, _, _⟩ := i'
      cases u' <;> simp [tkOf, cvS]
      · rename_i e
        unfold tK
        cases he : ti e with
        | none => rfl
        | some ie =>
          obtain ⟨ue, _, _, _⟩ := ie
          cases ue <;> simp [tkOf]
          rename_i k
          cases k <;> rfl
def cvL (ti : Ti) (r : Rs) : TK → TK → Option (List D) → Option (AV × Rs)
  | .sl e, .str, some xs => match tK ti e with
    | .int .u8 => (toBytes xs).map fun l => (.d (.c (.string ⟨l.toArray⟩)), r)
    | _ => none
  | _, _, _ => none
def cvL2 (r : Rs) (xs : List D) : TK → Option (AV × Rs)
  | .int .u8 => (toBytes xs).map fun l => (.d (.c (.string ⟨l.toArray⟩)), r)
  | _ => none
theorem cvL_sl {xs : List D} : cvL ti r (.sl e) .str (some xs) = cvL2 r xs (tK ti e) := rfl
theorem cvL2_u8 {xs : List D} : cvL2 r xs (.int .u8) = (toBytes xs).map fun l => (.d (.c (.string ⟨l.toArray⟩)), r) := rfl
theorem cvt_red (x : AV) (hx : (∃ sz q xs, x = .d (.sl sz q xs)) ∨ (∃ m sz q xs, x = .sl m sz q xs) ∨ x = .d (.c (.slice none 0 0))) : evCvt ti r s d x = match ti s, ti d with
    | some i, some i' => (match i'.u with
      | .string => (match i.u with
        | .slice e => (match ti e, slOf 1 x with
          | some ⟨.int .u8, _, _, _⟩, some (_, n, xs) => ((toBytes xs).map fun l => (AV.d (.c (.string ⟨l.toArray⟩)), r))
          | _, _ => none)
        | _ => none)
      | _ => none)
    | _, _ => none := by
  rcases hx with ⟨sz, q, xs, rfl⟩ | ⟨m, sz, q, xs, rfl⟩ | rfl
  all_goals
    unfold evCvt evConv evSB
    cases hs : ti s with
    | none => cases ti d <;> rfl
    | some i =>
      cases hd : ti d with
      | none => rfl
      | some i' =>
        obtain ⟨u, _, _, _⟩ := i
        obtain ⟨u', _, _, _⟩ := i'
        cases u' <;> try rfl
        cases u <;> try rfl
        rename_i e
        cases hte : ti e with
        | none => simp [hte]
        | some ie =>
          obtain ⟨ue, _, _, _⟩ := ie
          cases ue <;> try (simp [hte]; done)
          rename_i k
          cases k <;> try (simp [hte]; done)
          simp only [hte]
          cases hq : slOf 1 _ with
          | none => simp [hq]
          | some q => simp only [hq]; cases toBytes q.2.2 <;> rfl
theorem cvt_aux (x : AV) (q : Option Mo × Nat × List D) (hq : slOf 1 x = some q) (hx : (∃ n xs, x = .d (.sl 1 n xs)) ∨ (∃ m n xs, x = .sl m 1 n xs) ∨ x = .d (.c (.slice none 0 0))) : evCvt ti r s d x = cvL ti r (tK ti s) (tK ti d) (some q.2.2) := by
  rw [cvt_red x (by rcases hx with ⟨n, xs, h⟩ | ⟨m, n, xs, h⟩ | h
                    · exact .inl ⟨_, _, _, h⟩
                    · exact .inr (.inl ⟨_, _, _, _, h⟩)
                    · exact .inr (.inr h)), hq]
  unfold tK cvL
  cases ti s with
  | none => cases ti d <;> rfl
  | some i =>
    obtain ⟨u, _, _, _⟩ := i
    cases ti d with
    | none => cases u <;> rfl
    | some i' =>
      obtain ⟨u', _, _, _⟩ := i'
      cases u' <;> cases u <;> try rfl
      rename_i e
      simp only [tkOf]
      unfold tK
      cases ti e with
      | none => rfl
      | some ie =>
        obtain ⟨ue, _, _, _⟩ := ie
        cases ue <;> try rfl
        rename_i k
        cases k <;> rfl
theorem cvt_aux2 (x : AV) (hq : slOf 1 x = none) (hx : (∃ sz n xs, x = .d (.sl sz n xs)) ∨ (∃ m sz n xs, x = .sl m sz n xs)) : evCvt ti r s d x = cvL ti r (tK ti s) (tK ti d) none := by
  rw [cvt_red x (by rcases hx with h | h
                    · exact .inl h
                    · exact .inr (.inl h)), hq]
  unfold tK cvL
  cases ti s with
  | none => cases ti d <;> rfl
  | some i =>
    obtain ⟨u, _, _, _⟩ := i
    cases ti d with
    | none => cases u <;> rfl
    | some i' =>
      obtain ⟨u', _, _, _⟩ := i'
      cases u' <;> cases u <;> try rfl
      rename_i e
      simp only [tkOf]
      cases ti e with
      | none => rfl
      | some ie =>
        obtain ⟨ue, _, _, _⟩ := ie
        cases ue <;> try rfl
        rename_i k
        cases k <;> rfl
theorem cvt_dsl {sz q : Nat} {xs : List D} : evCvt ti r s d (.d (.sl sz q xs)) = cvL ti r (tK ti s) (tK ti d) (if sz = 1 then some xs else none) := by
  by_cases hz : sz = 1
  · subst hz
    exact cvt_aux (.d (.sl 1 q xs)) (none, q, xs) rfl (.inl ⟨_, _, rfl⟩)
  · rw [if_neg hz]
    exact cvt_aux2 (.d (.sl sz q xs)) (by simp [slOf, hz]) (.inl ⟨_, _, _, rfl⟩)
theorem cvt_sl {m : Mo} {sz q : Nat} {xs : List D} : evCvt ti r s d (.sl m sz q xs) = cvL ti r (tK ti s) (tK ti d) (if sz = 1 then some xs else none) := by
  by_cases hz : sz = 1
  · subst hz
    exact cvt_aux (.sl m 1 q xs) (some m, q, xs) rfl (.inr (.inl ⟨_, _, _, rfl⟩))
  · rw [if_neg hz]
    exact cvt_aux2 (.sl m sz q xs) (by simp [slOf, hz]) (.inr ⟨_, _, _, _, rfl⟩)
theorem cvt_nil : evCvt ti r s d (.d (.c (.slice none 0 0))) = cvL ti r (tK ti s) (tK ti d) (some []) := cvt_aux (.d (.c (.slice none 0 0))) (some .full, 0, []) rfl (.inr (.inr rfl))
end
end Go.Proofs.Yteeknmjjpcbphaa
