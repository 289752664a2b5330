/- The frame of these proofs, part V: the rules for the operands' forms. -/
import Derived.Test.YteeknmjjpcbphaaDoorCU
set_option linter.unusedVariables false
set_option linter.unusedSimpArgs false
namespace Go.Proofs.YteeknmjjpcbphaaDoor
open Go
section
variable {ti : Ti} {r : Rs} {t u s d e : TypeId} {k k' j : IntKind} {a b n m : Int} {A B : ByteArray}

theorem wantA_bool {q w : Bool} : wantA w (.d (.c (.bool q))) = some q := rfl
theorem wantA_und_t {l : List AV} : wantA true (.tup l) = some false := rfl
theorem wantA_und_f {l : List AV} : wantA false (.tup l) = some true := rfl
theorem boolOfA_bool {q : Bool} : boolOfA (.d (.c (.bool q))) = some q := rfl
theorem evPick_bool {q : Bool} {x y : AV} : evPick (.d (.c (.bool q))) x y = some (if q = true then x else y) := rfl
theorem evUn_not {q : Bool} : evUn .not (.d (.c (.bool q))) = some (.d (.c (.bool !q))) := rfl
theorem evUn_neg : evUn .neg (.d (.c (.int k n))) = some (.d (.c (.int k (k.wrap (0 - n))))) := rfl
theorem evUn_xor : evUn .xor (.d (.c (.int k n))) = some (.d (.c (.int k (ibits .xor k (if k.signed then -1 else k.max) n)))) := rfl

/-! ### Sums and tests -/
theorem bin_add : evBin ti r .add t (.d (.c (.int k a))) (.d (.c (.int k b))) = some (.d (.c (.int k (k.wrap (a + b))))) := by simp [evBin, vBin, vAdd, oneC, chk, Value.oneCell']
theorem bin_sub : evBin ti r .sub t (.d (.c (.int k a))) (.d (.c (.int k b))) = some (.d (.c (.int k (k.wrap (a - b))))) := by simp [evBin, vBin, vAr, oneC, chk, Value.oneCell']
theorem bin_mul : evBin ti r .mul t (.d (.c (.int k a))) (.d (.c (.int k b))) = some (.d (.c (.int k (k.wrap (a * b))))) := by simp [evBin, vBin, vAr, oneC, chk, Value.oneCell']
theorem bin_quo (h : b ≠ 0) : evBin ti r .quo t (.d (.c (.int k a))) (.d (.c (.int k b))) = some (.d (.c (.int k (k.wrap (a.tdiv b))))) := by simp [evBin, vBin, vDiv, oneC, chk, Value.oneCell', h]
theorem bin_rem (h : b ≠ 0) : evBin ti r .rem t (.d (.c (.int k a))) (.d (.c (.int k b))) = some (.d (.c (.int k (a.tmod b)))) := by simp [evBin, vBin, vDiv, oneC, chk, Value.oneCell', h]
theorem bin_and : evBin ti r .and t (.d (.c (.int k a))) (.d (.c (.int k b))) = some (.d (.c (.int k (ibits .and k a b)))) := by simp [evBin, vBin, vBits, oneC, chk, Value.oneCell']
theorem bin_or : evBin ti r .or t (.d (.c (.int k a))) (.d (.c (.int k b))) = some (.d (.c (.int k (ibits .or k a b)))) := by simp [evBin, vBin, vBits, oneC, chk, Value.oneCell']
theorem bin_xor : evBin ti r .xor t (.d (.c (.int k a))) (.d (.c (.int k b))) = some (.d (.c (.int k (ibits .xor k a b)))) := by simp [evBin, vBin, vBits, oneC, chk, Value.oneCell']
theorem bin_andNot : evBin ti r .andNot t (.d (.c (.int k a))) (.d (.c (.int k b))) = some (.d (.c (.int k (ibits .andNot k a b)))) := by simp [evBin, vBin, vBits, oneC, chk, Value.oneCell']
theorem bin_shl (h : 0 ≤ b) : evBin ti r .shl t (.d (.c (.int k a))) (.d (.c (.int j b))) = some (.d (.c (.int k (ishl k a b)))) := by simp [evBin, vBin, vSh, oneC, chk, Value.oneCell', h]
theorem bin_shr (h : 0 ≤ b) : evBin ti r .shr t (.d (.c (.int k a))) (.d (.c (.int j b))) = some (.d (.c (.int k (ishr k a b)))) := by simp [evBin, vBin, vSh, oneC, chk, Value.oneCell', h]
theorem bin_lss : evBin ti r .lss t (.d (.c (.int k a))) (.d (.c (.int k b))) = some (.d (.c (.bool (decide (a < b))))) := by simp [evBin, vBin, vCmp, oneC, chk, Value.oneCell']
theorem bin_leq : evBin ti r .leq t (.d (.c (.int k a))) (.d (.c (.int k b))) = some (.d (.c (.bool (decide (a ≤ b))))) := by simp [evBin, vBin, vCmp, oneC, chk, Value.oneCell']
theorem bin_gtr : evBin ti r .gtr t (.d (.c (.int k a))) (.d (.c (.int k b))) = some (.d (.c (.bool (decide (b < a))))) := by simp [evBin, vBin, vCmp, oneC, chk, Value.oneCell']
theorem bin_geq : evBin ti r .geq t (.d (.c (.int k a))) (.d (.c (.int k b))) = some (.d (.c (.bool (decide (b ≤ a))))) := by simp [evBin, vBin, vCmp, oneC, chk, Value.oneCell']
theorem bin_eql : evBin ti r .eql t (.d (.c (.int k a))) (.d (.c (.int k b))) = some (.d (.c (.bool (decide (a = b))))) := by simp [evBin, vBin, vEq, oneC, chk, Value.oneCell']; rfl
theorem bin_neq : evBin ti r .neq t (.d (.c (.int k a))) (.d (.c (.int k b))) = some (.d (.c (.bool (!decide (a = b))))) := by simp [evBin, vBin, vEq, oneC, chk, Value.oneCell']; rfl
theorem sEq (A B : ByteArray) : (A.toList == B.toList) = decide (A = B) := by
  have h : A.toList = B.toList ↔ A = B := by
    rw [Go.ByteArray.toList_eq, Go.ByteArray.toList_eq]
    constructor
    · intro h; exact ByteArray.ext (Array.ext' h)
    · rintro rfl; rfl
  rw [Bool.eq_iff_iff]
  simp [h]
theorem bin_seql : evBin ti r .eql t (.d (.c (.string A))) (.d (.c (.string B))) = some (.d (.c (.bool (decide (A = B))))) := by simp [evBin, vBin, vEq, oneC, chk, Value.oneCell', sEq]
theorem bin_sneq : evBin ti r .neq t (.d (.c (.string A))) (.d (.c (.string B))) = some (.d (.c (.bool (!decide (A = B))))) := by simp [evBin, vBin, vEq, oneC, chk, Value.oneCell', sEq]
theorem bin_slss : evBin ti r .lss t (.d (.c (.string A))) (.d (.c (.string B))) = some (.d (.c (.bool (Op.bytesLess A.toList B.toList)))) := by simp [evBin, vBin, vCmp, oneC, chk, Value.oneCell']
theorem bin_sgtr : evBin ti r .gtr t (.d (.c (.string A))) (.d (.c (.string B))) = some (.d (.c (.bool (!(Op.bytesLess A.toList B.toList || decide (A = B)))))) := by simp [evBin, vBin, vCmp, oneC, chk, Value.oneCell', sEq]
theorem bin_sadd : evBin ti r .add t (.d (.c (.string A))) (.d (.c (.string B))) = chk (A.size + B.size ≤ 9223372036854775807) (some (.d (.c (.string (A ++ B))))) := by
  by_cases h : A.size + B.size ≤ 9223372036854775807
  · simp [evBin, vBin, vAdd, chk, h, oneC, Value.oneCell']
  · simp [evBin, vBin, vAdd, chk, h, evNilOp]
def bB : TK → Bool → Option AV
  | .bool, q => some (.d (.c (.bool q)))
  | _, _ => none
theorem bB_bool {q : Bool} : bB .bool q = some (.d (.c (.bool q))) := rfl
theorem isBool_eq : isBool ti t = match tK ti t with | .bool => true | _ => false := by
  unfold isBool tK
  cases ti t with
  | none => rfl
  | some i =>
    obtain ⟨u, _, _, _⟩ := i
    cases u <;> rfl
theorem absNil_bool {q : Bool} : absNil r (.d (.c (.bool q))) = none := rfl
theorem bin_beql {x y : Bool} : evBin ti r .eql t (.d (.c (.bool x))) (.d (.c (.bool y))) = bB (tK ti t) (x == y) := by
  have hn : evNil ti r t false (.d (.c (.bool x))) (.d (.c (.bool y))) = none := by unfold evNil; cases ti t <;> rfl
  unfold evBin vBin vEq bB
  simp only [isBool_eq]
  cases tK ti t <;> simp [oneC, chk, Value.oneCell', evNilOp, hn, evEqA]
theorem bin_bneq {x y : Bool} : evBin ti r .neq t (.d (.c (.bool x))) (.d (.c (.bool y))) = bB (tK ti t) (!(x == y)) := by
  have hn : evNil ti r t true (.d (.c (.bool x))) (.d (.c (.bool y))) = none := by unfold evNil; cases ti t <;> rfl
  unfold evBin vBin vEq bB
  simp only [isBool_eq]
  cases tK ti t <;> simp [oneC, chk, Value.oneCell', evNilOp, hn, evEqA]
/-- Against nil. -/
def nlK : TK → NK → Option (List AV) → Bool → Option AV
  | .ptr, .ptr, some _, q => some (.d (.c (.bool q)))
  | .map, .map, some _, q => some (.d (.c (.bool q)))
  | .fn, .fn, some _, q => some (.d (.c (.bool q)))
  | _, _, _, _ => none
theorem nlK_ptr {l : List AV} {q : Bool} : nlK .ptr .ptr (some l) q = some (.d (.c (.bool q))) := rfl
theorem nlK_map {l : List AV} {q : Bool} : nlK .map .map (some l) q = some (.d (.c (.bool q))) := rfl
theorem nlK_fn {l : List AV} {q : Bool} : nlK .fn .fn (some l) q = some (.d (.c (.bool q))) := rfl
theorem evNil_ptr {i off : Nat} {neg : Bool} : evNil ti r t neg (.ptr i off) (.d (.c (.pointer none))) = nlK (tK ti t) .ptr (objOf r i) neg := by
  unfold evNil tK nlK
  cases ti t with
  | none => rfl
  | some i' =>
    obtain ⟨u, _, _, _⟩ := i'
    simp only [absNil]
    cases objOf r i <;> cases u <;> cases neg <;> simp [tkOf, kdOf]
theorem bin_ptr_eql {i off : Nat} : evBin ti r .eql t (.ptr i off) (.d (.c (.pointer none))) = nlK (tK ti t) .ptr (objOf r i) false := (Option.or_none).trans evNil_ptr
theorem bin_ptr_neq {i off : Nat} : evBin ti r .neq t (.ptr i off) (.d (.c (.pointer none))) = nlK (tK ti t) .ptr (objOf r i) true := (Option.or_none).trans evNil_ptr
theorem bin_el_eql {xs : List D} : evBin ti r .eql t (.el xs) (.d (.c (.pointer none))) = nlK (tK ti t) .ptr (some []) false := by
  refine (Option.or_none (o := evNil ti r t false _ _)).trans ?_
  unfold evNil tK nlK
  cases ti t with
  | none => rfl
  | some i' => obtain ⟨u, _, _, _⟩ := i'; cases u <;> simp [tkOf, kdOf, absNil]
theorem bin_el_neq {xs : List D} : evBin ti r .neq t (.el xs) (.d (.c (.pointer none))) = nlK (tK ti t) .ptr (some []) true := by
  refine (Option.or_none (o := evNil ti r t true _ _)).trans ?_
  unfold evNil tK nlK
  cases ti t with
  | none => rfl
  | some i' => obtain ⟨u, _, _, _⟩ := i'; cases u <;> simp [tkOf, kdOf, absNil]
theorem bin_nil_eql : evBin ti r .eql t (.d (.c (.pointer none))) (.d (.c (.pointer none))) = nlK (tK ti t) .ptr (some []) true := by
  refine (Option.or_none (o := evNil ti r t false _ _)).trans ?_
  unfold evNil tK nlK
  cases ti t with
  | none => rfl
  | some i' => obtain ⟨u, _, _, _⟩ := i'; cases u <;> simp [tkOf, kdOf, absNil]
theorem bin_nil_neq : evBin ti r .neq t (.d (.c (.pointer none))) (.d (.c (.pointer none))) = nlK (tK ti t) .ptr (some []) false := by
  refine (Option.or_none (o := evNil ti r t true _ _)).trans ?_
  unfold evNil tK nlK
  cases ti t with
  | none => rfl
  | some i' => obtain ⟨u, _, _, _⟩ := i'; cases u <;> simp [tkOf, kdOf, absNil]
theorem bin_fn_eql {f : Fn} {x y : List AV} : evBin ti r .eql t (.fn f x y) (.d (.c .nilFunc)) = nlK (tK ti t) .fn (some []) false := by
  refine (Option.or_none (o := evNil ti r t false _ _)).trans ?_
  unfold evNil tK nlK
  cases ti t with
  | none => rfl
  | some i' => obtain ⟨u, _, _, _⟩ := i'; cases u <;> simp [tkOf, kdOf, absNil]

/-! ### Arrays and structs -/
theorem aggB_eq : aggB ti t = tG ti t := rfl
theorem bin_aeql {xs ys : List D} : evBin ti r .eql t (.d (.agg xs)) (.d (.agg ys)) = eqAgg (tF ti t) (tG ti t) false xs ys := by
  show (evNil ti r t false _ _).or (evEqA ti t false _ _) = _
  have : evNil ti r t false (.d (.agg xs)) (.d (.agg ys)) = none := by unfold evNil; cases ti t <;> rfl
  rw [this]; rfl
theorem bin_aneq {xs ys : List D} : evBin ti r .neq t (.d (.agg xs)) (.d (.agg ys)) = eqAgg (tF ti t) (tG ti t) true xs ys := by
  show (evNil ti r t true _ _).or (evEqA ti t true _ _) = _
  have : evNil ti r t true (.d (.agg xs)) (.d (.agg ys)) = none := by unfold evNil; cases ti t <;> rfl
  rw [this]; rfl
theorem eqAgg_some {ks : List CK} {xs ys : List D} {q : Bool} : eqAgg (some ks) true q xs ys = (eqD ks xs ys).map fun b => .d (.c (.bool (if q then !b else b))) := rfl
theorem eqD_nil : eqD [] [] [] = some true := rfl
theorem eqD_cons {k : CK} {ks : List CK} {x y : D} {xs ys : List D} : eqD (k :: ks) (x :: xs) (y :: ys) = and2 (ckD k x y) (eqD ks xs ys) := rfl
theorem ckD_int {k : IntKind} {a b : Int} : ckD .int (.c (.int k a)) (.c (.int k b)) = some (decide (a = b)) := if_pos rfl
theorem ckD_bool {a b : Bool} : ckD .bool (.c (.bool a)) (.c (.bool b)) = some (decide (a = b)) := rfl
theorem ckD_str {a b : ByteArray} : ckD .str (.c (.string a)) (.c (.string b)) = some (decide (a = b)) := rfl
theorem and2_ss {a b : Bool} : and2 (some a) (some b) = some (a && b) := rfl
theorem eqD_bytes : ∀ {n : Nat} {l m : List UInt8}, l.length = n → m.length = n → eqD (List.replicate n .int) (bD l) (bD m) = some (decide (l = m))
  | 0, [], [], _, _ => by simp [bD, eqD]
  | n + 1, a :: l, b :: m, h1, h2 => by
    rw [List.replicate_succ, ← bD_cons, ← bD_cons, eqD_cons, ckD_int, eqD_bytes (by simpa using h1) (by simpa using h2), and2_ss]
    congr 1
    have : ((a.toNat : Int) = b.toNat) ↔ a = b := by
      constructor
      · intro h; exact UInt8.toNat_inj.1 (by omega)
      · rintro rfl; rfl
    rw [Bool.eq_iff_iff]
    simp [this]
  | 0, _ :: _, _, h, _ => by simp at h
  | 0, [], _ :: _, _, h => by simp at h
  | n + 1, [], _, h, _ => by simp at h
  | n + 1, _ :: _, [], _, h => by simp at h

/-! ### What is owned -/
def obX : Option Res → Option (List AV)
  | some (.obj l) => some l
  | _ => none
theorem objOf_zero {x : Option Res} : objOf (x :: r) 0 = obX x := by
  unfold objOf obX
  rw [List.getElem?_cons_zero]
  cases x with
  | none => rfl
  | some x => cases x <;> rfl
theorem objOf_succ {x : Option Res} {i : Nat} : objOf (x :: r) (i + 1) = objOf r i := by
  unfold objOf
  rw [List.getElem?_cons_succ]
theorem obX_obj {l : List AV} : obX (some (.obj l)) = some l := rfl
def lvO (o : Option (List AV)) (a : AV) : Option AV := o.map fun _ => a
theorem lvO_some {l : List AV} {a : AV} : lvO (some l) a = some a := rfl
theorem nc_ptr {i off : Nat} : evNC r (.ptr i off) = lvO (objOf r i) (.ptr i off) := rfl
theorem nc_el {xs : List D} : evNC r (.el xs) = some (.el xs) := rfl
theorem nc_fn {f : FuncId} {x y : List AV} : evNC r (.fn (.func f) x y) = some (.fn (.func f) x y) := rfl
theorem ext_tup {i : Nat} {l : List AV} : evExt i (.tup l) = l[i]? := rfl

/-! ### Conversions -/
theorem evCB_d {y : D} : evCB ti r s d (.d y) = (evSB ti s d (.d y)).map fun v => (v, r) := by
  have : evFz ti r s d (.d y) = none := by
    unfold evFz
    split
    · rename_i h; cases h
    · rfl
  unfold evCB
  rw [this]
  cases evSB ti s d (.d y) <;> rfl
theorem evCB_sl {m : Mo} {sz q : Nat} {xs : List D} : evCB ti r s d (.sl m sz q xs) = (evSB ti s d (.sl m sz q xs)).map fun v => (v, r) := by
  have : evFz ti r s d (.sl m sz q xs) = none := by
    unfold evFz
    split
    · rename_i h; cases h
    · rfl
  unfold evCB
  rw [this]
  cases evSB ti s d (.sl m sz q xs) <;> rfl
def cvI (r : Rs) : Bool → TK → Int → Option (AV × Rs)
  | true, .int k, n => some (.d (.c (.int k (k.wrap n))), r)
  | _, _, _ => none
theorem cvI_int : cvI r true (.int k) n = some (.d (.c (.int k (k.wrap n))), r) := rfl
theorem cvt_int : evCvt ti r s d (.d (.c (.int k n))) = cvI r (tI ti s) (tK ti d) n := by
  unfold evCvt; rw [evCB_d]; unfold evConv evSB tI tK
  cases ti s with
  | none => cases ti d <;> rfl
  | some i =>
    cases ti d with
    | none => rfl
    | some i' =>
      obtain ⟨u, _, _, _⟩ := i
      obtain ⟨u', _, _, _⟩ := i'
      cases u' <;> simp [tkOf, cvI]
      · cases u <;> simp [slOf] <;> split <;> simp_all
def cvS (ti : Ti) (r : Rs) : Bool → TK → ByteArray → Option (AV × Rs)
  | true, .str, s => some (.d (.c (.string s)), r)
  | true, .sl e, s => match tK ti e with
    | .int .u8 => some (.d (.sl 1 s.size (bD s.toList)), r)
    | _ => none
  | _, _, _ => none
theorem cvS_str : cvS ti r true .str A = some (.d (.c (.string A)), r) := rfl
def cvS2 (r : Rs) (A : ByteArray) : TK → Option (AV × Rs)
  | .int .u8 => some (.d (.sl 1 A.size (bD A.toList)), r)
  | _ => none
theorem cvS_sl : cvS ti r true (.sl e) A = cvS2 r A (tK ti e) := rfl
theorem cvS2_u8 : cvS2 r A (.int .u8) = some (.d (.sl 1 A.size (bD A.toList)), r) := rfl
theorem cvt_str : evCvt ti r s d (.d (.c (.string A))) = cvS ti r (tI ti s) (tK ti d) A := by
  unfold evCvt; rw [evCB_d]; unfold evConv evSB tI tK
  cases hs : ti s with
  | none => cases ti d <;> rfl
  | some i =>
    cases hd : ti d with
    | none => rfl
    | some i' =>
      obtain ⟨u, _, _, _⟩ := i
      obtain ⟨u', _, _, _⟩ := i'
      cases u' <;> simp [tkOf, cvS]
      · rename_i e
        unfold tK
        cases he : ti e with
        | none => rfl
        | some ie =>
          obtain ⟨ue, _, _, _⟩ := ie
          cases ue <;> simp [tkOf]
          rename_i k
          cases k <;> rfl
def cvL (ti : Ti) (r : Rs) : TK → TK → Option (List D) → Option (AV × Rs)
  | .sl e, .str, some xs => match tK ti e with
    | .int .u8 => (toBytes xs).map fun l => (.d (.c (.string ⟨l.toArray⟩)), r)
    | _ => none
  | _, _, _ => none
def cvL2 (r : Rs) (xs : List D) : TK → Option (AV × Rs)
  | .int .u8 => (toBytes xs).map fun l => (.d (.c (.string ⟨l.toArray⟩)), r)
  | _ => none
theorem cvL_sl {xs : List D} : cvL ti r (.sl e) .str (some xs) = cvL2 r xs (tK ti e) := rfl
theorem cvL2_u8 {xs : List D} : cvL2 r xs (.int .u8) = (toBytes xs).map fun l => (.d (.c (.string ⟨l.toArray⟩)), r) := rfl
theorem cvt_red (x : AV) (hx : (∃ sz q xs, x = .d (.sl sz q xs)) ∨ (∃ m sz q xs, x = .sl m sz q xs) ∨ x = .d (.c (.slice none 0 0))) : evCvt ti r s d x = match ti s, ti d with
    | some i, some i' => (match i'.u with
      | .string => (match i.u with
        | .slice e => (match ti e, slOf 1 x with
          | some ⟨.int .u8, _, _, _⟩, some (_, n, xs) => ((toBytes xs).map fun l => (AV.d (.c (.string ⟨l.toArray⟩)), r))
          | _, _ => none)
        | _ => none)
      | _ => none)
    | _, _ => none := by
  rcases hx with ⟨sz, q, xs, rfl⟩ | ⟨m, sz, q, xs, rfl⟩ | rfl
  all_goals
    unfold evCvt; (first | rw [evCB_d] | rw [evCB_sl]); unfold evConv evSB
    cases hs : ti s with
    | none => cases ti d <;> rfl
    | some i =>
      cases hd : ti d with
      | none => rfl
      | some i' =>
        obtain ⟨u, _, _, _⟩ := i
        obtain ⟨u', _, _, _⟩ := i'
        cases u' <;> try rfl
        cases u <;> try rfl
        rename_i e
        cases hte : ti e with
        | none => simp [hte]
        | some ie =>
          obtain ⟨ue, _, _, _⟩ := ie
          cases ue <;> try (simp [hte]; done)
          rename_i k
          cases k <;> try (simp [hte]; done)
          simp only [hte]
          cases hq : slOf 1 _ with
          | none => simp [hq]
          | some q => simp only [hq]; cases toBytes q.2.2 <;> rfl
theorem cvt_aux (x : AV) (q : Option Mo × Nat × List D) (hq : slOf 1 x = some q) (hx : (∃ n xs, x = .d (.sl 1 n xs)) ∨ (∃ m n xs, x = .sl m 1 n xs) ∨ x = .d (.c (.slice none 0 0))) : evCvt ti r s d x = cvL ti r (tK ti s) (tK ti d) (some q.2.2) := by
  rw [cvt_red x (by rcases hx with ⟨n, xs, h⟩ | ⟨m, n, xs, h⟩ | h
                    · exact .inl ⟨_, _, _, h⟩
                    · exact .inr (.inl ⟨_, _, _, _, h⟩)
                    · exact .inr (.inr h)), hq]
  unfold tK cvL
  cases ti s with
  | none => cases ti d <;> rfl
  | some i =>
    obtain ⟨u, _, _, _⟩ := i
    cases ti d with
    | none => cases u <;> rfl
    | some i' =>
      obtain ⟨u', _, _, _⟩ := i'
      cases u' <;> cases u <;> try rfl
      rename_i e
      simp only [tkOf]
      unfold tK
      cases ti e with
      | none => rfl
      | some ie =>
        obtain ⟨ue, _, _, _⟩ := ie
        cases ue <;> try rfl
        rename_i k
        cases k <;> rfl
theorem cvt_aux2 (x : AV) (hq : slOf 1 x = none) (hx : (∃ sz n xs, x = .d (.sl sz n xs)) ∨ (∃ m sz n xs, x = .sl m sz n xs)) : evCvt ti r s d x = cvL ti r (tK ti s) (tK ti d) none := by
  rw [cvt_red x (by rcases hx with h | h
                    · exact .inl h
                    · exact .inr (.inl h)), hq]
  unfold tK cvL
  cases ti s with
  | none => cases ti d <;> rfl
  | some i =>
    obtain ⟨u, _, _, _⟩ := i
    cases ti d with
    | none => cases u <;> rfl
    | some i' =>
      obtain ⟨u', _, _, _⟩ := i'
      cases u' <;> cases u <;> try rfl
      rename_i e
      simp only [tkOf]
      cases ti e with
      | none => rfl
      | some ie =>
        obtain ⟨ue, _, _, _⟩ := ie
        cases ue <;> try rfl
        rename_i k
        cases k <;> rfl
theorem cvt_dsl {sz q : Nat} {xs : List D} : evCvt ti r s d (.d (.sl sz q xs)) = cvL ti r (tK ti s) (tK ti d) (if sz = 1 then some xs else none) := by
  by_cases hz : sz = 1
  · subst hz
    exact cvt_aux (.d (.sl 1 q xs)) (none, q, xs) rfl (.inl ⟨_, _, rfl⟩)
  · rw [if_neg hz]
    exact cvt_aux2 (.d (.sl sz q xs)) (by simp [slOf, hz]) (.inl ⟨_, _, _, rfl⟩)
theorem cvt_sl {m : Mo} {sz q : Nat} {xs : List D} : evCvt ti r s d (.sl m sz q xs) = cvL ti r (tK ti s) (tK ti d) (if sz = 1 then some xs else none) := by
  by_cases hz : sz = 1
  · subst hz
    exact cvt_aux (.sl m 1 q xs) (some m, q, xs) rfl (.inr (.inl ⟨_, _, _, rfl⟩))
  · rw [if_neg hz]
    exact cvt_aux2 (.sl m sz q xs) (by simp [slOf, hz]) (.inr ⟨_, _, _, _, rfl⟩)
/-- Bytes of the call's own, as a text's bytes. -/
def cvO2 (r : Rs) (i n : Nat) (l : List AV) : TK → Option (List D) → Option (AV × Rs)
  | .int .u8, some ds => chk (0 < n ∧ n = l.length) (some (.d (.sl 1 n ds), r.set i none))
  | _, _ => none
def cvO (ti : Ti) (r : Rs) (i n : Nat) : TK → Option (List AV) → Option (AV × Rs)
  | .sl e, some l => cvO2 r i n l (tK ti e) (allD l)
  | _, _ => none
theorem cvO_sl {i n : Nat} {e : TypeId} {l : List AV} : cvO ti r i n (.sl e) (some l) = cvO2 r i n l (tK ti e) (allD l) := rfl
theorem cvO2_u8 {i n : Nat} {l : List AV} {ds : List D} : cvO2 r i n l (.int .u8) (some ds) = chk (0 < n ∧ n = l.length) (some (.d (.sl 1 n ds), r.set i none)) := rfl
theorem cvt_osl {i n : Nat} : evCvt ti r s s (.osl i 0 1 n) = cvO ti r i n (tK ti s) (objOf r i) := by
  unfold evCvt evConv evCB evSB evFz cvO tK
  cases ti s with
  | none => rfl
  | some i' =>
    obtain ⟨u, _, _, _⟩ := i'
    cases u <;> try rfl
    rename_i e
    simp only [tkOf, if_true]
    cases objOf r i with
    | none =>
      cases ti e with
      | none => rfl
      | some ie =>
        obtain ⟨ue, _, _, _⟩ := ie
        cases ue <;> try rfl
        rename_i k
        cases k <;> rfl
    | some l =>
      simp only
      cases ti e with
      | none => cases allD l <;> rfl
      | some ie =>
        obtain ⟨ue, _, _, _⟩ := ie
        cases ue <;> try rfl
        all_goals first
          | (cases allD l <;> rfl; done)
          | (rename_i k; cases h : allD l <;> cases k <;> simp [cvO2, tkOf, h])
theorem cvt_nil : evCvt ti r s d (.d (.c (.slice none 0 0))) = cvL ti r (tK ti s) (tK ti d) (some []) := cvt_aux (.d (.c (.slice none 0 0))) (some .full, 0, []) rfl (.inr (.inr rfl))
end
end Go.Proofs.YteeknmjjpcbphaaDoor
