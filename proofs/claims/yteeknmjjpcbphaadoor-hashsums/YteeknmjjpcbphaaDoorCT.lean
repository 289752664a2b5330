/- The frame of these proofs, part T: what simp may look into, and small words for it. -/
import Derived.Test.YteeknmjjpcbphaaDoorCTA
set_option linter.unusedVariables false
set_option linter.unusedSimpArgs false
namespace Go.Proofs.YteeknmjjpcbphaaDoor
open Go
attribute [congr] bindP_congr
/-- What comes behind, as data: simp doesn't look into code that isn't run yet. -/
inductive KD where
  | base (K : Kt)
  | ret (res : List ResultVar) (O : AV → Rs → Prop)
  | seq (y : Code) (K : KD)
  | block (id : Nat) (K : KD)
  | loop (L : St → Prop) (K : KD)
def loopX (L : St → Prop) (K : Kt) : Kt
  | .normal, σ => L σ
  | e, σ => K e σ
section
variable (P : Program) (ti : Ti) (G : Nat → List D) (N : Nat)
def app : KD → Kt
  | .base K => K
  | .ret res O => retK ti res O
  | .seq y K => seqK (fun σ' => run P ti G N y (app K) σ') (app K)
  | .block id K => blockK id (app K)
  | .loop L K => loopX L (app K)
def R (c : Code) (K : KD) (σ : St) : Prop := run P ti G N c (app P ti G N K) σ
def A (K : KD) (e : Exit) (σ : St) : Prop := app P ti G N K e σ
/-- A drawn region goes on behind the first 'k' operations of its order. -/
def DWp (ops : Array Oper) (π : List Nat) (k : Nat) (K : KD) (σ : St) : Prop := ∀ E0 r0 w0 E a w rem, PendOK P ti ops π k rem a w → Rel G N E σ (puts rem a) w → Step E0 r0 w0 E σ.r w →
  wpAny P .any ops (noPanic (lift G N E0 r0 w0 (app P ti G N K))) (rem.length + (π.length - k)) (lstU ops (rem.map (·.1) ++ π.drop k)) a w
/-- What comes behind a region, and whether it draws its order. -/
inductive KM where
  | plain (K : KD)
  | draw (π kp : List Nat) (K : KD)
def kOf : KM → KD
  | .plain K => K
  | .draw _ _ K => K
def HO (ops : Array Oper) (l : List Oper) (M : KM) (σ : St) : Prop := match M with
  | .plain K => HL P G N ops l (app P ti G N K) σ
  | .draw π kp K => planOK ti N ops π kp = true → l = opl ops (π.drop (π.length - l.length)) → DWp P ti G N ops π (π.length - l.length) K σ
def endM (ops : Array Oper) (M : KM) : List Oper → St → Prop
  | [], σ' => app P ti G N (kOf M) .normal σ'
  | o :: rest, σ' => HO P ti G N ops (o :: rest) M σ'
def HC (c : Code) (K : KD) (σ : St) : Prop := Holds P G N c (app P ti G N K) σ
def EV (ops : Array Oper) (l : List Oper) (M : KM) (σ : St) : Prop := evk ti G ops l σ (endM P ti G N ops M)
end
section
variable {P : Program} {ti : Ti} {G : Nat → List D} {N : Nat} {K : KD} {σ : St}
theorem HC_of_R (hti : TiOK P ti) {c : Code} (h : R P ti G N c K σ) : HC P ti G N c K σ := run_sound hti c _ σ h
theorem HO_of_EV (hti : TiOK P ti) {ops : Array Oper} {l : List Oper} (hd : l.all (dstOK N) = true) (h : EV P ti G N ops l (.plain K) σ) : HO P ti G N ops l (.plain K) σ := by
  refine evk_sound hti l σ hd (evk_mono _ _ _ _ (fun rest σ' hk => ?_) h)
  cases rest with
  | nil => exact HL_nil hk
  | cons o rest => exact hk
theorem R_skip : R P ti G N .skip K σ = A P ti G N K .normal σ := rfl
theorem R_region {id : Nat} {ops : List Oper} : R P ti G N (.region id ops.toArray false) K σ = (ops.all (dstOK N) = true ∧ EV P ti G N ops.toArray ops (.plain K) σ) := by
  show (ops.all (dstOK N) = true ∧ evk ti G ops.toArray ops σ (endK P G N ops.toArray (app P ti G N K))) = (ops.all (dstOK N) = true ∧ evk ti G ops.toArray ops σ (endM P ti G N ops.toArray (.plain K)))
  have : endK P G N ops.toArray (app P ti G N K) = endM P ti G N ops.toArray (.plain K) := by funext l s; cases l <;> rfl
  rw [this]
theorem R_draw {id : Nat} {ops : Array Oper} : R P ti G N (.region id ops true) K σ = HC P ti G N (.region id ops true) K σ := rfl
theorem R_seq {x y : Code} : R P ti G N (.seq x y) K σ = R P ti G N x (.seq y K) σ := rfl
theorem R_cond {c : Operand} {x y : Code} : R P ti G N (.cond c x y) K σ = bindP (boolOfA (σ.ev G c)) fun t => (t = true → R P ti G N x K σ) ∧ (t = false → R P ti G N y K σ) := rfl
theorem R_block {id : Nat} {c : Code} : R P ti G N (.block id c) K σ = R P ti G N c (.block id K) σ := rfl
theorem R_exit {id : Nat} : R P ti G N (.exit id) K σ = A P ti G N K (.exit id) σ := rfl
theorem R_ret : R P ti G N .ret K σ = A P ti G N K .ret σ := rfl
theorem R_loop {c : Code} : R P ti G N (.loop c) K σ = HC P ti G N (.loop c) K σ := rfl
theorem A_base {K : Kt} {e : Exit} : A P ti G N (.base K) e σ = K e σ := rfl
theorem A_ret {res : List ResultVar} {O : AV → Rs → Prop} : A P ti G N (.ret res O) .ret σ = bindP (resA ti σ res) fun v => O v σ.r := rfl
theorem A_ret_normal {res : List ResultVar} {O : AV → Rs → Prop} : A P ti G N (.ret res O) .normal σ = bindP (resA ti σ res) fun v => O v σ.r := rfl
theorem A_seq_normal {y : Code} : A P ti G N (.seq y K) .normal σ = R P ti G N y K σ := rfl
theorem A_seq_ret {y : Code} : A P ti G N (.seq y K) .ret σ = A P ti G N K .ret σ := rfl
theorem A_seq_exit {y : Code} {i : Nat} : A P ti G N (.seq y K) (.exit i) σ = A P ti G N K (.exit i) σ := rfl
theorem A_block_normal {id : Nat} : A P ti G N (.block id K) .normal σ = A P ti G N K .normal σ := rfl
theorem A_block_ret {id : Nat} : A P ti G N (.block id K) .ret σ = A P ti G N K .ret σ := rfl
theorem A_block_exit {id i : Nat} : A P ti G N (.block id K) (.exit i) σ = if i = id then A P ti G N K .normal σ else A P ti G N K (.exit i) σ := rfl
theorem A_loop_normal {L : St → Prop} : A P ti G N (.loop L K) .normal σ = L σ := rfl
theorem A_loop_ret {L : St → Prop} : A P ti G N (.loop L K) .ret σ = A P ti G N K .ret σ := rfl
theorem A_loop_exit {L : St → Prop} {i : Nat} : A P ti G N (.loop L K) (.exit i) σ = A P ti G N K (.exit i) σ := rfl
/-- The call may be handed something to write. -/
def kpFree (M : KM) (n : Nat) : Bool := match M with
  | .plain _ => true
  | .draw π kp _ => !kp.contains (π.getD (π.length - n) 0)
theorem kOf_plain : kOf (.plain K) = K := rfl
theorem kOf_draw {π kp : List Nat} : kOf (.draw π kp K) = K := rfl
variable {M : KM}
theorem EV_nil {ops : Array Oper} : EV P ti G N ops [] M σ = A P ti G N (kOf M) .normal σ := rfl
theorem EV_cons {ops : Array Oper} {o : Oper} {rest : List Oper} : EV P ti G N ops (o :: rest) M σ = bindP (gd ops σ o) fun t =>
      (t = true → if stops o.op = true then HO P ti G N ops (o :: rest) M σ else bindP (evA ti (σ.ev G) σ.r o.op) fun q => EV P ti G N ops rest M (σ.putR o.dst q.1 q.2)) ∧
      (t = false → EV P ti G N ops rest M (σ.putR o.dst undA σ.r)) := rfl
theorem AC_of_R (hti : TiOK P ti) {f : FuncId} {fn : Func} {c : Code} {args : List AV} {r : Rs} {O : AV → Rs → Prop} (hcall : ∀ (as : Array Value) (w : World), (callFunc f as).run P w = .ok (.enter f as) w) (hf : P.funcs[f]? = some fn) (hb : fn.body = some c)
    {N : Nat} {res : List ResultVar} (hN : fn.ntmps = N) (hres : fn.results.toList = res) (hn : args.length ≤ N) (h : R P ti G N c (.ret res O) (initSt args r)) : AC P G f args r O := by
  subst hN; subst hres; exact AC_intro hti hcall hf hb hn (run_sound hti c _ _ h)
end
theorem get_mk (b : Nat → AV) (l : List (Nat × AV)) (r : Rs) (i : Nat) : St.get ⟨b, l, r⟩ i = lk l b i := rfl
theorem putR_some (b : Nat → AV) (l : List (Nat × AV)) (r : Rs) (i : Nat) (v : AV) (r' : Rs) : St.putR ⟨b, l, r⟩ (some i) v r' = ⟨b, (i, v) :: l, r'⟩ := rfl
theorem putR_none (b : Nat → AV) (l : List (Nat × AV)) (r : Rs) (v : AV) (r' : Rs) : St.putR ⟨b, l, r⟩ none v r' = ⟨b, l, r'⟩ := rfl
theorem lk_cons (j i : Nat) (v : AV) (l : List (Nat × AV)) (b : Nat → AV) : lk ((j, v) :: l) b i = if i = j then v else lk l b i := rfl
theorem lk_nil (i : Nat) (b : Nat → AV) : lk [] b i = b i := rfl
theorem ev_tmp (σ : St) (G : Nat → List D) (t : Tmp) : σ.ev G (.tmp t) = σ.get t := rfl
theorem ev_const (σ : St) (G : Nat → List D) (v : Value) : σ.ev G (.const v) = constAV v := rfl
theorem ev_global (σ : St) (G : Nat → List D) (g : Nat) : σ.ev G (.global g) = .el (G g) := rfl
theorem ev_func (σ : St) (G : Nat → List D) (f : FuncId) : σ.ev G (.func f) = .fn (.func f) [] [] := rfl
theorem const_int (k : IntKind) (n : Int) : constAV (.int k n) = .d (.c (.int k n)) := rfl
theorem const_bool (b : Bool) : constAV (.bool b) = .d (.c (.bool b)) := rfl
theorem const_string (s : ByteArray) : constAV (.string s) = .d (.c (.string s)) := rfl
theorem const_slice (a : Option Addr) (n c : Nat) : constAV (.slice a n c) = .d (.c (.slice a n c)) := rfl
theorem const_pointer (a : Option Addr) : constAV (.pointer a) = .d (.c (.pointer a)) := rfl
theorem const_nilFunc : constAV .nilFunc = .d (.c .nilFunc) := rfl
theorem const_map (r : Option Nat) : constAV (.map r) = .d (.c (.map r)) := rfl
theorem oneC_int (k : IntKind) (n : Int) : oneC (.int k n) = some (.d (.c (.int k n))) := rfl
theorem oneC_bool (b : Bool) : oneC (.bool b) = some (.d (.c (.bool b))) := rfl
theorem oneC_string (s : ByteArray) : oneC (.string s) = some (.d (.c (.string s))) := rfl
theorem ite_bool (c : Prop) [Decidable c] (x y : Bool) : (if c then AV.d (.c (.bool x)) else AV.d (.c (.bool y))) = AV.d (.c (.bool (if c then x else y))) := by split <;> rfl

/-! ### A way that is decided -/
theorem imp_tt (p : Prop) : (true = true → p) = p := by simp
theorem imp_tf (p : Prop) : (true = false → p) = True := by simp
theorem imp_ft (p : Prop) : (false = true → p) = True := by simp
theorem imp_ff (p : Prop) : (false = false → p) = p := by simp
theorem imp_tnt (p : Prop) : (true = (!true) → p) = True := by simp
theorem imp_tnf (p : Prop) : (true = (!false) → p) = p := by simp
theorem imp_fnt (p : Prop) : (false = (!true) → p) = p := by simp
theorem imp_fnf (p : Prop) : (false = (!false) → p) = True := by simp
theorem imp_F (p : Prop) : (False → p) = True := by simp
theorem imp_T (p : Prop) : (True → p) = p := by simp

/-! ### Whole numbers whose bounds are known -/
theorem w_i64 {n : Int} (h0 : -9223372036854775808 ≤ n) (h1 : n ≤ 9223372036854775807) : IntKind.i64.wrap n = n := by rw [IntKind.wrap_i64]; omega
theorem w_u64 {n : Int} (h0 : 0 ≤ n) (h1 : n ≤ 18446744073709551615) : IntKind.u64.wrap n = n := by
  simp only [IntKind.wrap, IntKind.bits, IntKind.signed, Bool.false_and, Bool.false_eq_true, if_false]
  omega
theorem w_u8 {n : Int} (h0 : 0 ≤ n) (h1 : n ≤ 255) : IntKind.u8.wrap n = n := by
  simp only [IntKind.wrap, IntKind.bits, IntKind.signed, Bool.false_and, Bool.false_eq_true, if_false]
  omega
theorem w_u32 {n : Int} (h0 : 0 ≤ n) (h1 : n ≤ 4294967295) : IntKind.u32.wrap n = n := by
  simp only [IntKind.wrap, IntKind.bits, IntKind.signed, Bool.false_and, Bool.false_eq_true, if_false]
  omega
theorem wrap_u64 (n : Int) : IntKind.u64.wrap n = n % 18446744073709551616 := by
  simp only [IntKind.wrap, IntKind.bits, IntKind.signed, Bool.false_and, Bool.false_eq_true, if_false]
  rfl
theorem wrap_u8 (n : Int) : IntKind.u8.wrap n = n % 256 := by
  simp only [IntKind.wrap, IntKind.bits, IntKind.signed, Bool.false_and, Bool.false_eq_true, if_false]
  rfl
theorem wrap_u32 (n : Int) : IntKind.u32.wrap n = n % 4294967296 := by
  simp only [IntKind.wrap, IntKind.bits, IntKind.signed, Bool.false_and, Bool.false_eq_true, if_false]
  rfl
theorem chk_true {α : Type} (x : Option α) : chk True x = x := if_pos trivial
theorem bD_len (l : List UInt8) : (bD l).length = l.length := bD_length l
theorem bD_append (l m : List UInt8) : bD l ++ bD m = bD (l ++ m) := by simp [bD]
theorem bD_cons (b : UInt8) (l : List UInt8) : D.c (.int .u8 b.toNat) :: bD l = bD (b :: l) := rfl
theorem bD_nil : ([] : List D) = bD [] := rfl
theorem bD_drop (l : List UInt8) (k : Nat) : (bD l).drop k = bD (l.drop k) := by simp [bD]
theorem bD_take (l : List UInt8) (k : Nat) : (bD l).take k = bD (l.take k) := by simp [bD]
theorem bD_get {l : List UInt8} {k : Nat} (h : k < l.length) : (bD l)[k]? = some (.c (.int .u8 (l.getD k 0).toNat)) := by
  simp [bD, List.getElem?_eq_getElem h, List.getD_eq_getElem?_getD]
theorem bD_drop_get {l : List UInt8} {k : Nat} (h : k < l.length) : (bD (l.drop k))[0]? = some (.c (.int .u8 (l.getD k 0).toNat)) := by
  simp [bD, List.getElem?_eq_getElem h, List.getD_eq_getElem?_getD]
end Go.Proofs.YteeknmjjpcbphaaDoor
