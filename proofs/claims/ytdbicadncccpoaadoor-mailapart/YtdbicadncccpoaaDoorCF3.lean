/- The frame of these proofs: an abstract interpreter, proved sound once. -/
import Derived.Test.YtdbicadncccpoaaDoorCF2
import Derived.Orders
import Derived.MapKept
import Derived.ReadAgain
import Derived.ChangeSame
import Derived.ChangeArms
import Derived.WideShapes
import Derived.SizedLaws
import Derived.JoinedCond
import Derived.Deep.CondSized
import Derived.Deep.Slices
import Derived.RowKit
import Derived.ProofKit
import Derived.OpenShut
/- The frame of these proofs, part W: the rules for memory. -/
set_option linter.unusedVariables false
set_option linter.unusedSimpArgs false
namespace Go.Proofs.YtdbicadncccpoaaDoor
open Go
section
variable {ti : Ti} {r r' : Rs} {t u s d e : TypeId} {k k' j : IntKind} {a b n m i : Int} {A B : ByteArray} {sz sz' q p off o f : Nat} {xs ys : List D} {l : List AV} {x y : AV} {mo : Mo} {mo' : Option Mo}

/-! ### Types -/
theorem szOf_eq : szOf ti t = match tK ti t with | .sl e => if tI ti e = true then some (tS ti e) else none | _ => none := by
  unfold szOf tK tI tS
  cases ti t with
  | none => rfl
  | some i =>
    obtain ⟨u, _, _, _⟩ := i
    cases u <;> simp [tkOf]
    rename_i e
    cases ti e <;> rfl

/-! ### Indexing -/
def ixStr : TK → ByteArray → Int → Option AV
  | .str, s, n => chk (0 ≤ n ∧ n < s.size) (some (.d (.c (.int .u8 (sB s n.toNat)))))
  | _, _, _ => none
theorem ixStr_str : ixStr .str A n = chk (0 ≤ n ∧ n < A.size) (some (.d (.c (.int .u8 (sB A n.toNat))))) := rfl
theorem ix_str : evIndex ti t (.d (.c (.string A))) n = ixStr (tK ti t) A n := by
  unfold evIndex tK ixStr
  cases ti t with
  | none => rfl
  | some i => obtain ⟨u, _, _, _⟩ := i; cases u <;> rfl
def ixGd : Bool → Bool → Nat → Nat → Int → List D → Option AV
  | true, true, sz, n, i, xs => chk (0 ≤ i ∧ i < n) (chk (i.toNat * sz + sz ≤ xs.length) (some (.d (.agg ((xs.drop (i.toNat * sz)).take sz)))))
  | true, false, sz, n, i, xs => chk (0 ≤ i ∧ i < n) ((xs[i.toNat * sz]?).map .d)
  | false, _, _, _, _, _ => none
theorem ixGd_agg : ixGd true true sz q n xs = chk (0 ≤ n ∧ n < q) (chk (n.toNat * sz + sz ≤ xs.length) (some (.d (.agg ((xs.drop (n.toNat * sz)).take sz))))) := rfl
theorem ixGd_one : ixGd true false sz q n xs = chk (0 ≤ n ∧ n < q) ((xs[n.toNat * sz]?).map .d) := rfl
def ixG (ti : Ti) : TK → Int → List D → Option AV
  | .arr n e, i, xs => ixGd (tI ti e) (tG ti e) (tS ti e) n i xs
  | _, _, _ => none
theorem ixG_arr : ixG ti (.arr q e) n xs = ixGd (tI ti e) (tG ti e) (tS ti e) q n xs := rfl
theorem ix_dagg : evIndex ti t (.d (.agg xs)) n = ixG ti (tK ti t) n xs := by
  unfold evIndex tK ixG
  cases ti t with
  | none => rfl
  | some i =>
    obtain ⟨u, _, _, _⟩ := i
    cases u <;> try rfl
    rename_i e
    simp only [tkOf]
    unfold ixGd tI tG tS
    cases ti e with
    | none => rfl
    | some ie => simp only [Option.isSome_some]; cases isAggD ie.u <;> simp
def ixAd : Bool → Bool → Nat → Nat → Int → List AV → Option AV
  | true, true, sz, n, i, l => chk (0 ≤ i ∧ i < n) (chk (i.toNat * sz + sz ≤ l.length) (some (mkAgg ((l.drop (i.toNat * sz)).take sz))))
  | true, false, sz, n, i, l => chk (0 ≤ i ∧ i < n) (l[i.toNat * sz]?)
  | false, _, _, _, _, _ => none
theorem ixAd_agg : ixAd true true sz q n l = chk (0 ≤ n ∧ n < q) (chk (n.toNat * sz + sz ≤ l.length) (some (mkAgg ((l.drop (n.toNat * sz)).take sz)))) := rfl
theorem ixAd_one : ixAd true false sz q n l = chk (0 ≤ n ∧ n < q) (l[n.toNat * sz]?) := rfl
def ixA (ti : Ti) : TK → Int → List AV → Option AV
  | .arr n e, i, l => ixAd (tI ti e) (tG ti e) (tS ti e) n i l
  | _, _, _ => none
theorem ixA_arr : ixA ti (.arr q e) n l = ixAd (tI ti e) (tG ti e) (tS ti e) q n l := rfl
theorem ix_agg : evIndex ti t (.agg l) n = ixA ti (tK ti t) n l := by
  unfold evIndex tK ixA
  cases ti t with
  | none => rfl
  | some i =>
    obtain ⟨u, _, _, _⟩ := i
    cases u <;> try rfl
    rename_i e
    simp only [tkOf]
    unfold ixAd tI tG tS
    cases ti e with
    | none => rfl
    | some ie => simp only [Option.isSome_some]; cases isAggD ie.u <;> simp
def ixD : Option Nat → Nat → Nat → List D → Int → Option AV
  | some sz', sz, n, xs, i => if sz' = sz then chk (0 ≤ i ∧ i < n ∧ 0 < sz) (some (.el (xs.drop (i.toNat * sz)))) else none
  | none, _, _, _, _ => none
theorem ixD_some : ixD (some sz') sz q xs i = if sz' = sz then chk (0 ≤ i ∧ i < q ∧ 0 < sz) (some (.el (xs.drop (i.toNat * sz)))) else none := rfl
theorem ixa_dsl : evIndexAddr ti r t (.d (.sl sz q xs)) i = ixD (szOf ti t) sz q xs i := by
  unfold evIndexAddr ixD slOf
  cases szOf ti t with
  | none => rfl
  | some sz' =>
    simp only
    by_cases h : sz = sz'
    · subst h; simp
    · simp [h, Ne.symm h]
theorem ixa_sl : evIndexAddr ti r t (.sl mo sz q xs) i = ixD (szOf ti t) sz q xs i := by
  unfold evIndexAddr ixD slOf
  cases szOf ti t with
  | none => rfl
  | some sz' =>
    simp only
    by_cases h : sz = sz'
    · subst h; simp
    · simp [h, Ne.symm h]
def ixP (ti : Ti) : TK → Option (List AV) → Nat → Nat → Int → Option AV
  | .arr n e, some _, o, off, i => if tI ti e = true then chk (0 ≤ i ∧ i < n) (some (.ptr o (off + i.toNat * tS ti e))) else none
  | _, _, _, _, _ => none
theorem ixP_arr : ixP ti (.arr q e) (some l) o off i = if tI ti e = true then chk (0 ≤ i ∧ i < q) (some (.ptr o (off + i.toNat * tS ti e))) else none := rfl
theorem ixa_ptr : evIndexAddr ti r t (.ptr o off) i = ixP ti (tK ti t) (objOf r o) o off i := by
  unfold evIndexAddr tK ixP tI tS
  dsimp only
  cases ti t with
  | none => rfl
  | some i' =>
    obtain ⟨u, _, _, _⟩ := i'
    cases u <;> cases objOf r o <;> simp [tkOf]
    rename_i e _
    cases ti e <;> rfl
def ixE (ti : Ti) : TK → List D → Int → Option AV
  | .arr n e, xs, i => if tI ti e = true then chk (0 ≤ i ∧ i < n) (some (.el (xs.drop (i.toNat * tS ti e)))) else none
  | _, _, _ => none
theorem ixE_arr : ixE ti (.arr q e) xs i = if tI ti e = true then chk (0 ≤ i ∧ i < q) (some (.el (xs.drop (i.toNat * tS ti e)))) else none := rfl
theorem ixa_el : evIndexAddr ti r t (.el xs) i = ixE ti (tK ti t) xs i := by
  unfold evIndexAddr tK ixE tI tS
  cases ti t with
  | none => rfl
  | some i' =>
    obtain ⟨u, _, _, _⟩ := i'
    cases u <;> simp [tkOf]
    rename_i e
    cases ti e <;> rfl
def ixO : Option Nat → Option (List AV) → Nat → Nat → Nat → Nat → Int → Option AV
  | some sz', some _, o, off, sz, n, i => if sz' = sz then chk (0 ≤ i ∧ i < n) (some (.ptr o (off + i.toNat * sz))) else none
  | _, _, _, _, _, _, _ => none
theorem ixO_some : ixO (some sz') (some l) o off sz q i = if sz' = sz then chk (0 ≤ i ∧ i < q) (some (.ptr o (off + i.toNat * sz))) else none := rfl
theorem ixa_osl : evIndexAddr ti r t (.osl o off sz q) i = ixO (szOf ti t) (objOf r o) o off sz q i := by
  unfold evIndexAddr ixO
  dsimp only
  cases objOf r o with
  | none => cases szOf ti t <;> rfl
  | some l =>
    cases szOf ti t with
    | none => simp [chk]
    | some sz' =>
      by_cases h : sz' = sz
      · subst h; simp [chk]
      · simp [chk, h]

/-! ### Fields -/
def fdP (ti : Ti) : Option (Nat × TypeId) → Option (List AV) → Nat → Nat → Option AV
  | some (fo, ft), some _, o, off => if tI ti ft = true then chk (tS ti ft ≠ 0) (some (.ptr o (off + fo))) else none
  | _, _, _, _ => none
theorem fdP_some {fo : Nat} {ft : TypeId} : fdP ti (some (fo, ft)) (some l) o off = if tI ti ft = true then chk (tS ti ft ≠ 0) (some (.ptr o (off + fo))) else none := rfl
theorem fda_ptr : evFieldAddr ti r t (.ptr o off) f = fdP ti (fieldOf ti t f) (objOf r o) o off := by
  unfold evFieldAddr fdP tI tS
  dsimp only
  cases fieldOf ti t f with
  | none => rfl
  | some p =>
    obtain ⟨fo, ft⟩ := p
    simp only
    generalize objOf r o = w
    cases w with
    | none => cases ti ft <;> rfl
    | some i => dsimp only; cases ti ft <;> rfl
def fdE (ti : Ti) : Option (Nat × TypeId) → List D → Option AV
  | some (fo, ft), xs => if tI ti ft = true then chk (tS ti ft ≠ 0) (some (.el (xs.drop fo))) else none
  | _, _ => none
theorem fdE_some {fo : Nat} {ft : TypeId} : fdE ti (some (fo, ft)) xs = if tI ti ft = true then chk (tS ti ft ≠ 0) (some (.el (xs.drop fo))) else none := rfl
theorem fda_el : evFieldAddr ti r t (.el xs) f = fdE ti (fieldOf ti t f) xs := by
  unfold evFieldAddr fdE tI tS
  cases fieldOf ti t f with
  | none => rfl
  | some p =>
    obtain ⟨fo, ft⟩ := p
    simp only
    cases ti ft <;> rfl
def fdA (ti : Ti) : Option (Nat × TypeId) → List D → Option AV
  | some (fo, ft), xs => if tI ti ft = true then (if tG ti ft = true then chk (fo + tS ti ft ≤ xs.length) (some (.d (.agg ((xs.drop fo).take (tS ti ft))))) else (xs[fo]?).map .d) else none
  | _, _ => none
theorem fdA_some {fo : Nat} {ft : TypeId} : fdA ti (some (fo, ft)) xs = if tI ti ft = true then (if tG ti ft = true then chk (fo + tS ti ft ≤ xs.length) (some (.d (.agg ((xs.drop fo).take (tS ti ft))))) else (xs[fo]?).map .d) else none := rfl
theorem fd_dagg : evField ti t (.d (.agg xs)) f = fdA ti (fieldOf ti t f) xs := by
  unfold evField fdA tI tS tG
  cases fieldOf ti t f with
  | none => rfl
  | some p =>
    obtain ⟨fo, ft⟩ := p
    simp only
    cases ti ft with
    | none => rfl
    | some i =>
      simp only [Option.isSome_some, if_true]
      cases isAggD i.u
      · simp
      · simp only [if_true]
        unfold chk; split <;> rfl
def fdG (ti : Ti) : Option (Nat × TypeId) → List AV → Option AV
  | some (fo, ft), l => if tI ti ft = true then (if tG ti ft = true then chk (fo + tS ti ft ≤ l.length) (some (mkAgg ((l.drop fo).take (tS ti ft)))) else l[fo]?) else none
  | _, _ => none
theorem fdG_some {fo : Nat} {ft : TypeId} : fdG ti (some (fo, ft)) l = if tI ti ft = true then (if tG ti ft = true then chk (fo + tS ti ft ≤ l.length) (some (mkAgg ((l.drop fo).take (tS ti ft)))) else l[fo]?) else none := rfl
theorem fd_agg : evField ti t (.agg l) f = fdG ti (fieldOf ti t f) l := by
  unfold evField fdG tI tS tG
  cases fieldOf ti t f with
  | none => rfl
  | some p =>
    obtain ⟨fo, ft⟩ := p
    simp only
    cases ti ft <;> rfl

/-! ### Loads -/
def ldE : Bool → Bool → Nat → List D → Option AV
  | true, true, s, xs => chk (s ≤ xs.length) (some (.d (.agg (xs.take s))))
  | true, false, _, xs => (xs[0]?).map .d
  | false, _, _, _ => none
theorem ldE_agg : ldE true true q xs = chk (q ≤ xs.length) (some (.d (.agg (xs.take q)))) := rfl
theorem ldE_one : ldE true false q xs = (xs[0]?).map .d := rfl
theorem ld_el : evLoad ti r t (.el xs) = ldE (tI ti t) (tG ti t) (tS ti t) xs := by
  unfold evLoad ldE tI tG tS
  cases ti t with
  | none => rfl
  | some i => simp only [Option.isSome_some]; cases isAggD i.u <;> rfl
def ldP : Bool → Bool → Nat → Option (List AV) → Nat → Option AV
  | true, true, s, some l, off => chk (off + s ≤ l.length) (some (mkAgg ((l.drop off).take s)))
  | true, false, _, some l, off => l[off]?
  | _, _, _, _, _ => none
theorem ldP_agg : ldP true true q (some l) off = chk (off + q ≤ l.length) (some (mkAgg ((l.drop off).take q))) := rfl
theorem ldP_one : ldP true false q (some l) off = l[off]? := rfl
theorem ld_ptr : evLoad ti r t (.ptr o off) = ldP (tI ti t) (tG ti t) (tS ti t) (objOf r o) off := by
  unfold evLoad ldP tI tG tS
  cases ti t with
  | none => cases objOf r o <;> rfl
  | some i => simp only [Option.isSome_some]; cases objOf r o <;> cases isAggD i.u <;> rfl

/-! ### Data out of what stands in slots -/
def cons2 : Option D → Option (List D) → Option (List D)
  | some d, some ds => some (d :: ds)
  | _, _ => none
theorem cons2_some {d : D} {ds : List D} : cons2 (some d) (some ds) = some (d :: ds) := rfl
theorem cons2_none {ds : Option (List D)} : cons2 none ds = none := rfl
theorem cons2_none2 {d : Option D} : cons2 d none = none := by cases d <;> rfl
theorem allD_nil : allD [] = some [] := rfl
theorem allD_cons : allD (x :: l) = cons2 (toD x) (allD l) := by
  rw [allD]; unfold cons2; cases toD x <;> cases allD l <;> rfl
theorem toD_d {z : D} : toD (.d z) = some z := rfl
theorem toD_sl : toD (.sl mo sz q xs) = some (.sl sz q xs) := rfl
theorem toD_agg : toD (.agg l) = (allD l).map .agg := rfl
theorem toD_ptr : toD (.ptr o off) = none := rfl
theorem toD_osl : toD (.osl o off sz q) = none := rfl
theorem toD_mp : toD (.mp o) = none := rfl
theorem toD_fn {g : Fn} {v w : List AV} : toD (.fn g v w) = none := rfl
def mk2 : Option (List D) → List AV → AV
  | some ds, _ => .d (.agg ds)
  | none, l => .agg l
theorem mk2_some : mk2 (some xs) l = .d (.agg xs) := rfl
theorem mk2_none : mk2 none l = .agg l := rfl
theorem mkAgg_eq : mkAgg l = mk2 (allD l) l := by unfold mkAgg mk2; cases allD l <;> rfl
theorem ca_dagg : cellsAV (.d (.agg xs)) = some (xs.map .d) := rfl
theorem ca_agg : cellsAV (.agg l) = some l := rfl
theorem ca_c {v : Value} : cellsAV (.d (.c v)) = some [.d (.c v)] := rfl
theorem ca_dsl : cellsAV (.d (.sl sz q xs)) = some [.d (.sl sz q xs)] := rfl
theorem ca_sl : cellsAV (.sl mo sz q xs) = some [.sl mo sz q xs] := rfl
theorem ca_ptr : cellsAV (.ptr o off) = some [.ptr o off] := rfl
theorem ca_mp : cellsAV (.mp o) = some [.mp o] := rfl
theorem ca_fn {g : Fn} {v w : List AV} : cellsAV (.fn g v w) = some [.fn g v w] := rfl
theorem ca_osl : cellsAV (.osl o off sz q) = some [.osl o off sz q] := rfl
theorem ca_el : cellsAV (.el xs) = some [.el xs] := rfl
theorem lv_d {z : D} : liveAV r (.d z) = true := rfl
theorem lv_sl : liveAV r (.sl mo sz q xs) = true := rfl
theorem lv_agg : liveAV r (.agg l) = true := rfl
theorem lv_mp {i : Nat} : liveAV r (.mp i) = (mapOf r i).isSome := by
  simp only [liveAV, mapOf]
  generalize r[i]? = q
  rcases q with _ | _ | x <;> first | rfl | (cases x <;> rfl)
theorem lv_fn {g : Fn} {v w : List AV} : liveAV r (.fn g v w) = true := rfl
theorem lv_el : liveAV r (.el xs) = true := rfl
theorem lv_osl : liveAV r (.osl o off sz q) = true := rfl
theorem lv_ptr : liveAV r (.ptr o off) = (objOf r o).isSome := by
  unfold liveAV objOf
  dsimp only
  cases h : r[o]? with
  | none => rfl
  | some x => cases x with
    | none => rfl
    | some x => cases x <;> rfl

/-! ### Structs and arrays of the call's own -/
def bx : Option (List AV) → Bool → Rs → Option (AV × Rs)
  | some cs, true, r => some (.ptr r.length 0, r ++ [some (.obj cs)])
  | _, _, _ => none
theorem bx_some : bx (some l) true r = some (.ptr r.length 0, r ++ [some (.obj l)]) := rfl
theorem box_eq : evBox r x = bx (cellsAV x) (liveAV r x) r := by
  unfold evBox bx
  cases cellsAV x with
  | none => rfl
  | some cs => cases liveAV r x <;> rfl
theorem alc_some : evAlc r (some l) = some (.ptr r.length 0, r ++ [some (.obj l)]) := rfl
def sto : Bool → Nat → Option (List AV) → Option (List AV) → Bool → Rs → Nat → Nat → Option (AV × Rs)
  | true, s, some cs, some l, true, r, o, off => chk (cs.length = s ∧ off + cs.length ≤ l.length) (some (.top, r.set o (some (.obj (splice l off cs)))))
  | _, _, _, _, _, _, _, _ => none
theorem sto_some {cs : List AV} : sto true q (some cs) (some l) true r o off = chk (cs.length = q ∧ off + cs.length ≤ l.length) (some (.top, r.set o (some (.obj (splice l off cs))))) := rfl
theorem st_ptr : evStore ti r t (.ptr o off) x = sto (tI ti t) (tS ti t) (cellsAV x) (objOf r o) (liveAV r x) r o off := by
  unfold evStore sto tI tS
  cases ti t with
  | none => rfl
  | some i =>
    simp only [Option.isSome_some]
    cases cellsAV x with
    | none => rfl
    | some cs =>
      simp only
      cases objOf r o with
      | none => rfl
      | some l => cases liveAV r x <;> rfl
theorem splice_one : splice l off [x] = l.set off x := rfl
theorem splice_two {cs : List AV} : splice l off (x :: y :: cs) = l.take off ++ (x :: y :: cs) ++ l.drop (off + (x :: y :: cs).length) := rfl

/-! ### Slices and structs made of parts -/
def bs0 : Option Nat → Rs → Option (AV × Rs)
  | some sz, r => some (.sl .full sz 0 [], r)
  | none, _ => none
theorem bs0_some : bs0 (some sz) r = some (.sl .full sz 0 [], r) := rfl
theorem bs_zero : evBS ti r t 0 [] = bs0 (szOf ti t) r := by
  unfold evBS szOf bs0
  cases ti t with
  | none => rfl
  | some i =>
    obtain ⟨u, _, _, _⟩ := i
    cases u <;> try rfl
    rename_i e
    simp only
    cases ti e with
    | none => rfl
    | some ie => simp
def fl (place : Nat → Option (Nat × Nat)) : Option (Nat × Nat) → Option (List AV) → List AV → List (Nat × AV) → Option (List AV)
  | some (off, size), some cs, cells, rest => if cs.length = size ∧ off + size ≤ cells.length then fillA place (splice cells off cs) rest else none
  | _, _, _, _ => none
theorem fl_some {place : Nat → Option (Nat × Nat)} {cs cells : List AV} {rest : List (Nat × AV)} : fl place (some (off, sz)) (some cs) cells rest = if cs.length = sz ∧ off + sz ≤ cells.length then fillA place (splice cells off cs) rest else none := rfl
theorem fill_nil {place : Nat → Option (Nat × Nat)} : fillA place l [] = some l := rfl
theorem fill_cons {place : Nat → Option (Nat × Nat)} {rest : List (Nat × AV)} : fillA place l ((q, x) :: rest) = fl place (place q) (cellsAV x) l rest := by
  rw [fillA]
  unfold fl
  cases place q with
  | none => rfl
  | some p =>
    obtain ⟨off, size⟩ := p
    cases cellsAV x with
    | none => rfl
    | some cs =>
      simp only
      split
      · rename_i h
        rw [splice_eq (by omega), h.1]
      · rfl
def bs4 : Option (List D) → List AV → Nat → Nat → Rs → Option (AV × Rs)
  | some ds, _, s, n, r => some (.sl .full s n ds, r)
  | none, out, s, n, r => some (.osl r.length 0 s n, r ++ [some (.obj out)])
theorem bs4_some : bs4 (some xs) l sz q r = some (.sl .full sz q xs, r) := rfl
theorem bs4_none : bs4 none l sz q r = some (.osl r.length 0 sz q, r ++ [some (.obj l)]) := rfl
theorem litO_f {o : Option (List D)} : litO false o = o := rfl
theorem litO_t {o : Option (List D)} : litO true o = none := rfl
def bs3 (li : Bool) : Option (List AV) → Nat → Nat → Rs → Option (AV × Rs)
  | some out, s, n, r => bs4 (litO li (allD out)) out s n r
  | none, _, _, _ => none
theorem bs3_some {li : Bool} : bs3 li (some l) sz q r = bs4 (litO li (allD l)) l sz q r := rfl
def bs2 (li : Bool) : Option (List AV) → Nat → Bool → Nat → List (Nat × AV) → Rs → Option (AV × Rs)
  | some zl, s, true, n, parts, r => if 0 < s ∧ n * s ≤ 16777216 then bs3 li (fillA (fun i => some (i * s, s)) (repA zl n) parts) s n r else none
  | _, _, _, _, _, _ => none
theorem bs2_some {li : Bool} {zl : List AV} {parts : List (Nat × AV)} : bs2 li (some zl) sz true q parts r = if 0 < sz ∧ q * sz ≤ 16777216 then bs3 li (fillA (fun i => some (i * sz, sz)) (repA zl q) parts) sz q r else none := rfl
def bs1 (ti : Ti) : TK → Bool → Nat → List (Nat × AV) → Rs → Option (AV × Rs)
  | .sl e, q, n, parts, r => if tI ti e = true then bs2 ti.lit (tZ ti e) (tS ti e) q n parts r else none
  | _, _, _, _, _ => none
theorem bs1_sl {parts : List (Nat × AV)} {z : Bool} : bs1 ti (.sl e) z q parts r = if tI ti e = true then bs2 ti.lit (tZ ti e) (tS ti e) z q parts r else none := rfl
theorem bs_succ {parts : List (Nat × AV)} : evBS ti r t (q + 1) parts = bs1 ti (tK ti t) (parts.all fun p => liveAV r p.2) (q + 1) parts r := by
  unfold evBS bs1 tK
  cases ti t with
  | none => rfl
  | some i =>
    obtain ⟨u, _, _, _⟩ := i
    cases u <;> try rfl
    rename_i e
    simp only [tkOf]
    unfold tI tZ tS bs2
    cases ti e with
    | none => rfl
    | some ie =>
      simp only [Option.isSome_some, if_true]
      cases zeroA ie.zero with
      | none => rfl
      | some zl =>
        simp only
        cases parts.all fun p => liveAV r p.2 with
        | false => simp
        | true =>
          simp only [true_and]
          split
          · unfold bs3
            cases fillA (fun i => some (i * ie.size, ie.size)) (repA zl (q + 1)) parts with
            | none => rfl
            | some out => simp only; unfold bs4; cases litO ti.lit (allD out) <;> rfl
          · rfl
theorem rep_zero {zl : List AV} : repA zl 0 = [] := rfl
theorem rep_succ {zl : List AV} : repA zl (q + 1) = zl ++ repA zl q := rfl
def bd2 : Option (List (Nat × Nat)) → Option (List AV) → Bool → List (Nat × AV) → Option AV
  | some pl, some zl, true, parts => (fillA (fun i => pl[i]?) zl parts).map mkAgg
  | _, _, _, _ => none
theorem bd2_some {pl : List (Nat × Nat)} {zl : List AV} {parts : List (Nat × AV)} : bd2 (some pl) (some zl) true parts = (fillA (fun i => pl[i]?) zl parts).map mkAgg := rfl
def bd3 (ti : Ti) : Option (List AV) → Bool → TypeId → List (Nat × AV) → Option AV
  | some zl, true, e, parts => if tI ti e = true then (fillA (fun i => some (i * tS ti e, tS ti e)) zl parts).map mkAgg else none
  | _, _, _, _ => none
theorem bd3_some {zl : List AV} {parts : List (Nat × AV)} : bd3 ti (some zl) true e parts = if tI ti e = true then (fillA (fun i => some (i * tS ti e, tS ti e)) zl parts).map mkAgg else none := rfl
def bd1 (ti : Ti) (t : TypeId) : TK → Bool → List (Nat × AV) → Option AV
  | .st, q, parts => bd2 (tP ti t) (tZ ti t) q parts
  | .arr _ e, q, parts => bd3 ti (tZ ti t) q e parts
  | _, _, _ => none
theorem bd1_st {z : Bool} {parts : List (Nat × AV)} : bd1 ti t .st z parts = bd2 (tP ti t) (tZ ti t) z parts := rfl
theorem bd1_arr {z : Bool} {parts : List (Nat × AV)} : bd1 ti t (.arr q e) z parts = bd3 ti (tZ ti t) z e parts := rfl
theorem bd_eq {parts : List (Nat × AV)} : evBuild ti r t parts = bd1 ti t (tK ti t) (parts.all fun p => liveAV r p.2) parts := by
  unfold evBuild bd1 tK
  cases hall : parts.all fun p => liveAV r p.2 with
  | false =>
    simp only [Bool.false_eq_true, if_false]
    cases ti t with
    | none => rfl
    | some i => obtain ⟨u, _, _, _⟩ := i; cases u <;> simp [tkOf, bd2, bd3]
  | true =>
    simp only [if_true]
    unfold bd2 bd3 tP tZ tI tS
    cases ti t with
    | none => rfl
    | some i =>
      obtain ⟨u, _, _, z⟩ := i
      cases u <;> try rfl
      · rename_i n e
        simp only [tkOf]
        generalize zeroA z = w
        cases w with
        | none => cases ti e <;> rfl
        | some ie => dsimp only; cases ti e <;> rfl
      · rename_i fs
        simp only [tkOf]
        cases placesA ti fs.toList <;> cases zeroA z <;> rfl

/-! ### Appending -/
theorem slOf_dsl : slOf sz (.d (.sl sz' q xs)) = if sz' = sz then some (none, q, xs) else none := rfl
theorem slOf_nil : slOf sz (.d (.c (.slice none 0 0))) = some (some .full, 0, []) := rfl
theorem slOf_cs {a : Addr} {c : Nat} : slOf sz (.d (.c (.slice (some a) 0 c))) = some (none, 0, []) := rfl
theorem slOf_sl : slOf sz (.sl mo sz' q xs) = if sz' = sz then some (some mo, q, xs) else none := rfl
theorem srcOf_str : srcOf r sz (.d (.c (.string A))) = if sz = 1 then some (A.size, bD A.toList) else none := rfl
theorem srcOf_dsl : srcOf r sz (.d (.sl sz' q xs)) = if sz' = sz then some (q, xs) else none := by
  unfold srcOf; simp only [slOf_dsl]; by_cases h : sz' = sz <;> simp [h]
theorem srcOf_sl : srcOf r sz (.sl mo sz' q xs) = if sz' = sz then some (q, xs) else none := by
  unfold srcOf; simp only [slOf_sl]; by_cases h : sz' = sz <;> simp [h]
theorem srcOf_cs {a : Addr} {c : Nat} : srcOf r sz (.d (.c (.slice (some a) 0 c))) = some (0, []) := rfl
theorem srcOf_nil : srcOf r sz (.d (.c (.slice none 0 0))) = some (0, []) := rfl
def srO (o : Option (List AV)) (off sz sz' n : Nat) : Option (Nat × List D) := match o with
  | some l => if sz' = sz ∧ 0 < n then (allD ((l.drop off).take (n * sz))).map fun ds => (n, ds) else none
  | none => none
theorem srO_some {sz sz' n : Nat} : srO (some l) off sz sz' n = if sz' = sz ∧ 0 < n then (allD ((l.drop off).take (n * sz))).map fun ds => (n, ds) else none := rfl
theorem srcOf_osl {n : Nat} : srcOf r sz (.osl o off sz' n) = srO (objOf r o) off sz sz' n := by
  unfold srcOf srO
  simp only
  cases objOf r o <;> split <;> simp_all
def arX : Option (Option Res) → Rs → Nat → Nat → Nat → Option (Nat × Rs)
  | some (some (.tok k)), r, lx, ly, i => chk (k = lx) (some (i, r.set i (some (.tok (lx + ly)))))
  | _, _, _, _, _ => none
theorem arX_tok {k lx ly : Nat} : arX (some (some (.tok k))) r lx ly o = chk (k = lx) (some (o, r.set o (some (.tok (lx + ly))))) := rfl
theorem app_full {lx ly : Nat} : appRes r lx ly .full = some (r.length, r ++ [some (.tok (lx + ly))]) := rfl
theorem app_own {lx ly : Nat} : appRes r lx ly (.own o) = arX (r[o]?) r lx ly o := by
  unfold appRes arX chk
  dsimp only
  cases r[o]? with
  | none => rfl
  | some x => cases x with
    | none => rfl
    | some x => cases x <;> rfl
def isSrc : TK → Bool
  | .sl _ => true
  | .str => true
  | _ => false
theorem isSrc_sl : isSrc (.sl e) = true := rfl
theorem isSrc_str : isSrc .str = true := rfl
def ap2 : Option (Nat × Rs) → Nat → Nat → Nat → Nat → List D → List D → Option (AV × Rs)
  | some (i, r'), sz, by_, n, m, xs, ys => chk (0 < sz ∧ n + m ≤ 9223372036854775807 ∧ (n + m) * by_ ≤ 140737488355328) (some (.sl (.own i) sz (n + m) (xs ++ ys), r'))
  | none, _, _, _, _, _, _ => none
theorem ap2_some {by_ n m : Nat} : ap2 (some (o, r')) sz by_ n m xs ys = chk (0 < sz ∧ n + m ≤ 9223372036854775807 ∧ (n + m) * by_ ≤ 140737488355328) (some (.sl (.own o) sz (n + m) (xs ++ ys), r')) := rfl
def ap1 (r : Rs) : Option (Option Mo × Nat × List D) → Option (Nat × List D) → Bool → Nat → Nat → Option (AV × Rs)
  | some (some mo, n, xs), some (m, ys), true, sz, by_ => ap2 (appRes r xs.length ys.length mo) sz by_ n m xs ys
  | _, _, _, _, _ => none
theorem ap1_some {by_ n m : Nat} : ap1 r (some (some mo, n, xs)) (some (m, ys)) true sz by_ = ap2 (appRes r xs.length ys.length mo) sz by_ n m xs ys := rfl
def ap0 (ti : Ti) (r : Rs) : TK → TK → AV → AV → Option (AV × Rs)
  | .sl e, u, s, x => if tI ti e = true then ap1 r (slOf (tS ti e) s) (srcOf r (tS ti e) x) (isSrc u) (tS ti e) (tB ti e) else none
  | _, _, _, _ => none
theorem ap0_sl {k : TK} : ap0 ti r (.sl e) k x y = if tI ti e = true then ap1 r (slOf (tS ti e) x) (srcOf r (tS ti e) y) (isSrc k) (tS ti e) (tB ti e) else none := rfl
theorem ap_eq : evApp ti r t u x y = ap0 ti r (tK ti t) (tK ti u) x y := by
  unfold evApp ap0 tK
  cases ti t with
  | none => cases ti u <;> rfl
  | some i =>
    obtain ⟨ut, _, _, _⟩ := i
    cases ti u with
    | none =>
      cases ut <;> try rfl
      rename_i e
      simp only [tkOf, isSrc]
      unfold tI tS tB ap1
      cases ti e with
      | none => rfl
      | some ie => simp
    | some iu =>
      obtain ⟨uu, _, _, _⟩ := iu
      cases ut <;> try rfl
      rename_i e
      simp only [tkOf]
      unfold tI tS tB ap1
      cases ti e with
      | none => rfl
      | some ie =>
        simp only [Option.isSome_some, if_true]
        cases hs : slOf ie.size x with
        | none => simp
        | some q =>
          obtain ⟨q1, q2, q3⟩ := q
          cases q1 with
          | none => simp
          | some mo =>
            cases hx : srcOf r ie.size y with
            | none => simp
            | some p =>
              obtain ⟨p1, p2⟩ := p
              dsimp only
              cases uu <;> dsimp only [isSrc, ap2] <;> (try (cases appRes r q3.length p2.length mo <;> rfl))
def mk1 (ti : Ti) (r : Rs) : TK → Int → Int → Option (AV × Rs)
  | .sl e, n, k => if tI ti e = true then chk (n = 0 ∧ 0 ≤ k ∧ (tB ti e : Int) * k ≤ 281474976710656 ∧ k ≤ 9223372036854775807) (some (.sl (.own r.length) (tS ti e) 0 [], r ++ [some (.tok 0)])) else none
  | _, _, _ => none
theorem mk1_sl : mk1 ti r (.sl e) n m = if tI ti e = true then chk (n = 0 ∧ 0 ≤ m ∧ (tB ti e : Int) * m ≤ 281474976710656 ∧ m ≤ 9223372036854775807) (some (.sl (.own r.length) (tS ti e) 0 [], r ++ [some (.tok 0)])) else none := rfl
theorem mk_eq : evMk ti r t (.d (.c (.int k n))) (.d (.c (.int j m))) = mk1 ti r (tK ti t) n m := by
  unfold evMk mk1 tK
  cases ti t with
  | none => rfl
  | some i =>
    obtain ⟨ut, _, _, _⟩ := i
    cases ut <;> try rfl
    rename_i e
    simp only [tkOf, intOfA]
    unfold tI tS tB
    cases ti e <;> rfl

/-! ### Lengths -/
def lnS : TK → Int → Option Int
  | .str, n => some n
  | _, _ => none
theorem lnS_str : lnS .str n = some n := rfl
def lnL : TK → Int → Option Int
  | .sl _, n => some n
  | _, _ => none
theorem lnL_sl : lnL (.sl e) n = some n := rfl
theorem len_str : lenAV ti r t (.d (.c (.string A))) = lnS (tK ti t) A.size := by
  unfold lenAV lnS tK
  cases ti t with
  | none => rfl
  | some i => obtain ⟨u, _, _, _⟩ := i; cases u <;> rfl
theorem len_dsl : lenAV ti r t (.d (.sl sz q xs)) = lnL (tK ti t) q := by
  unfold lenAV lnL tK
  cases ti t with
  | none => rfl
  | some i => obtain ⟨u, _, _, _⟩ := i; cases u <;> rfl
theorem len_sl : lenAV ti r t (.sl mo sz q xs) = lnL (tK ti t) q := by
  unfold lenAV lnL tK
  cases ti t with
  | none => rfl
  | some i => obtain ⟨u, _, _, _⟩ := i; cases u <;> rfl
theorem len_osl : lenAV ti r t (.osl o off sz q) = lnL (tK ti t) q := by
  unfold lenAV lnL tK
  cases ti t with
  | none => rfl
  | some i => obtain ⟨u, _, _, _⟩ := i; cases u <;> rfl
theorem len_nil : lenAV ti r t (.d (.c (.slice none 0 0))) = lnL (tK ti t) 0 := by
  unfold lenAV lnL tK
  cases ti t with
  | none => rfl
  | some i => obtain ⟨u, _, _, _⟩ := i; cases u <;> rfl
theorem lenV_some : lenV (some n) = some (.d (.c (.int .i64 n))) := rfl
theorem min_int : minAV false (.d (.c (.int k a))) (.d (.c (.int k b))) = some (.d (.c (.int k (if b < a then b else a)))) := by simp [minAV]
theorem max_int : minAV true (.d (.c (.int k a))) (.d (.c (.int k b))) = some (.d (.c (.int k (if b > a then b else a)))) := by simp [minAV]

/-! ### Slicing -/
theorem optI_none : optI none = some none := rfl
theorem optI_int : optI (some (.d (.c (.int k n)))) = some (some n) := rfl
theorem sl3_some {lo hi mx : Option Int} : sl3 ti r t x (some lo) (some hi) (some mx) = evSlice ti r t x lo hi mx := rfl
def ssS : TK → ByteArray → Int → Int → Option AV
  | .str, s, l, h => chk (0 ≤ l ∧ l ≤ h ∧ h ≤ s.size) (some (.d (.c (.string (s.extract l.toNat h.toNat)))))
  | _, _, _, _ => none
theorem ssS_str : ssS .str A n m = chk (0 ≤ n ∧ n ≤ m ∧ m ≤ A.size) (some (.d (.c (.string (A.extract n.toNat m.toNat))))) := rfl
theorem ss_str {lo hi : Option Int} : evSlice ti r t (.d (.c (.string A))) lo hi none = ssS (tK ti t) A (lo.getD 0) (hi.getD A.size) := by
  unfold evSlice ssS tK
  cases ti t with
  | none => rfl
  | some i => obtain ⟨u, _, _, _⟩ := i; cases u <;> rfl
def ssD : Option Nat → Nat → Option Mo → Nat → List D → Option Int → Option Int → Option Int → Option AV
  | some sz', sz, m, n, xs, lo, hi, mx => if sz' = sz then cutSl sz m n xs lo hi mx else none
  | none, _, _, _, _, _, _, _ => none
theorem ssD_some {lo hi mx : Option Int} : ssD (some sz') sz mo' q xs lo hi mx = if sz' = sz then cutSl sz mo' q xs lo hi mx else none := rfl
theorem ss_dsl {lo hi mx : Option Int} : evSlice ti r t (.d (.sl sz q xs)) lo hi mx = ssD (szOf ti t) sz none q xs lo hi mx := by
  unfold evSlice ssD
  cases szOf ti t with
  | none => rfl
  | some sz' =>
    simp only [slOf_dsl]
    by_cases h : sz = sz'
    · subst h; simp
    · simp [h, Ne.symm h]
theorem ss_sl {lo hi mx : Option Int} : evSlice ti r t (.sl mo sz q xs) lo hi mx = ssD (szOf ti t) sz (some mo) q xs lo hi mx := by
  unfold evSlice ssD
  cases szOf ti t with
  | none => rfl
  | some sz' =>
    simp only [slOf_sl]
    by_cases h : sz = sz'
    · subst h; simp
    · simp [h, Ne.symm h]
theorem ss_nil {lo hi mx : Option Int} : evSlice ti r t (.d (.c (.slice none 0 0))) lo hi mx = (match szOf ti t with | some sz => cutSl sz (some .full) 0 [] lo hi mx | none => none) := by
  unfold evSlice
  cases szOf ti t with
  | none => rfl
  | some sz' => simp only [slOf_nil]
theorem cut_3 {lo : Option Int} {h k : Int} : cutSl sz mo' q xs lo (some h) (some k) = chk (0 ≤ lo.getD 0 ∧ lo.getD 0 ≤ h ∧ h ≤ q ∧ k = h) (some (.sl .full sz (h.toNat - (lo.getD 0).toNat) ((xs.drop ((lo.getD 0).toNat * sz)).take ((h.toNat - (lo.getD 0).toNat) * sz)))) := rfl
theorem cut_full {lo : Option Int} : cutSl sz (some .full) q xs lo none none = chk (0 ≤ lo.getD 0 ∧ lo.getD 0 ≤ q) (some (.sl .full sz (q - (lo.getD 0).toNat) (xs.drop ((lo.getD 0).toNat * sz)))) := rfl
theorem cut_own {lo : Option Int} : cutSl sz (some (.own o)) q xs lo none none = chk (0 ≤ lo.getD 0 ∧ lo.getD 0 ≤ q) (some (.d (.sl sz (q - (lo.getD 0).toNat) (xs.drop ((lo.getD 0).toNat * sz))))) := rfl
theorem cut_none {lo : Option Int} : cutSl sz none q xs lo none none = chk (0 ≤ lo.getD 0 ∧ lo.getD 0 ≤ q) (some (.d (.sl sz (q - (lo.getD 0).toNat) (xs.drop ((lo.getD 0).toNat * sz))))) := rfl
theorem cut_hi {lo : Option Int} {h : Int} : cutSl sz none q xs lo (some h) none = chk (0 ≤ lo.getD 0 ∧ lo.getD 0 ≤ h ∧ h ≤ q) (some (.d (.sl sz (h.toNat - (lo.getD 0).toNat) ((xs.drop ((lo.getD 0).toNat * sz)).take ((h.toNat - (lo.getD 0).toNat) * sz))))) := rfl
theorem cut_hi_full {lo : Option Int} {h : Int} : cutSl sz (some .full) q xs lo (some h) none = chk (0 ≤ lo.getD 0 ∧ lo.getD 0 ≤ h ∧ h ≤ q) (some (.d (.sl sz (h.toNat - (lo.getD 0).toNat) ((xs.drop ((lo.getD 0).toNat * sz)).take ((h.toNat - (lo.getD 0).toNat) * sz))))) := rfl
theorem cut_hi_own {lo : Option Int} {h : Int} : cutSl sz (some (.own o)) q xs lo (some h) none = chk (0 ≤ lo.getD 0 ∧ lo.getD 0 ≤ h ∧ h ≤ q) (some (.sl (.sp (xs.drop (h.toNat * sz))) sz (h.toNat - (lo.getD 0).toNat) ((xs.drop ((lo.getD 0).toNat * sz)).take ((h.toNat - (lo.getD 0).toNat) * sz)))) := rfl
theorem cut_hi_sp {lo : Option Int} {h : Int} {zs : List D} : cutSl sz (some (.sp zs)) q xs lo (some h) none = chk (0 ≤ lo.getD 0 ∧ lo.getD 0 ≤ h ∧ (h.toNat - q) * sz ≤ zs.length ∧ 0 < sz) (some (.d (.sl sz (h.toNat - (lo.getD 0).toNat) (((xs ++ zs).drop ((lo.getD 0).toNat * sz)).take ((h.toNat - (lo.getD 0).toNat) * sz))))) := rfl
theorem cut_sp {lo : Option Int} {zs : List D} : cutSl sz (some (.sp zs)) q xs lo none none = chk (0 ≤ lo.getD 0 ∧ lo.getD 0 ≤ q) (some (.d (.sl sz (q - (lo.getD 0).toNat) (xs.drop ((lo.getD 0).toNat * sz))))) := rfl
def ssO : Option Nat → Nat → Nat → Nat → Nat → Int → Int → Option AV
  | some sz', i, off, sz, n, l, h => if sz' = sz then chk (0 ≤ l ∧ l ≤ h ∧ h ≤ n) (some (.osl i (off + l.toNat * sz) sz (h.toNat - l.toNat))) else none
  | none, _, _, _, _, _, _ => none
theorem ssO_some : ssO (some sz') o off sz q n m = if sz' = sz then chk (0 ≤ n ∧ n ≤ m ∧ m ≤ q) (some (.osl o (off + n.toNat * sz) sz (m.toNat - n.toNat))) else none := rfl
theorem ss_osl {lo hi : Option Int} : evSlice ti r t (.osl o off sz q) lo hi none = ssO (szOf ti t) o off sz q (lo.getD 0) (hi.getD q) := by
  unfold evSlice ssO
  dsimp only
  cases szOf ti t with
  | none => simp [chk]
  | some sz' =>
    by_cases h : sz' = sz
    · subst h; simp [chk]
    · simp [chk, h]
def ssP (ti : Ti) : TK → Option (List AV) → Nat → Nat → Option Int → Option Int → Option AV
  | .arr n e, some l, i, off, lo, hi => if tI ti e = true then chk (off + n * tS ti e ≤ l.length ∧ 0 ≤ lo.getD 0 ∧ lo.getD 0 ≤ hi.getD n ∧ hi.getD n ≤ n) (some (.osl i (off + (lo.getD 0).toNat * tS ti e) (tS ti e) ((hi.getD n).toNat - (lo.getD 0).toNat))) else none
  | _, _, _, _, _, _ => none
theorem ssP_arr {lo hi : Option Int} : ssP ti (.arr q e) (some l) o off lo hi = if tI ti e = true then chk (off + q * tS ti e ≤ l.length ∧ 0 ≤ lo.getD 0 ∧ lo.getD 0 ≤ hi.getD q ∧ hi.getD q ≤ q) (some (.osl o (off + (lo.getD 0).toNat * tS ti e) (tS ti e) ((hi.getD q).toNat - (lo.getD 0).toNat))) else none := rfl
theorem ss_ptr {lo hi : Option Int} : evSlice ti r t (.ptr o off) lo hi none = ssP ti (tK ti t) (objOf r o) o off lo hi := by
  unfold evSlice ssP tK
  dsimp only
  cases ti t with
  | none => cases objOf r o <;> rfl
  | some i =>
    obtain ⟨u, _, _, _⟩ := i
    cases u <;> cases objOf r o <;> try rfl
    rename_i n e l
    simp only [tkOf]
    unfold tI tS
    cases ti e <;> rfl
def ssE (ti : Ti) : TK → List D → Option Int → Option Int → Option AV
  | .arr n e, xs, lo, hi => if tI ti e = true then chk (n * tS ti e ≤ xs.length ∧ 0 ≤ lo.getD 0 ∧ lo.getD 0 ≤ hi.getD n ∧ hi.getD n ≤ n) (some (.d (.sl (tS ti e) ((hi.getD n).toNat - (lo.getD 0).toNat) ((xs.drop ((lo.getD 0).toNat * tS ti e)).take (((hi.getD n).toNat - (lo.getD 0).toNat) * tS ti e))))) else none
  | _, _, _, _ => none
theorem ssE_arr {lo hi : Option Int} : ssE ti (.arr q e) xs lo hi = if tI ti e = true then chk (q * tS ti e ≤ xs.length ∧ 0 ≤ lo.getD 0 ∧ lo.getD 0 ≤ hi.getD q ∧ hi.getD q ≤ q) (some (.d (.sl (tS ti e) ((hi.getD q).toNat - (lo.getD 0).toNat) ((xs.drop ((lo.getD 0).toNat * tS ti e)).take (((hi.getD q).toNat - (lo.getD 0).toNat) * tS ti e))))) else none := rfl
theorem ss_el {lo hi : Option Int} : evSlice ti r t (.el xs) lo hi none = ssE ti (tK ti t) xs lo hi := by
  unfold evSlice ssE tK
  cases ti t with
  | none => rfl
  | some i =>
    obtain ⟨u, _, _, _⟩ := i
    cases u <;> try rfl
    rename_i n e
    simp only [tkOf]
    unfold tI tS
    cases ti e <;> rfl
end
end Go.Proofs.YtdbicadncccpoaaDoor
/- The frame of these proofs, part X: loops and calls. -/
set_option linter.unusedVariables false
set_option linter.unusedSimpArgs false
namespace Go.Proofs.YtdbicadncccpoaaDoor
open Go
section
variable {P : Program} {ti : Ti} {G : Nat → List D} {N : Nat}

/-- The state says no less than the form. -/
def Fit (σ : St) (st : List (Nat × AV)) (re : Rs) : Prop := WkL σ st ∧ wfSt re.length st = true ∧ WeakR σ.r re ∧ wfRs re.length re = true
theorem Rel.fit0 {E : Env} {σ : St} {a : Act} {w : World} {st : List (Nat × AV)} {re : Rs} (h : Rel G N E σ a w) (hf : Fit σ st re) : Rel G N E ⟨fun _ => .top, st, re⟩ a w := by
  obtain ⟨wk, wf, rs, wfr⟩ := hf
  refine ⟨h.size, fun i => ?_, h.good.weak rs wfr, h.defers⟩
  show RA E re w (lk st (fun _ => .top) i) _
  rcases lk_cases st (fun _ => AV.top) i with ⟨v, hv, he⟩ | ⟨_, he⟩
  · rw [he]
    exact RA_weak rs v _ (wfSt_mem wf hv) ((WkL_mem wk hv).sound (h.slot i))
  · rw [he]; simp [RA]
theorem HC_loop {body : Code} {K : KD} {σ : St} {ι : Type} (st : ι → List (Nat × AV)) (re : ι → Rs) (p : ι → Prop) (μ : ι → Nat) (i0 : ι) (h0 : p i0)
    (hre : ∀ i, (re i).length = σ.r.length) (hf : Fit σ (st i0) (re i0))
    (round : ∀ i, p i → HC P ti G N body (.loop (fun σ' => ∃ j, p j ∧ μ j < μ i ∧ Fit σ' (st j) (re j)) K) ⟨fun _ => .top, st i, re i⟩) : HC P ti G N (.loop body) K σ := by
  intro E0 r0 w0 E a w hR hS
  refine wp_loop_g (fun m a' w' => ∃ i E', p i ∧ μ i = m ∧ Rel G N E' ⟨fun _ => .top, st i, re i⟩ a' w' ∧ Step E0 r0 w0 E' (re i) w') (n0 := μ i0)
    ⟨i0, E, h0, rfl, hR.fit0 hf, hS.weak hf.2.2.1 (by rw [hre]; exact hS.names.len)⟩ ?_
  intro m a w hI
  obtain ⟨i, E', hp, hm, hR', hS'⟩ := hI
  subst hm
  refine wp_mono (round i hp E0 r0 w0 E' a w hR' hS') fun e a1 w1 hq => ?_
  obtain ⟨σ1, E1, hk, hR1, hS1⟩ := hq
  cases e with
  | normal =>
    obtain ⟨j, hpj, hlt, hfit⟩ := hk
    refine ⟨μ j, hlt, j, E1, hpj, rfl, hR1.fit0 hfit, hS1.weak hfit.2.2.1 ?_⟩
    rw [hre, ← hre i]
    exact hS'.names.len
  | _ => exact ⟨σ1, E1, hk, hR1, hS1⟩
theorem HC_fit {c : Code} {K : KD} {σ : St} (st : List (Nat × AV)) (re : Rs) (hre : re.length = σ.r.length) (hf : Fit σ st re) (h : HC P ti G N c K ⟨fun _ => .top, st, re⟩) : HC P ti G N c K σ := by
  intro E0 r0 w0 E a w hR hS
  exact h E0 r0 w0 E a w (hR.fit0 hf) (hS.weak hf.2.2.1 (by rw [hre]; exact hS.names.len))
theorem HC_token {c : Code} {K : KD} {σ : St} (k : Nat) {sz n : Nat} {xs : List D} (hg : WeakA (σ.get k) (.sl .full sz n xs)) (h : HC P ti G N c K (σ.putR (some k) (.sl (.own σ.r.length) sz n xs) (σ.r ++ [some (.tok xs.length)]))) : HC P ti G N c K σ := Holds_token hg h
theorem HO_callP (hti : TiOK P ti) {ops : Array Oper} {o : Oper} {rest : List Oper} {K : KD} {σ : St} {f : FuncId} {as args : List AV} {r : Rs} {O : AV → Rs → Prop} {c : Call} (ts : List Nat) (h : AC P G f args r O) (ho : o.op = .call c)
    (hg : gd ops σ o = some true) (hc : calleeOf (σ.ev G) c = some (f, as)) (hd : (o :: rest).all (dstOK N) = true) (hnd : ts.Nodup)
    (hs : (∀ t ∈ ts, t < σ.r.length) ∧ WkAs as (renL (nm ts σ.r.length) args) ∧ wfL r.length args = true ∧ HandOK (nm ts σ.r.length) σ.r r ts ∧ wfRs r.length r = true)
    (hk : ∀ v r', O v r' → r.length ≤ r'.length → EV P ti G N ops rest (.plain K) (σ.putR o.dst (ren (nm ts σ.r.length) v) (putAll (nm ts σ.r.length) σ.r ts r'))) : HO P ti G N ops (o :: rest) (.plain K) σ := by
  simp only [List.all_cons, Bool.and_eq_true] at hd
  exact HL_call ts h hd.1 hg ho hc hnd hs.1 hs.2.1 hs.2.2.1 hs.2.2.2.1 hs.2.2.2.2 fun v r' h1 h2 => HO_of_EV hti hd.2 (hk v r' h1 h2)
/-- A datum needs nothing of the call's own. -/
theorem AC.pure {f : FuncId} {args : List AV} {O : AV → Prop} (h : AC P G f args [] fun v _ => O v) (hw : ∀ v, O v → wfA 0 v = true) : AC P G f args [] (fun v r' => O v ∧ r' = []) := by
  refine ⟨h.1, fun E w vals hG hA => (h.2 E w vals hG hA).mono fun e w' ⟨v, x, r', E', he, ho, h1, h2, h3⟩ => ?_⟩
  have hW : WeakR r' [] := ⟨by simp, fun i x h => by simp at h⟩
  exact ⟨v, x, [], E', he, ⟨ho, rfl⟩, RA_weak hW v x (hw v ho) h1, h2.weak hW rfl, h3.weak hW (by simp)⟩
theorem nm_zero {t : Nat} {ts : List Nat} {n : Nat} : nm (t :: ts) n 0 = t := by simp [nm]
theorem nm_succ {t : Nat} {ts : List Nat} {n j : Nat} : nm (t :: ts) n (j + 1) = nm ts n j := by
  simp only [nm, List.getD_cons_succ, List.length_cons]
  congr 1
  omega
theorem nm_nil {n j : Nat} : nm [] n j = n + j := by simp [nm]
theorem putAll_nil {g : Nat → Nat} {rc : Rs} : putAll g rc [] [] = rc := by simp [putAll]
theorem AC.dat {f : FuncId} {args : List AV} {y : D} (h : AC P G f args [] fun v _ => toD v = some y) : AC P G f args [] (fun v r' => v = .d y ∧ r' = []) := by
  refine ⟨h.1, fun E w vals hG hA => (h.2 E w vals hG hA).mono fun e w' ⟨v, x, r', E', he, ho, h1, h2, h3⟩ => ?_⟩
  have hW : WeakR r' [] := ⟨by simp, fun i x h => by simp at h⟩
  exact ⟨.d y, x, [], E', he, ⟨rfl, rfl⟩, RA_weak hW _ x rfl ((WeakA.toD ho).sound h1), h2.weak hW rfl, h3.weak hW (by simp)⟩
/-- A slice without cells is nil, or lies somewhere. -/
theorem AC.empty {f : FuncId} {sz : Nat} {r : Rs} {O : AV → Rs → Prop} (h : ∀ A c, AC P G f [.d (.c (.slice A 0 c))] r O) : AC P G f [.d (.sl sz 0 [])] r O := by
  refine ⟨(h none 0).1, fun E w vals hG hA => ?_⟩
  simp only [RAL, RA, RD] at hA
  obtain ⟨v, rest, hv, ⟨_, A, c, rfl, _⟩, hr⟩ := hA
  refine (h A c).2 E w vals hG ?_
  simp only [RAL, RA, RD]
  exact ⟨_, _, hv, ⟨rfl, rfl⟩, hr⟩
/-- A result's parts, each of which says no more. -/
def WkT : List AV → List AV → Prop
  | [], [] => True
  | a :: ta, b :: tb => WeakA a b ∧ WkT ta tb
  | _, _ => False
theorem WkT.sound {E : Env} {r : Rs} {w : World} : ∀ (l l0 : List AV) (vs : List Value), WkT l l0 → RAL E r w l vs → RAL E r w l0 vs
  | [], [], vs, _, h => h
  | a :: ta, b :: tb, vs, hk, h => by
    simp only [RAL] at h ⊢
    obtain ⟨v, rest, h1, h2, h3⟩ := h
    exact ⟨v, rest, h1, hk.1.sound h2, WkT.sound ta tb rest hk.2 h3⟩
  | [], _ :: _, _, hk, _ => absurd hk (by simp [WkT])
  | _ :: _, [], _, hk, _ => absurd hk (by simp [WkT])
def WkV (v v0 : AV) : Prop := WeakA v v0 ∨ ∃ l l0, v = .tup l ∧ v0 = .tup l0 ∧ WkT l l0
theorem wkv_tup {l l0 : List AV} (h : WkT l l0) : WkV (.tup l) (.tup l0) := .inr ⟨l, l0, rfl, rfl, h⟩
theorem WkV.sound {E : Env} {r : Rs} {w : World} {v v0 : AV} {x : Value} (h : WkV v v0) (hr : RA E r w v x) : RA E r w v0 x := by
  rcases h with h | ⟨l, l0, rfl, rfl, h⟩
  · exact h.sound hr
  · simp only [RA] at hr ⊢
    obtain ⟨vs, h1, h2⟩ := hr
    exact ⟨vs, h1, WkT.sound l l0 _ h h2⟩
/-- A result that says no more, and owns nothing. -/
theorem AC.wk {f : FuncId} {args : List AV} {v0 : AV} (h : AC P G f args [] fun v _ => WkV v v0) (hw : wfA 0 v0 = true) : AC P G f args [] (fun v r' => v = v0 ∧ r' = []) := by
  refine ⟨h.1, fun E w vals hG hA => (h.2 E w vals hG hA).mono fun e w' ⟨v, x, r', E', he, ho, h1, h2, h3⟩ => ?_⟩
  have hW : WeakR r' [] := ⟨by simp, fun i x h => by simp at h⟩
  exact ⟨v0, x, [], E', he, ⟨rfl, rfl⟩, RA_weak hW v0 x hw (ho.sound h1), h2.weak hW rfl, h3.weak hW (by simp)⟩
theorem wk_refl {a : AV} : WeakA a a = True := eq_true (.refl a)
theorem wk_top {a : AV} : WeakA a .top = True := eq_true (.top a)
theorem wk_eq {a b : AV} (h : a = b) : WeakA a b := h ▸ .refl a
theorem wk_sl {m : Mo} {sz n : Nat} {xs : List D} : WeakA (.sl m sz n xs) (.d (.sl sz n xs)) = True := eq_true (.toD rfl)
theorem wk_nilFull {sz : Nat} : WeakA (.d (.c (.slice none 0 0))) (.sl .full sz 0 []) = True := eq_true (.nilFull sz)
theorem wk_nilD {sz : Nat} : WeakA (.d (.c (.slice none 0 0))) (.d (.sl sz 0 [])) = True := eq_true (.nilD sz)
theorem wkr_refl {r : Rs} : WeakR r r = True := eq_true (.refl r)
end
end Go.Proofs.YtdbicadncccpoaaDoor
/- The frame of these proofs, part Y: sums on machine words. -/
set_option linter.unusedVariables false
set_option linter.unusedSimpArgs false
namespace Go.Proofs.YtdbicadncccpoaaDoor
open Go
section
variable {a b : Int}
theorem of64 (h0 : 0 ≤ a) (h1 : a < 18446744073709551616) : (BitVec.ofInt 64 a).toNat = a.toNat := by
  rw [BitVec.toNat_ofInt]; omega
theorem of8 (h0 : 0 ≤ a) (h1 : a < 256) : (BitVec.ofInt 8 a).toNat = a.toNat := by
  rw [BitVec.toNat_ofInt]; omega
theorem or64 (h0 : 0 ≤ a) (h1 : a < 18446744073709551616) (h2 : 0 ≤ b) (h3 : b < 18446744073709551616) : ibits .or .u64 a b = ((a.toNat ||| b.toNat : Nat) : Int) := by
  have : ibits .or .u64 a b = IntKind.u64.wrap ((BitVec.ofInt 64 a ||| BitVec.ofInt 64 b).toNat : Int) := rfl
  rw [this, BitVec.toNat_or, of64 h0 h1, of64 h2 h3, w_u64 (by omega)]
  have : a.toNat ||| b.toNat < 2 ^ 64 := Nat.or_lt_two_pow (by omega) (by omega)
  omega
theorem and64 (h0 : 0 ≤ a) (h1 : a < 18446744073709551616) (h2 : 0 ≤ b) (h3 : b < 18446744073709551616) : ibits .and .u64 a b = ((a.toNat &&& b.toNat : Nat) : Int) := by
  have : ibits .and .u64 a b = IntKind.u64.wrap ((BitVec.ofInt 64 a &&& BitVec.ofInt 64 b).toNat : Int) := rfl
  rw [this, BitVec.toNat_and, of64 h0 h1, of64 h2 h3, w_u64 (by omega)]
  have : a.toNat &&& b.toNat < 2 ^ 64 := Nat.and_lt_two_pow _ (by omega)
  omega
theorem and64_1 (h0 : 0 ≤ a) (h1 : a < 18446744073709551616) : ibits .and .u64 a 1 = a % 2 := by
  rw [and64 h0 h1 (by omega) (by omega)]
  have : a.toNat &&& 1 = a.toNat % 2 := Nat.and_one_is_mod _
  show ((a.toNat &&& 1 : Nat) : Int) = _
  rw [this]; omega
theorem xor64 (h0 : 0 ≤ a) (h1 : a < 18446744073709551616) : ibits .xor .u64 (if IntKind.u64.signed = true then -1 else IntKind.u64.max) a = 18446744073709551615 - a := by
  have : ibits .xor .u64 (if IntKind.u64.signed = true then -1 else IntKind.u64.max) a = IntKind.u64.wrap ((BitVec.allOnes 64 ^^^ BitVec.ofInt 64 a).toNat : Int) := rfl
  rw [this, BitVec.allOnes_xor, BitVec.toNat_not, of64 h0 h1, w_u64 (by omega) (by omega)]
  omega
theorem xori64 (h0 : -9223372036854775808 ≤ a) (h1 : a ≤ 9223372036854775807) : ibits .xor .i64 (if IntKind.i64.signed = true then -1 else IntKind.i64.max) a = -1 - a := by
  have : ibits .xor .i64 (if IntKind.i64.signed = true then -1 else IntKind.i64.max) a = IntKind.i64.wrap ((BitVec.allOnes 64 ^^^ BitVec.ofInt 64 a).toNat : Int) := rfl
  rw [this, BitVec.allOnes_xor, BitVec.toNat_not, BitVec.toNat_ofInt, IntKind.wrap_i64]
  omega
theorem or8_128 (h0 : 0 ≤ a) (h1 : a < 256) : ibits .or .u8 a 128 = a % 128 + 128 := by
  have : ∀ k : Fin 256, ibits .or .u8 (k.val : Int) 128 = (k.val : Int) % 128 + 128 := by decide +kernel
  have := this ⟨a.toNat, by omega⟩
  simp only at this
  rw [Int.toNat_of_nonneg h0] at this
  exact this
theorem and8_127 (h0 : 0 ≤ a) (h1 : a < 256) : ibits .and .u8 a 127 = a % 128 := by
  have : ∀ k : Fin 256, ibits .and .u8 (k.val : Int) 127 = (k.val : Int) % 128 := by decide +kernel
  have := this ⟨a.toNat, by omega⟩
  simp only at this
  rw [Int.toNat_of_nonneg h0] at this
  exact this
theorem and8_15 (h0 : 0 ≤ a) (h1 : a < 256) : ibits .and .u8 a 15 = a % 16 := by
  have : ∀ k : Fin 256, ibits .and .u8 (k.val : Int) 15 = (k.val : Int) % 16 := by decide +kernel
  have := this ⟨a.toNat, by omega⟩
  simp only at this
  rw [Int.toNat_of_nonneg h0] at this
  exact this
theorem shl64_1 : ishl .u64 a 1 = (a * 2) % 18446744073709551616 := by
  have : ishl .u64 a 1 = IntKind.u64.wrap (a * 2) := rfl
  rw [this, wrap_u64]
theorem shr64_1 (h : 0 ≤ a) : ishr .u64 a 1 = a / 2 := by
  have : ishr .u64 a 1 = a.fdiv 2 := rfl
  rw [this, Int.fdiv_eq_ediv_of_nonneg _ (by omega)]
theorem shr64_7 (h : 0 ≤ a) : ishr .u64 a 7 = a / 128 := by
  have : ishr .u64 a 7 = a.fdiv 128 := rfl
  rw [this, Int.fdiv_eq_ediv_of_nonneg _ (by omega)]
theorem shr8_4 (h : 0 ≤ a) : ishr .u8 a 4 = a / 16 := by
  have : ishr .u8 a 4 = a.fdiv 16 := rfl
  rw [this, Int.fdiv_eq_ediv_of_nonneg _ (by omega)]
theorem shl64 (h0 : 0 ≤ a) (h1 : 0 ≤ b) (h2 : b ≤ 64) (h3 : a * 2 ^ b.toNat < 18446744073709551616) : ishl .u64 a b = a * 2 ^ b.toNat := by
  have : ishl .u64 a b = IntKind.u64.wrap (a * 2 ^ (min b.toNat 64)) := rfl
  rw [this, Nat.min_eq_left (by omega), w_u64]
  · exact Int.mul_nonneg h0 (Int.pow_nonneg (by decide))
  · omega
end
theorem tmod_nn {a b : Int} (h : 0 ≤ a) : a.tmod b = a % b := Int.tmod_eq_emod_of_nonneg h
theorem tdiv_nn {a b : Int} (h : 0 ≤ a) : a.tdiv b = a / b := Int.tdiv_eq_ediv_of_nonneg h
theorem dec_lt_t {a b : Int} (h : a < b) : decide (a < b) = true := decide_eq_true h
theorem dec_lt_f {a b : Int} (h : b ≤ a) : decide (a < b) = false := decide_eq_false (Int.not_lt.2 h)
theorem dec_le_t {a b : Int} (h : a ≤ b) : decide (a ≤ b) = true := decide_eq_true h
theorem dec_le_f {a b : Int} (h : b < a) : decide (a ≤ b) = false := decide_eq_false (Int.not_le.2 h)
theorem dec_eq_t {a b : Int} (h : a = b) : decide (a = b) = true := decide_eq_true h
theorem dec_eq_f {a b : Int} (h : a ≠ b) : decide (a = b) = false := decide_eq_false h
/-! ### Bytes -/
theorem u8_wrap (n : Nat) : ((UInt8.ofNat n).toNat : Int) = (n % 256 : Nat) := by simp
theorem u8_toNat (n : Nat) : (UInt8.ofNat n).toNat = n % 256 := by simp
theorem bD_one (n : Nat) (h : n < 256) : [D.c (.int .u8 (n : Int))] = bD [UInt8.ofNat n] := by
  simp only [bD, List.map_cons, List.map_nil, u8_toNat, Nat.mod_eq_of_lt h]
theorem bD_single {x : Int} (h0 : 0 ≤ x) (h1 : x < 256) : [D.c (.int .u8 x)] = bD [UInt8.ofNat x.toNat] := by
  simp only [bD, List.map_cons, List.map_nil, u8_toNat]
  rw [Nat.mod_eq_of_lt (by omega), Int.toNat_of_nonneg h0]
theorem bD_consx {x : Int} {l : List UInt8} (h0 : 0 ≤ x) (h1 : x < 256) : D.c (.int .u8 x) :: bD l = bD (UInt8.ofNat x.toNat :: l) := by
  simp only [bD, List.map_cons, u8_toNat]
  rw [Nat.mod_eq_of_lt (by omega), Int.toNat_of_nonneg h0]
theorem bD_u {u : UInt8} : [D.c (.int .u8 (u.toNat : Int))] = bD [u] := rfl
theorem bD_z : bD [] = [] := rfl
theorem u8_congr {a b : Nat} (h : a % 256 = b % 256) : UInt8.ofNat a = UInt8.ofNat b := by
  apply UInt8.toNat_inj.1; rw [u8_toNat, u8_toNat, h]
end Go.Proofs.YtdbicadncccpoaaDoor
/- The frame of these proofs, part Z: regions that draw their order. -/
set_option linter.unusedVariables false
set_option linter.unusedSimpArgs false
namespace Go.Proofs.YtdbicadncccpoaaDoor
open Go

theorem tK_int {ti : Ti} {t : TypeId} {k : IntKind} (h : tK ti t = .int k) : ∃ s b z, ti t = some ⟨.int k, s, b, z⟩ := by
  unfold tK at h
  split at h
  · rename_i i hi
    obtain ⟨u, s, b, z⟩ := i
    cases u <;> simp [tkOf] at h
    subst h
    exact ⟨s, b, z, hi⟩
  · cases h
theorem tK_bool {ti : Ti} {t : TypeId} (h : tK ti t = .bool) : ∃ s b z, ti t = some ⟨.bool, s, b, z⟩ := by
  unfold tK at h
  split at h
  · rename_i i hi
    obtain ⟨u, s, b, z⟩ := i
    cases u <;> simp [tkOf] at h
    exact ⟨s, b, z, hi⟩
  · cases h
theorem tK_str {ti : Ti} {t : TypeId} (h : tK ti t = .str) : ∃ s b z, ti t = some ⟨.string, s, b, z⟩ := by
  unfold tK at h
  split at h
  · rename_i i hi
    obtain ⟨u, s, b, z⟩ := i
    cases u <;> simp [tkOf] at h
    exact ⟨s, b, z, hi⟩
  · cases h
theorem tK_arr {ti : Ti} {t e : TypeId} {n : Nat} (h : tK ti t = .arr n e) : ∃ u s b z, ti t = some ⟨u, s, b, z⟩ ∧ kdOf u = none := by
  unfold tK at h
  split at h
  · rename_i i hi
    obtain ⟨u, s, b, z⟩ := i
    cases u <;> simp [tkOf] at h
    exact ⟨_, s, b, z, hi, rfl⟩
  · cases h
theorem tK_st {ti : Ti} {t : TypeId} (h : tK ti t = .st) : ∃ u s b z, ti t = some ⟨u, s, b, z⟩ ∧ kdOf u = none := by
  unfold tK at h
  split at h
  · rename_i i hi
    obtain ⟨u, s, b, z⟩ := i
    cases u <;> simp [tkOf] at h
    exact ⟨_, s, b, z, hi, rfl⟩
  · cases h
theorem tK_sl {ti : Ti} {t e : TypeId} (h : tK ti t = .sl e) : ∃ s b z, ti t = some ⟨.slice e, s, b, z⟩ := by
  unfold tK at h
  split at h
  · rename_i i hi
    obtain ⟨u, s, b, z⟩ := i
    cases u <;> simp [tkOf] at h
    subst h
    exact ⟨s, b, z, hi⟩
  · cases h
theorem RA_const {E E' : Env} {r r' : Rs} {w w' : World} {y x : Value} (h : RA E r w (.d (.c y)) x) : RA E' r' w' (.d (.c y)) x := by
  simpa only [RA, RD] using h
theorem evNil_no {ti : Ti} {r : Rs} {t : TypeId} {neg : Bool} {x y : AV} {i : TI} (hi : ti t = some i) (hk : kdOf i.u = none) : evNil ti r t neg x y = none := by
  unfold evNil
  split
  · rename_i i' k c k' h1 _ _
    rw [hi] at h1; injection h1 with h1; subst h1; rw [hk]; simp
  · rfl
theorem pure_free {P : Program} {ti : Ti} (hti : TiOK P ti) {G : Nat → List D} {E : Env} {r : Rs} {w : World} (hG : Good G E r w) {ρ : Operand → AV} {α : Operand → Value} (hev : ∀ x, RA E r w (ρ x) (α x))
    {o : Oper} {v : AV} (hp : pureOp ti o.op = true) (e : evP ti ρ r o.op = some v) : ∃ z, (∀ w', (execOp α o).run P w' = .ok (.value z) w') ∧ RA E r w v z := by
  cases ho : o.op <;> rw [ho] at e hp <;> simp only [pureOp, reduceCtorEq, Bool.false_eq_true] at hp <;> simp only [evP, reduceCtorEq] at e
  case move x => injection e with e; subst e; exact ⟨_, fun w' => by simp [execOp, ho], hev x⟩
  case assign x => injection e with e; subst e; exact ⟨_, fun w' => by simp [execOp, ho], hev x⟩
  case pick c a b =>
    unfold evPick at e
    split at e
    · rename_i t ht
      injection e with e; subst e
      have hc := hev c
      rw [ht] at hc
      simp only [RA, RD] at hc
      refine ⟨if t = true then α a else α b, fun w' => by simp [execOp, ho, hc.1, asBool], ?_⟩
      cases t
      · simpa using hev b
      · simpa using hev a
    · cases e
  case extract t i =>
    unfold evExt at e
    split at e
    · rename_i l hl
      have ht := hev t
      rw [hl] at ht
      simp only [RA] at ht
      obtain ⟨vs, hp, hr⟩ := ht
      obtain ⟨z, hz, hzr⟩ := RAL_get l _ hr i v e
      have hz' : vs[i]? = some z := by simpa using hz
      exact ⟨z, fun w' => by simp [execOp, ho, hp, Instr.extract, hz'], hzr⟩
    · cases e
  case unOp op t x =>
    unfold evUn at e
    split at e
    · rename_i v' hv'
      simp only [Option.bind_eq_some_iff] at e
      obtain ⟨u, hu, e⟩ := e
      obtain ⟨h1, e⟩ := chk_some e
      injection e with e; subst e
      have hx := hev x
      rw [hv'] at hx
      simp only [RA, RD] at hx
      exact ⟨u, fun w' => by simp [execOp, ho, hx.1, vUn_run hu w'], by simp [RA, RD, h1]⟩
    · cases e
  case binOp op t x y ty =>
    have hno : ∀ neg a b, evNil ti r t neg a b = none := by
      intro neg a b
      split at hp
      · rename_i k hk; obtain ⟨s, bb, z, h⟩ := tK_int hk; exact evNil_no h rfl
      · rename_i hk; obtain ⟨s, bb, z, h⟩ := tK_bool hk; exact evNil_no h rfl
      · rename_i hk; obtain ⟨s, bb, z, h⟩ := tK_str hk; exact evNil_no h rfl
      · rename_i hk; obtain ⟨u, s, bb, z, h, hu⟩ := tK_arr hk; exact evNil_no h hu
      · rename_i hk; obtain ⟨u, s, bb, z, h, hu⟩ := tK_st hk; exact evNil_no h hu
      · cases hp
    have hno2 : ∀ a b, RA E r w a (α x) → RA E r w b (α y) → evNilOp ti r op t a b = some v → ∃ z, (∀ w', (execOp α o).run P w' = .ok (.value z) w') ∧ RA E r w v z := by
      intro a b ha hb h
      have both : ∀ q : Bool, op = (if q then .neq else .eql) → evEqA ti t q a b = some v → ∃ z, (∀ w', (execOp α o).run P w' = .ok (.value z) w') ∧ RA E r w v z := by
        intro q hop h
        obtain ⟨u, rfl, hu⟩ := evEqA_sound hti ha hb h x y
        subst hop
        exact ⟨.bool u, fun w' => by simp [execOp, ho, (hu w').1, (hu w').2], by simp [RA, RD, Value.oneCell']⟩
      cases op <;> simp only [evNilOp, hno, Option.none_or, reduceCtorEq] at h
      · exact both false rfl h
      · exact both true rfl h
    have hx := hev x
    have hy := hev y
    unfold evBin at e
    split at e
    · rename_i va vb h1 h2
      rw [h1] at hx; rw [h2] at hy
      split at e
      · rename_i u hu
        obtain ⟨h1, e⟩ := chk_some e
        injection e with e; subst e
        simp only [RA, RD] at hx hy
        exact ⟨u, fun w' => by simp [execOp, ho, hx.1, hy.1, vBin_guard hu x y w', vBin_run (fun h => isBool_sound hti h) hu w'], by simp [RA, RD, h1]⟩
      · exact hno2 _ _ (by rw [← h1]; exact hev x) (by rw [← h2]; exact hev y) e
    · exact hno2 _ _ (hev x) (hev y) e
  case convert s d x =>
    split at hp
    · rename_i k hk
      obtain ⟨sz, bb, z, h⟩ := tK_int hk
      have hx := hev x
      unfold evConv at e
      split at e
      · rename_i si t' hs ht'
        rw [h] at ht'; injection ht' with ht'; subst ht'
        simp only at e
        split at e
        · rename_i k2 kk n hxx hku
          injection hxx with hxx; subst hxx
          injection e with e; subst e
          rw [hku] at hx
          simp only [RA, RD] at hx
          obtain ⟨hx, _⟩ := hx
          exact ⟨.int k (k.wrap n), fun w' => by simp [execOp, ho, hx, convert, run_underlying (ti_u hti hs), run_underlying (ti_u hti h), Conv.intToInt], by simp [RA, RD, Value.oneCell']⟩
        all_goals first | (cases e; done) | (rename_i hq _; cases hq; done) | (rename_i hq; cases hq; done) | skip
      · cases e
    · cases hp
  case slice t x lo hi mx =>
    split at e
    · rename_i l h m hl hh hm
      obtain ⟨z, h1, h2⟩ := evSlice_sound hti hG (hev x) (optI_sound' hev hl) (optI_sound' hev hh) (optI_sound' hev hm) e
      exact ⟨z, fun w' => by simp [execOp, ho, h1], h2⟩
    · cases e
  case indexAddr t x i =>
    split at e
    · rename_i n hn
      obtain ⟨k, hk⟩ := intOfA_sound (hev i) hn
      obtain ⟨z, h1, h2⟩ := evIndexAddr_sound (P := P) hti (kd := k) (hev x) e
      exact ⟨z, fun w' => by simp [execOp, ho, hk, h1], h2⟩
    · cases e
  case fieldAddr t x f =>
    obtain ⟨z, h1, h2⟩ := evFieldAddr_sound (P := P) hti (hev x) e
    exact ⟨z, fun w' => by simp [execOp, ho, h1], h2⟩
  case field t x f =>
    obtain ⟨z, h1, h2⟩ := evField_sound (P := P) hti (hev x) e
    exact ⟨z, fun w' => by simp [execOp, ho, h1], h2⟩
  case makeFunc f a b =>
    injection e with e; subst e
    refine ⟨.func f (a.map α) (b.map α), fun w' => by simp [execOp, ho, Instr.makeFunc], ?_⟩
    simp only [RA]
    exact ⟨_, _, rfl, by simpa using RAL_ev hev a.toList, by simpa using RAL_ev hev b.toList⟩
  case nilCheck x =>
    unfold evNC at e
    have hx := hev x
    split at e
    · rename_i i off hio
      simp only [Option.map_eq_some_iff] at e
      obtain ⟨l, hl, rfl⟩ := e
      rw [hio] at hx
      have hx' := hx
      simp only [RA] at hx'
      obtain ⟨b, hb, hp⟩ := hx'.2 l (objOf_some hl)
      exact ⟨α x, fun w' => by simp [execOp, ho, hp], hx⟩
    · rename_i xs hxs
      injection e with e; subst e
      rw [hxs] at hx
      have hx' := hx
      simp only [RA] at hx'
      obtain ⟨ad, hp, _⟩ := hx'
      exact ⟨α x, fun w' => by simp [execOp, ho, hp], hx⟩
    · rename_i f a b hf
      injection e with e; subst e
      rw [hf] at hx
      have hx' := hx
      simp only [RA] at hx'
      obtain ⟨vs, us, hp, _⟩ := hx'
      exact ⟨α x, fun w' => by simp [execOp, ho, hp], hx⟩
    · cases e
  case index t x i =>
    split at hp
    · rename_i hk
      obtain ⟨sz, bb, z, h⟩ := tK_str hk
      split at e
      · rename_i n hn
        obtain ⟨k, hk⟩ := intOfA_sound (hev i) hn
        have hx := hev x
        have hc : ∃ s u, ρ x = .d (.c (.string s)) ∧ v = .d (.c u) := by
          unfold evIndex at e
          rw [h] at e
          generalize ρ x = q at e
          split at e
          all_goals first
            | (rename_i hq; cases hq; done)
            | (cases e; done)
            | skip
          rename_i s _
          obtain ⟨_, e⟩ := chk_some e
          injection e with e
          exact ⟨s, _, rfl, e.symm⟩
        obtain ⟨s, u, hs, rfl⟩ := hc
        rw [hs] at hx e
        obtain ⟨z, h1, h2⟩ := evIndex_sound (P := P) hti (kd := k) hx e
        refine ⟨z, fun w' => ?_, h2⟩
        obtain ⟨z', h1', h2'⟩ := evIndex_sound (P := P) hti (kd := k) (RA_const (E' := E) (r' := r) (w' := w') hx) e
        simp only [RA, RD] at h2 h2'
        rw [h2.1, ← h2'.1]
        simp [execOp, ho, hk, h1']
      · cases e
    · cases hp
  case call c =>
    split at hp
    · rename_i t hc hts
      unfold evCall at e
      rw [hc] at e
      simp only at e
      split at e
      · rename_i x t' hxl htl
        rw [hts] at htl
        injection htl with htl; subst htl
        simp only [Option.map_eq_some_iff] at e
        obtain ⟨n, hn, rfl⟩ := e
        refine ⟨.int .i64 n, fun w' => ?_, by simp [RA, RD, Value.oneCell']⟩
        have hx := hev x
        have key : (Builtin.len_ #[t] o.type #[α x]).run P w' = .ok (.int .i64 n) w' := by
          have hsplit : (∃ sz b z, ti t = some ⟨.string, sz, b, z⟩) ∨ (∃ e sz b z, ti t = some ⟨.slice e, sz, b, z⟩) := by
            split at hp
            · rename_i hk; exact .inl (tK_str hk)
            · rename_i e hk; obtain ⟨a, b, c, h⟩ := tK_sl hk; exact .inr ⟨e, a, b, c, h⟩
            · cases hp
          generalize α x = ax at hx
          generalize ρ x = q at hn hx
          unfold lenAV at hn
          rcases hsplit with ⟨sz, b, z, h⟩ | ⟨e, sz, b, z, h⟩
          · rw [h] at hn
            have hut := ti_run hti h w'
            split at hn
            all_goals first
              | (cases hn; done)
              | (rename_i hq; cases hq; done)
              | skip
            injection hn with hn; subst hn
            simp only [RA, RD] at hx; obtain ⟨rfl, _⟩ := hx
            simp [Builtin.len_, hut, goInt]
          · rw [h] at hn
            have hut := ti_run hti h w'
            split at hn
            all_goals first
              | (cases hn; done)
              | (rename_i hq; cases hq; done)
              | skip
            all_goals (injection hn with hn; subst hn; simp only [RA, RD] at hx)
            all_goals first
              | (obtain ⟨rfl, _⟩ := hx; simp [Builtin.len_, hut, goInt]; done)
              | (obtain ⟨_, A, c, rfl, _⟩ := hx; simp [Builtin.len_, hut, goInt]; done)
        simp [execOp, ho, resolve, hc, toList_one hxl, toList_one hts, invoke, builtin, key]
      · cases e
    · cases hp

section
variable {P : Program} {ti : Ti} {G : Nat → List D} {N : Nat}
theorem wpOp_mono' {ops : Array Oper} {Q Q' : Exit → Act → World → Prop} (hq : ∀ e a w, Q e a w → Q' e a w) {i : Nat} {K K' : Act → World → Prop} (hk : ∀ a w, K a w → K' a w) {a : Act} {w : World} (h : wpOp P ops Q i K a w) : wpOp P ops Q' i K' a w := by
  unfold wpOp at h ⊢
  split at h
  · exact hk _ _ h
  · rename_i o _
    split at h
    · rename_i hw
      rw [if_pos hw]
      have hlo : LetsOut Q → LetsOut Q' := fun ⟨a, w, h⟩ => ⟨a, w, hq _ _ _ h⟩
      rcases h with h | h
      · left
        unfold Oper.wp at h ⊢
        generalize (execOp a.eval o).run P w = res at h ⊢
        cases res with
        | ok n w' =>
          cases n <;> simp only [Oper.upon] at h ⊢ <;> first
            | exact hk _ _ h
            | exact Calls.mono h (fun e w'' he => by cases e <;> first | exact hk _ _ he | exact hq _ _ _ he | exact hlo he)
            | exact Rows.mono h (fun _ _ he => hk _ _ he)
        | halt x w' => cases x <;> simp only [Oper.upon] at h ⊢ <;> first | exact h | exact hq _ _ _ h
      · right
        exact ⟨h.1, hlo h.2⟩
    · rename_i hw
      rw [if_neg hw]
      exact hk _ _ h
theorem wpAny_mono' {ops : Array Oper} {md : Region.Mode} {Q Q' : Exit → Act → World → Prop} (hq : ∀ e a w, Q e a w → Q' e a w) : ∀ (fuel : Nat) (listed : Array Bool) (a : Act) (w : World), wpAny P md ops Q fuel listed a w → wpAny P md ops Q' fuel listed a w
  | 0, _, _, _, h => ⟨h.1, hq _ _ _ h.2⟩
  | fuel + 1, _, _, _, h => ⟨fun h0 => hq _ _ _ (h.1 h0), fun i hi => wpOp_mono' hq (fun a w h => wpAny_mono' hq fuel _ a w h) (h.2 i hi)⟩
theorem evA_pure {ti : Ti} {ρ : Operand → AV} {r r' : Rs} {op : Op} {v : AV} (hp : pureOp ti op = true) (e : evA ti ρ r op = some (v, r')) : evP ti ρ r op = some v ∧ r' = r := by
  cases op <;> simp only [pureOp, reduceCtorEq, Bool.false_eq_true] at hp
  case convert s d x =>
    split at hp
    · rename_i k hk
      obtain ⟨sz, b, z, h⟩ := tK_int hk
      simp only [evA] at e
      split at e
      · rename_i u hu
        simp only [Option.some.injEq, Prod.mk.injEq] at e
        obtain ⟨rfl, rfl⟩ := e
        exact ⟨hu, rfl⟩
      · simp only [evR] at e
        exact absurd e (evCB_no (by rw [h]; intro el s b z he; cases he))
    · cases hp
  case call c =>
    simp only [evA] at e
    split at hp
    · rename_i t hc hts
      rw [hc] at e
      simp only [Option.map_eq_some_iff, Prod.mk.injEq] at e
      obtain ⟨u, hu, rfl, rfl⟩ := e
      exact ⟨hu, rfl⟩
    · cases hp
  all_goals
    simp only [evA, Option.map_eq_some_iff, Prod.mk.injEq] at e
    obtain ⟨u, hu, rfl, rfl⟩ := e
    exact ⟨hu, rfl⟩
end
end Go.Proofs.YtdbicadncccpoaaDoor
/- The frame of these proofs, part ZB: a region that draws its order is reckoned in one order: the others come to the same. -/
set_option linter.unusedVariables false
set_option linter.unusedSimpArgs false
namespace Go.Proofs.YtdbicadncccpoaaDoor
open Go
section
variable {P : Program} {ti : Ti} {ops : Array Oper} {w : World}
theorem yat_same {o : Oper} {x : Value} {a a' : Act} (hy : yat P ops w o x a) (he : execOp a'.eval o = execOp a.eval o) (hw : Region.wanted o (yielded ops a'.tmps) = Region.wanted o (yielded ops a.tmps)) : yat P ops w o x a' := by
  unfold yat at *
  rw [he, hw]
  exact hy
theorem yatS_same {o : Oper} {x : Value} {a a' : Act} (hy : yatS P ti ops w o x a) (he : execOp a'.eval o = execOp a.eval o) (hw : Region.wanted o (yielded ops a'.tmps) = Region.wanted o (yielded ops a.tmps)) : yatS P ti ops w o x a' :=
  fun w' h => yat_same (hy w' h) he hw
theorem chainS_move (hs : Region.noSelect ops = true) {e : Ent} {r2 : List Ent} (he : ops[e.1]? = some e.2.1) : ∀ (r1 : List Ent) (a : Act), (∀ f ∈ r1, f.2.1.apart ops e.2.1 = true) → (∀ f ∈ r1, ops[f.1]? = some f.2.1) → chainS P ti ops w (r1 ++ e :: r2) a →
    yatS P ti ops w e.2.1 e.2.2 a ∧ chainS P ti ops w (r1 ++ r2) (a.put e.2.1.dst e.2.2) ∧ puts (r1 ++ e :: r2) a = puts (r1 ++ r2) (a.put e.2.1.dst e.2.2)
  | [], a, _, _, h => ⟨h.1, h.2, rfl⟩
  | f :: r1, a, hap, hop, h => by
    obtain ⟨h1, h2, h3⟩ := Oper.apart_spec (hap f (by simp))
    have hsel := Region.noSelect_spec hs
    obtain ⟨hy, hc, hp⟩ := chainS_move hs he r1 (a.put f.2.1.dst f.2.2) (fun g hg => hap g (by simp [hg])) (fun g hg => hop g (by simp [hg])) h.2
    have hcomm : (a.put e.2.1.dst e.2.2).put f.2.1.dst f.2.2 = (a.put f.2.1.dst f.2.2).put e.2.1.dst e.2.2 := (Act.put_comm a f.2.2 e.2.2 h2).symm
    refine ⟨yatS_same hy (execOp_put e.2.1 (hsel _ _ · · he) a _ _ h1).symm (wanted_put e.2.1 a _ _ h1).symm, ⟨yatS_same h.1 (execOp_put f.2.1 (hsel _ _ · · (hop f (by simp))) a _ _ h3) (wanted_put f.2.1 a _ _ h3), ?_⟩, ?_⟩
    · rw [hcomm]; exact hc
    · show puts (r1 ++ e :: r2) (a.put f.2.1.dst f.2.2) = puts (r1 ++ r2) ((a.put e.2.1.dst e.2.2).put f.2.1.dst f.2.2)
      rw [hcomm]; exact hp
theorem chainS_front (hs : Region.noSelect ops = true) {i : Nat} {o : Oper} (ho : ops[i]? = some o) : ∀ (rem : List Ent) (a : Act), (∀ f ∈ rem, f.2.1.apart ops o = true) → (∀ f ∈ rem, ops[f.1]? = some f.2.1) → chainS P ti ops w rem a →
    execOp (puts rem a).eval o = execOp a.eval o ∧ Region.wanted o (yielded ops (puts rem a).tmps) = Region.wanted o (yielded ops a.tmps) ∧ (∀ x, puts rem (a.put o.dst x) = (puts rem a).put o.dst x) ∧ ∀ x w', (∀ f ∈ rem, pureOp ti f.2.1.op = true ∨ (stOp ti f.2.1.op = true ∧ Keeps w w')) → chainS P ti ops w' rem (a.put o.dst x)
  | [], a, _, _, _ => ⟨rfl, rfl, fun _ => rfl, fun _ _ _ => trivial⟩
  | f :: rem, a, hap, hop, h => by
    obtain ⟨h1, h2, h3⟩ := Oper.apart_spec (hap f (by simp))
    have hsel := Region.noSelect_spec hs
    obtain ⟨k1, k2, k3, k4⟩ := chainS_front hs ho rem (a.put f.2.1.dst f.2.2) (fun g hg => hap g (by simp [hg])) (fun g hg => hop g (by simp [hg])) h.2
    have hcomm : ∀ x, (a.put o.dst x).put f.2.1.dst f.2.2 = (a.put f.2.1.dst f.2.2).put o.dst x := fun x => (Act.put_comm a f.2.2 x h2).symm
    refine ⟨k1.trans (execOp_put o (hsel _ _ · · ho) a _ _ h1), k2.trans (wanted_put o a _ _ h1), fun x => ?_, fun x w' hpu => ⟨fun w'' hw'' => ?_, ?_⟩⟩
    · show puts rem ((a.put o.dst x).put f.2.1.dst f.2.2) = _
      rw [hcomm]; exact k3 x
    · refine yat_same (h.1 w'' ?_) (execOp_put f.2.1 (hsel _ _ · · (hop f (by simp))) a _ _ h3) (wanted_put f.2.1 a _ _ h3)
      rcases hpu f (by simp) with h4 | ⟨h4, h5⟩
      · exact .inl h4
      · rcases hw'' with h6 | ⟨_, h6⟩ | rfl
        · exact .inl h6
        · exact .inr (.inl ⟨h4, h5.trans h6⟩)
        · exact .inr (.inl ⟨h4, h5⟩)
    · rw [hcomm]; exact k4 x w' (fun g hg => hpu g (by simp [hg]))
theorem chainS_snoc {e : Ent} : ∀ (rem : List Ent) (a : Act), chainS P ti ops w rem a → yatS P ti ops w e.2.1 e.2.2 (puts rem a) → chainS P ti ops w (rem ++ [e]) a ∧ puts (rem ++ [e]) a = (puts rem a).put e.2.1.dst e.2.2
  | [], a, _, hy => ⟨⟨hy, trivial⟩, rfl⟩
  | f :: rem, a, h, hy => by
    obtain ⟨h1, h2⟩ := chainS_snoc rem _ h.2 hy
    exact ⟨⟨h.1, h1⟩, h2⟩

/-! ### What waits for what -/
theorem shl_bit {i j : Nat} : (1 <<< i : Nat).testBit j = decide (i = j) := by
  rw [Nat.testBit_shiftLeft]
  by_cases h : i = j
  · subst h; simp
  · simp only [h, decide_false]
    by_cases hj : j ≥ i
    · simp only [hj, decide_true, Bool.true_and]
      have : j - i ≠ 0 := by omega
      cases hq : Nat.testBit 1 (j - i) with
      | false => rfl
      | true => rw [Nat.testBit_one_eq_true_iff_self_eq_zero] at hq; omega
    · simp [hj]
theorem fold_wmask {k i : Nat} {L : Nat → Nat} {b : Nat} : ∀ (l : List Edge) (acc : Nat), (l.foldl (fun acc x => if (Region.binds .any x && decide (k ≤ x.on) && decide (x.on < i)) = true then acc ||| (1 <<< (x.on - k) ||| L (x.on - k)) else acc) acc).testBit b = true →
    acc.testBit b = true ∨ ∃ x ∈ l, Region.binds .any x = true ∧ k ≤ x.on ∧ x.on < i ∧ (x.on - k = b ∨ (L (x.on - k)).testBit b = true)
  | [], acc, h => .inl h
  | x :: l, acc, h => by
    simp only [List.foldl_cons] at h
    rcases fold_wmask l _ h with h1 | ⟨y, hy, h2⟩
    · split at h1
      · rename_i hc
        simp only [Bool.and_eq_true, decide_eq_true_eq] at hc
        simp only [Nat.testBit_or, Bool.or_eq_true, shl_bit, decide_eq_true_eq] at h1
        rcases h1 with h1 | h1 | h1
        · exact .inl h1
        · exact .inr ⟨x, by simp, hc.1.1, hc.1.2, hc.2, .inl h1⟩
        · exact .inr ⟨x, by simp, hc.1.1, hc.1.2, hc.2, .inr h1⟩
      · exact .inl h1
    · exact .inr ⟨y, by simp [hy], h2⟩
theorem wmask_spec {k i : Nat} {L : Nat → Nat} {b : Nat} (h : (wmask ops k L i).testBit b = true) : ∃ o, ops[i]? = some o ∧ ∃ x ∈ o.after, Region.binds .any x = true ∧ k ≤ x.on ∧ x.on < i ∧ (x.on - k = b ∨ (L (x.on - k)).testBit b = true) := by
  unfold wmask at h
  split at h
  · rename_i o ho
    rcases fold_wmask _ _ h with h | ⟨x, hx, h⟩
    · simp at h
    · exact ⟨o, ho, x, by simpa using hx, h⟩
  · simp at h
/-- What 'L' tells an operation waits for, it waits for (the rank falls along the way). -/
def rowsOK (ops : Array Oper) (L : Nat → Nat) : Prop := ∃ ρ : Nat → Nat, ∀ i, i < ops.size → ∀ b, (L i).testBit b = true → ∃ o, ops[i]? = some o ∧ ∃ x ∈ o.after, Region.binds .any x = true ∧ x.on < ops.size ∧ ρ x.on < ρ i ∧ (x.on = b ∨ (L x.on).testBit b = true)
theorem sub_bit {a c : Nat} (h : (a ||| c) = c) {b : Nat} (hb : a.testBit b = true) : c.testBit b = true := by
  rw [← h, Nat.testBit_or, hb, Bool.true_or]
theorem and_bit {a c : Nat} (h : (a &&& c) = a) {b : Nat} (hb : a.testBit b = true) : c.testBit b = true := by
  rw [← h, Nat.testBit_and, Bool.and_eq_true] at hb
  exact hb.2
/-- What is listed is closed under waiting. -/
theorem need_aux {L : Nat → Nat} (hL : rowsOK ops L) {U : List Nat} (hcl : ∀ i o, i < ops.size → i ∉ U → ops[i]? = some o → ∀ x ∈ o.after, Region.binds .any x = true → x.on ∉ U) (e : Nat) (i : Nat) (hi : i < ops.size) (hiU : i ∉ U) (hb : (L i).testBit e = true) : e ∉ U := by
  obtain ⟨ρ, hρ⟩ := hL
  have go : ∀ (n i : Nat), ρ i = n → i < ops.size → i ∉ U → (L i).testBit e = true → e ∉ U := by
    intro n
    induction n using Nat.strongRecOn with
    | _ n ih =>
      intro i hn hi hiU hb
      obtain ⟨o, ho, x, hx, hbx, hxs, hxi, h⟩ := hρ i hi _ hb
      have hxU := hcl i o hi hiU ho x hx hbx
      rcases h with h | h
      · rw [← h]; exact hxU
      · exact ih (ρ x.on) (by omega) x.on rfl hxs hxU h
  exact go _ i rfl hi hiU hb
theorem need_out {L : Nat → Nat} (hL : rowsOK ops L) {U : List Nat} (hcl : ∀ i o, i < ops.size → i ∉ U → ops[i]? = some o → ∀ x ∈ o.after, Region.binds .any x = true → x.on ∉ U) {e i : Nat} {o : Oper} (ho : ops[i]? = some o) (hdep : ∀ x ∈ o.after, Region.binds .any x = true → x.on ∉ U)
    (hb : (L i).testBit e = true) : e ∉ U := by
  have hi := (Array.getElem?_eq_some_iff.1 ho).1
  obtain ⟨ρ, hρ⟩ := hL
  obtain ⟨o', ho', x, hx, hbx, hxs, hxi, h⟩ := hρ i hi _ hb
  rw [ho] at ho'; injection ho' with ho'; subst ho'
  have hxU := hdep x hx hbx
  rcases h with h | h
  · rw [← h]; exact hxU
  · exact need_aux ⟨ρ, hρ⟩ hcl e x.on hxs hxU h

/-! ### The plan -/
structure Plan (ti : Ti) (N : Nat) (ops : Array Oper) (π kp : List Nat) (L : Nat → Nat) : Prop where
  hs : Region.noSelect ops = true
  dst : ∀ o ∈ ops.toList, dstOK N o = true
  nodup : π.Nodup
  all : ∀ i, i < ops.size → i ∈ π
  rows : rowsOK ops L
  at_ : ∀ pre i post, π = pre ++ i :: post → ∃ o, ops[i]? = some o ∧ (∀ x ∈ o.after, Region.binds .any x = true → x.on ∈ pre) ∧ (∀ f ∈ pre, ∀ of, ops[f]? = some of → isEff ti of = true → (L i).testBit f = true) ∧
    (isEff ti o = true → ∀ f ∈ pre, ∀ of, ops[f]? = some of → (pureOp ti of.op = true ∨ (isKeep kp i o = true ∧ stOp ti of.op = true)) ∨ (L i).testBit f = true) ∧ (∀ f ∈ pre, ∀ of, ops[f]? = some of → (L i).testBit f = true ∨ of.apart ops o = true)
theorem scan_sound {kp : List Nat} {L : Nat → Nat} : ∀ (post bef : List Nat) (seen eff np ns : Nat), (∀ f, seen.testBit f = true ↔ f ∈ bef) → (∀ f ∈ bef, ∀ of, ops[f]? = some of → isEff ti of = true → eff.testBit f = true) → (∀ f ∈ bef, ∀ of, ops[f]? = some of → pureOp ti of.op = false → np.testBit f = true) →
    (∀ f ∈ bef, ∀ of, ops[f]? = some of → stOp ti of.op = false → ns.testBit f = true) → scanP ti ops kp L post bef seen eff np ns = true → (post.Nodup ∧ ∀ i ∈ post, i ∉ bef) ∧ ∀ pre i post', post = pre ++ i :: post' → ∃ o, ops[i]? = some o ∧ (∀ x ∈ o.after, Region.binds .any x = true → x.on ∈ bef ∨ x.on ∈ pre) ∧ (∀ f, (f ∈ bef ∨ f ∈ pre) → ∀ of, ops[f]? = some of → isEff ti of = true → (L i).testBit f = true) ∧
    (isEff ti o = true → ∀ f, (f ∈ bef ∨ f ∈ pre) → ∀ of, ops[f]? = some of → (pureOp ti of.op = true ∨ (isKeep kp i o = true ∧ stOp ti of.op = true)) ∨ (L i).testBit f = true) ∧ (∀ f, (f ∈ bef ∨ f ∈ pre) → ∀ of, ops[f]? = some of → (L i).testBit f = true ∨ of.apart ops o = true)
  | [], bef, seen, eff, np, ns, _, _, _, _, _ => ⟨⟨List.nodup_nil, fun i hi => by simp at hi⟩, fun pre i post' h => by simp at h⟩
  | j :: post, bef, seen, eff, np, ns, h1, h2, h3, h3s, h => by
    unfold scanP at h
    cases ho : ops[j]? with
    | none => rw [ho] at h; cases h
    | some o =>
      rw [ho] at h
      simp only [force_eq, Bool.and_eq_true, Bool.or_eq_true, Bool.not_eq_true', beq_iff_eq, List.all_eq_true] at h
      obtain ⟨⟨⟨⟨⟨c1, c2⟩, c3⟩, c4⟩, c5⟩, c6⟩ := h
      have hjb : j ∉ bef := fun hm => by have := (h1 j).2 hm; rw [c1] at this; cases this
      obtain ⟨⟨hn, hd⟩, ih⟩ := scan_sound post (j :: bef) _ _ _ _ (fun f => by
          rw [Nat.testBit_or, shl_bit, Bool.or_eq_true, h1, decide_eq_true_eq, List.mem_cons]
          exact ⟨fun h => h.elim .inr fun h => .inl h.symm, fun h => h.elim (fun h => .inr h.symm) .inl⟩)
        (fun f hf of hof hef => by
          simp only [List.mem_cons] at hf
          rcases hf with rfl | hf
          · rw [ho] at hof; injection hof with hof; subst hof
            rw [if_pos hef, Nat.testBit_or, shl_bit]; simp
          · have := h2 f hf of hof hef
            split
            · rw [Nat.testBit_or, this, Bool.true_or]
            · exact this)
        (fun f hf of hof hpf => by
          simp only [List.mem_cons] at hf
          rcases hf with rfl | hf
          · rw [ho] at hof; injection hof with hof; subst hof
            rw [if_neg (by rw [hpf]; simp), Nat.testBit_or, shl_bit]; simp
          · have := h3 f hf of hof hpf
            split
            · exact this
            · rw [Nat.testBit_or, this, Bool.true_or])
        (fun f hf of hof hpf => by
          simp only [List.mem_cons] at hf
          rcases hf with rfl | hf
          · rw [ho] at hof; injection hof with hof; subst hof
            rw [if_neg (by rw [hpf]; simp), Nat.testBit_or, shl_bit]; simp
          · have := h3s f hf of hof hpf
            split
            · exact this
            · rw [Nat.testBit_or, this, Bool.true_or]) c6
      refine ⟨⟨List.nodup_cons.2 ⟨fun hm => hd j hm (by simp), hn⟩, fun i hi => ?_⟩, fun pre i post' hp => ?_⟩
      · simp only [List.mem_cons] at hi
        rcases hi with rfl | hi
        · exact hjb
        · exact fun hb => hd i hi (by simp [hb])
      · cases pre with
        | nil =>
          simp only [List.nil_append, List.cons.injEq] at hp
          obtain ⟨rfl, rfl⟩ := hp
          refine ⟨o, ho, fun x hx hb => ?_, fun f hf of hof hef => ?_, fun he f hf of hof => ?_, fun f hf of hof => ?_⟩
          · have := c2 x (by simpa using hx)
            rw [hb] at this
            simp only [Bool.true_eq_false, false_or] at this
            exact .inl ((h1 _).1 this)
          · have hf' : f ∈ bef := by simpa using hf
            exact and_bit c3 (h2 f hf' of hof hef)
          · have hf' : f ∈ bef := by simpa using hf
            rcases c4 with c4 | c4
            · rw [he] at c4; cases c4
            · split at c4
              · rename_i hkp
                cases hq : stOp ti of.op with
                | true => exact .inl (.inr ⟨hkp, rfl⟩)
                | false => exact .inr (and_bit (eq_of_beq c4) (h3s f hf' of hof hq))
              · cases hq : pureOp ti of.op with
                | true => exact .inl (.inl rfl)
                | false => exact .inr (and_bit (eq_of_beq c4) (h3 f hf' of hof hq))
          · have hf' : f ∈ bef := by simpa using hf
            have := c5 f hf'
            rw [hof] at this
            exact this
        | cons q pre =>
          simp only [List.cons_append, List.cons.injEq] at hp
          obtain ⟨rfl, rfl⟩ := hp
          obtain ⟨o', k1, k2, k3, k4, k5⟩ := ih pre i post' rfl
          have conv : ∀ f, (f ∈ bef ∨ f ∈ j :: pre) → (f ∈ j :: bef ∨ f ∈ pre) := fun f hf => by
            simp only [List.mem_cons] at hf ⊢
            rcases hf with h | h | h
            · exact .inl (.inr h)
            · exact .inl (.inl h)
            · exact .inr h
          refine ⟨o', k1, fun x hx hb => ?_, fun f hf => k3 f (conv f hf), fun he f hf => k4 he f (conv f hf), fun f hf => k5 f (conv f hf)⟩
          have := k2 x hx hb
          simp only [List.mem_cons] at this ⊢
          rcases this with (h | h) | h
          · exact .inr (.inl h)
          · exact .inl h
          · exact .inr (.inr h)
theorem planT_of {N : Nat} {π kp : List Nat} (h : planT ti N ops π kp = true) : ∃ L, Plan ti N ops π kp L := by
  simp only [planT, force_eq, Bool.and_eq_true, List.all_eq_true, beq_iff_eq, List.mem_range] at h
  obtain ⟨⟨⟨h1, h2⟩, h3⟩, h4, h5⟩ := h
  generalize rowOf ops.size _ = L at h4 h5
  obtain ⟨⟨hn, _⟩, hat⟩ := scan_sound π [] 0 0 0 0 (fun f => by simp) (fun f hf => by simp at hf) (fun f hf => by simp at hf) (fun f hf => by simp at hf) h5
  refine ⟨L, h1, h2, hn, fun i hi => ?_, ⟨id, fun i hi b hb => ?_⟩, fun pre i post hp => ?_⟩
  · simpa using h3 i hi
  · obtain ⟨o, ho, x, hx, hbx, _, hxi, h⟩ := wmask_spec (sub_bit (h4 i hi) hb)
    rw [Nat.sub_zero] at h
    exact ⟨o, ho, x, hx, hbx, by omega, hxi, h⟩
  · obtain ⟨o, k1, k2, k3, k4, k5⟩ := hat pre i post hp
    exact ⟨o, k1, fun x hx hb => by simpa using k2 x hx hb, fun f hf => k3 f (.inr hf), fun he f hf => k4 he f (.inr hf), fun f hf => k5 f (.inr hf)⟩

theorem fold_wmaskS {seen : Nat} {L : Nat → Nat} {b : Nat} : ∀ (l : List Edge) (acc : Nat), (l.foldl (fun acc x => if (Region.binds .any x && seen.testBit x.on) = true then acc ||| (1 <<< x.on ||| L x.on) else acc) acc).testBit b = true →
    acc.testBit b = true ∨ ∃ x ∈ l, Region.binds .any x = true ∧ seen.testBit x.on = true ∧ (x.on = b ∨ (L x.on).testBit b = true)
  | [], acc, h => .inl h
  | x :: l, acc, h => by
    simp only [List.foldl_cons] at h
    rcases fold_wmaskS l _ h with h1 | ⟨y, hy, h2⟩
    · split at h1
      · rename_i hc
        simp only [Bool.and_eq_true] at hc
        simp only [Nat.testBit_or, Bool.or_eq_true, shl_bit, decide_eq_true_eq] at h1
        rcases h1 with h1 | h1 | h1
        · exact .inl h1
        · exact .inr ⟨x, by simp, hc.1, hc.2, .inl h1⟩
        · exact .inr ⟨x, by simp, hc.1, hc.2, .inr h1⟩
      · exact .inl h1
    · exact .inr ⟨y, by simp [hy], h2⟩
theorem wmaskS_spec {seen i : Nat} {L : Nat → Nat} {b : Nat} (h : (wmaskS ops seen L i).testBit b = true) : ∃ o, ops[i]? = some o ∧ ∃ x ∈ o.after, Region.binds .any x = true ∧ seen.testBit x.on = true ∧ (x.on = b ∨ (L x.on).testBit b = true) := by
  unfold wmaskS at h
  split at h
  · rename_i o ho
    rcases fold_wmaskS _ _ h with h | ⟨x, hx, h⟩
    · simp at h
    · exact ⟨o, ho, x, by simpa using hx, h⟩
  · simp at h
theorem rowsP_sound {L : Nat → Nat} {π : List Nat} (hn : π.Nodup) : ∀ (post bef : List Nat) (seen : Nat), π = bef ++ post → (∀ f, seen.testBit f = true ↔ f ∈ bef) → rowsP ops L post seen = true →
    ∀ i ∈ post, ∀ b, (L i).testBit b = true → ∃ o, ops[i]? = some o ∧ ∃ x ∈ o.after, Region.binds .any x = true ∧ x.on ∈ π ∧ π.idxOf x.on < π.idxOf i ∧ (x.on = b ∨ (L x.on).testBit b = true)
  | [], _, _, _, _, _, i, hi, _, _ => by cases hi
  | j :: post, bef, seen, hp, hs, h, i, hi, b, hb => by
    simp only [rowsP, force_eq, Bool.and_eq_true, beq_iff_eq] at h
    obtain ⟨h1, h2⟩ := h
    rcases List.mem_cons.1 hi with rfl | hi
    · obtain ⟨o, ho, x, hx, hbx, hsx, hxb⟩ := wmaskS_spec (sub_bit h1 hb)
      have hm := (hs _).1 hsx
      refine ⟨o, ho, x, hx, hbx, by rw [hp]; exact List.mem_append_left _ hm, ?_, hxb⟩
      have hni : i ∉ bef := by
        rw [hp] at hn
        exact fun hc => (List.nodup_append.1 hn).2.2 i hc i (by simp) rfl
      rw [hp, List.idxOf_append, List.idxOf_append, if_pos hm, if_neg hni]
      have := List.idxOf_lt_length_of_mem hm
      omega
    · refine rowsP_sound hn post (bef ++ [j]) (seen ||| 1 <<< j) (by simp [hp]) (fun f => ?_) h2 i hi b hb
      rw [Nat.testBit_or, Bool.or_eq_true, hs, List.mem_append, List.mem_singleton]
      simp only [shl_bit, decide_eq_true_eq]
      exact ⟨fun h => h.imp id Eq.symm, fun h => h.imp id Eq.symm⟩
theorem planP_of {N : Nat} {π kp : List Nat} (h : planP ti N ops π kp = true) : ∃ L, Plan ti N ops π kp L := by
  simp only [planP, force_eq, Bool.and_eq_true, List.all_eq_true, List.mem_range] at h
  obtain ⟨⟨⟨h1, h2⟩, h3⟩, h4, h5⟩ := h
  generalize rowOf ops.size _ = L at h4 h5
  obtain ⟨⟨hn, _⟩, hat⟩ := scan_sound π [] 0 0 0 0 (fun f => by simp) (fun f hf => by simp at hf) (fun f hf => by simp at hf) (fun f hf => by simp at hf) h5
  have hall : ∀ i, i < ops.size → i ∈ π := fun i hi => by simpa using h3 i hi
  have hlt : ∀ i ∈ π, i < ops.size := fun i hi => by
    obtain ⟨s, t, hst⟩ := List.append_of_mem hi
    obtain ⟨o, ho, _⟩ := hat s i t hst
    exact (Array.getElem?_eq_some_iff.1 ho).1
  refine ⟨L, h1, h2, hn, hall, ⟨fun i => π.idxOf i, fun i hi b hb => ?_⟩, fun pre i post hp => ?_⟩
  · obtain ⟨o, ho, x, hx, hbx, hxs, hxi, h⟩ := rowsP_sound hn π [] 0 rfl (fun f => by simp) h4 i (hall i hi) b hb
    exact ⟨o, ho, x, hx, hbx, hlt _ hxs, hxi, h⟩
  · obtain ⟨o, k1, k2, k3, k4, k5⟩ := hat pre i post hp
    exact ⟨o, k1, fun x hx hb => by simpa using k2 x hx hb, fun f hf => k3 f (.inr hf), fun he f hf => k4 he f (.inr hf), fun f hf => k5 f (.inr hf)⟩
theorem plan_of {N : Nat} {π kp : List Nat} (h : planOK ti N ops π kp = true) : ∃ L, Plan ti N ops π kp L := by
  unfold planOK at h
  rw [Bool.or_eq_true] at h
  rcases h with h | h
  · exact planT_of h
  · exact planP_of h

/-! ### What can come -/
theorem lstU_get {U : List Nat} {i : Nat} (d : Bool) (h : i < ops.size) : (lstU ops U).getD i d = !U.contains i := by simp [lstU, h]
theorem lstU_out {U : List Nat} {i : Nat} (d : Bool) (h : ¬ i < ops.size) : (lstU ops U).getD i d = d := by simp [lstU, h]
theorem lstU_set {j : Nat} {r1 r2 : List Nat} (hn : j ∉ r1 ∧ j ∉ r2) : (lstU ops (r1 ++ j :: r2)).setIfInBounds j true = lstU ops (r1 ++ r2) := by
  apply Array.ext
  · simp [lstU]
  · intro i h1 h2
    have hi : i < ops.size := by simpa [lstU] using h2
    by_cases hik : j = i
    · subst hik
      simp [lstU, hn.1, hn.2]
    · rw [Array.getElem_setIfInBounds_ne _ hik]
      · simp [lstU, Ne.symm hik]
      · simpa [lstU] using hi
theorem ready_U {U : List Nat} {j : Nat} : j ∈ Region.ready .any ops (lstU ops U) ↔ j ∈ U ∧ ∃ o, ops[j]? = some o ∧ ∀ x ∈ o.after, Region.binds .any x = true → x.on < ops.size ∧ x.on ∉ U := by
  rw [mem_ready]
  constructor
  · rintro ⟨h1, o, ho, hall⟩
    have hj := (Array.getElem?_eq_some_iff.1 ho).1
    rw [lstU_get _ hj] at h1
    refine ⟨by simpa using h1, o, ho, fun x hx hb => ?_⟩
    have := hall x hx hb
    by_cases hsz : x.on < ops.size
    · rw [lstU_get _ hsz] at this
      exact ⟨hsz, by simpa using this⟩
    · rw [lstU_out _ hsz] at this; cases this
  · rintro ⟨h1, o, ho, hall⟩
    have hj := (Array.getElem?_eq_some_iff.1 ho).1
    refine ⟨by rw [lstU_get _ hj]; simpa using h1, o, ho, fun x hx hb => ?_⟩
    obtain ⟨h2, h3⟩ := hall x hx hb
    rw [lstU_get _ h2]; simpa using h3
variable {N : Nat} {π kp : List Nat} {L : Nat → Nat} {k : Nat} {rem : List Ent} {a : Act}
theorem Plan.lt (pl : Plan ti N ops π kp L) {i : Nat} (hi : i ∈ π) : i < ops.size := by
  obtain ⟨s, t, hst⟩ := List.append_of_mem hi
  obtain ⟨o, ho, _⟩ := pl.at_ s i t hst
  exact (Array.getElem?_eq_some_iff.1 ho).1
theorem Plan.apart_td (pl : Plan ti N ops π kp L) {i : Nat} (h : i ∈ π.take k) : i ∉ π.drop k := by
  have := pl.nodup
  rw [← List.take_append_drop k π] at this
  exact fun hd => (List.nodup_append.1 this).2.2 i h i hd rfl
theorem split_take {i : Nat} (h : i ∈ π.take k) : ∃ p1 p2, π.take k = p1 ++ i :: p2 ∧ π = p1 ++ i :: (p2 ++ π.drop k) := by
  obtain ⟨p1, p2, hp⟩ := List.append_of_mem h
  refine ⟨p1, p2, hp, ?_⟩
  have := List.take_append_drop k π
  rw [hp] at this
  simpa using this.symm
theorem closedU (pl : Plan ti N ops π kp L) (hp : PendOK P ti ops π k rem a w) : ∀ i o, i < ops.size → i ∉ rem.map (·.1) ++ π.drop k → ops[i]? = some o → ∀ x ∈ o.after, Region.binds .any x = true → x.on ∉ rem.map (·.1) ++ π.drop k := by
  intro i o hi hiU ho x hx hb
  simp only [List.mem_append, not_or] at hiU ⊢
  have hit : i ∈ π.take k := by
    have := pl.all i hi
    rw [← List.take_append_drop k π, List.mem_append] at this
    exact this.resolve_right hiU.2
  obtain ⟨p1, p2, h1, h2⟩ := split_take hit
  obtain ⟨o', ho', hdep, _⟩ := pl.at_ p1 i _ h2
  rw [ho] at ho'; injection ho' with ho'; subst ho'
  refine ⟨hp.closed i hit hiU.1 o ho x hx hb, pl.apart_td ?_⟩
  rw [h1]
  simp [hdep x hx hb]
/-- One of those that lag comes. -/
theorem pick_pend (pl : Plan ti N ops π kp L) {e : Ent} {r1 r2 : List Ent} (hp : PendOK P ti ops π k (r1 ++ e :: r2) a w) (hdep : ∀ x ∈ e.2.1.after, Region.binds .any x = true → x.on ∉ (r1 ++ e :: r2).map (·.1) ++ π.drop k) :
    yatS P ti ops w e.2.1 e.2.2 a ∧ PendOK P ti ops π k (r1 ++ r2) (a.put e.2.1.dst e.2.2) w ∧ puts (r1 ++ e :: r2) a = puts (r1 ++ r2) (a.put e.2.1.dst e.2.2) ∧ e.1 ∉ r1.map (·.1) ∧ e.1 ∉ r2.map (·.1) ∧ e.1 ∉ π.drop k := by
  have heo := hp.op e (by simp)
  have hsub := hp.sub
  have hnd : ((r1 ++ e :: r2).map (·.1)).Nodup := hsub.nodup (pl.nodup.sublist (List.take_sublist _ _))
  have hmap : (r1 ++ e :: r2).map (·.1) = r1.map (·.1) ++ e.1 :: r2.map (·.1) := by simp
  rw [hmap] at hsub hnd
  obtain ⟨l1, l2, hl, hs1, hs2⟩ := List.append_sublist_iff.1 hsub
  obtain ⟨q1, q2, hq⟩ := List.append_of_mem (hs2.subset (List.mem_cons_self))
  have hπ : π = (l1 ++ q1) ++ e.1 :: (q2 ++ π.drop k) := by
    have := List.take_append_drop k π
    rw [hl, hq] at this
    simpa using this.symm
  obtain ⟨o', ho', _, _, _, hap⟩ := pl.at_ _ _ _ hπ
  rw [heo] at ho'; injection ho' with ho'; subst ho'
  have hapart : ∀ f ∈ r1, f.2.1.apart ops e.2.1 = true := by
    intro f hf
    have hfm : f.1 ∈ l1 ++ q1 := by
      have := hs1.subset (List.mem_map.2 ⟨f, hf, rfl⟩)
      simp [this]
    rcases hap f.1 hfm f.2.1 (hp.op f (by simp [hf])) with h | h
    · exact absurd (by simp only [List.map_append, List.mem_append]; exact .inl (.inl (List.mem_map.2 ⟨f, hf, rfl⟩))) (need_out pl.rows (closedU pl hp) heo hdep h)
    · exact h
  obtain ⟨hy, hc, hput⟩ := chainS_move pl.hs heo r1 a hapart (fun f hf => hp.op f (by simp [hf])) hp.chain
  simp only [List.nodup_append, List.nodup_cons] at hnd
  have hmem : e.1 ∈ π.take k := hsub.subset (by simp)
  refine ⟨hy, ⟨fun f hf => hp.op f (by simp at hf ⊢; rcases hf with h | h <;> simp [h]), ?_, ?_, fun f hf => hp.eff f (by simp at hf ⊢; rcases hf with h | h <;> simp [h]), hc⟩, hput, fun h => hnd.2.2 e.1 h e.1 (by simp) rfl, hnd.2.1.1, pl.apart_td hmem⟩
  · refine List.Sublist.trans ?_ hp.sub
    rw [hmap, List.map_append]
    exact List.Sublist.append (List.Sublist.refl _) (List.sublist_cons_self _ _)
  · intro i hi hni o hio x hx hb
    have sub : ∀ y, y ∈ (r1 ++ r2).map (·.1) → y ∈ (r1 ++ e :: r2).map (·.1) := fun y hy => by simp only [List.map_append, List.map_cons, List.mem_append, List.mem_cons] at hy ⊢; rcases hy with h | h <;> simp [h]
    by_cases hie : i = e.1
    · subst hie
      rw [heo] at hio; injection hio with hio; subst hio
      exact fun h => hdep x hx hb (by simp only [List.mem_append]; exact .inl (sub _ h))
    · refine fun h => hp.closed i hi (fun h5 => hni ?_) o hio x hx hb (sub _ h)
      simp only [List.map_append, List.map_cons, List.mem_append, List.mem_cons] at h5 ⊢
      rcases h5 with h5 | h5 | h5
      · exact .inl h5
      · exact absurd h5 hie
      · exact .inr h5
/-- Whatever comes: those that lag, or the next one, which has an effect. -/
theorem settle (pl : Plan ti N ops π kp L) {Q : Exit → Act → World → Prop} {B : Act} (heff : ∀ i0 rest o, π.drop k = i0 :: rest → ops[i0]? = some o → isEff ti o = true) (hend : π.drop k = [] → Q .normal B w)
    (hstep : ∀ i0 rest rem a, π.drop k = i0 :: rest → PendOK P ti ops π k rem a w → puts rem a = B → (∀ o, ops[i0]? = some o → ∀ x ∈ o.after, Region.binds .any x = true → x.on ∉ rem.map (·.1) ++ π.drop k) →
      wpOp P ops Q i0 (fun a w => wpAny P .any ops Q (rem.length + (π.length - (k + 1))) (lstU ops (rem.map (·.1) ++ rest)) a w) a w) :
    ∀ (n : Nat) (rem : List Ent) (a : Act), rem.length = n → PendOK P ti ops π k rem a w → puts rem a = B → wpAny P .any ops Q (rem.length + (π.length - k)) (lstU ops (rem.map (·.1) ++ π.drop k)) a w := by
  intro n
  induction n with
  | zero =>
    intro rem a hl hp hB
    have hr : rem = [] := List.eq_nil_of_length_eq_zero hl
    subst hr
    have e0 : List.map (fun x : Ent => x.1) [] = ([] : List Nat) := rfl
    rw [e0]
    cases hd : π.drop k with
    | nil =>
      have : π.length - k = 0 := by have := congrArg List.length hd; simpa using this
      rw [this]
      refine ⟨?_, by rw [← hB] at hend; exact hend hd⟩
      cases hq : Region.ready .any ops (lstU ops (([] : List Nat) ++ [])) with
      | nil => rfl
      | cons j js =>
        have hj : j ∈ Region.ready .any ops (lstU ops (([] : List Nat) ++ [])) := by rw [hq]; simp
        have := (ready_U.1 hj).1
        simp at this
    | cons i0 rest =>
      have hlen : π.length - k = (π.length - (k + 1)) + 1 := by have := congrArg List.length hd; simp at this; omega
      have hπ : π = π.take k ++ i0 :: rest := by rw [← hd, List.take_append_drop]
      obtain ⟨o, ho, hdep, _⟩ := pl.at_ _ _ _ hπ
      have hd2 : ∀ x ∈ o.after, Region.binds .any x = true → x.on < ops.size ∧ x.on ∉ ([] : List Nat) ++ i0 :: rest := fun x hx hb => by
        have hm := hdep x hx hb
        refine ⟨pl.lt (List.mem_of_mem_take hm), ?_⟩
        rw [← hd]
        simpa using pl.apart_td hm
      rw [hlen, List.length_nil, Nat.zero_add]
      refine ⟨fun h0 => ?_, fun j hj => ?_⟩
      · have : i0 ∈ Region.ready .any ops (lstU ops (([] : List Nat) ++ i0 :: rest)) := ready_U.2 ⟨by simp, o, ho, hd2⟩
        rw [h0] at this; cases this
      · obtain ⟨hjU, oj, hoj, hjd⟩ := ready_U.1 hj
        have hcl := closedU pl hp
        rw [hd] at hcl
        have hji : j = i0 := by
          apply Classical.byContradiction
          intro hne
          have hjr : j ∈ rest := by simpa [hne] using hjU
          obtain ⟨s, t, hst⟩ := List.append_of_mem hjr
          have hπ2 : π = (π.take k ++ i0 :: s) ++ j :: t := by rw [List.append_assoc, List.cons_append, ← hst]; exact hπ
          obtain ⟨oj', hoj', _, he, _⟩ := pl.at_ _ _ _ hπ2
          have hb := he i0 (by simp) o ho (heff i0 rest o hd ho)
          exact need_out pl.rows hcl hoj (fun x hx hb => (hjd x hx hb).2) hb (by simp)
        subst hji
        have hnr : j ∉ rest := by
          have := pl.nodup
          rw [hπ, List.nodup_append, List.nodup_cons] at this
          exact this.2.1.1
        rw [lstU_set ⟨by simp, hnr⟩]
        have := hstep j rest [] a hd hp hB (fun o' ho' x hx hb => by rw [ho] at ho'; injection ho' with ho'; subst ho'; rw [hd]; exact (hd2 x hx hb).2)
        rw [List.length_nil, Nat.zero_add] at this
        exact this
  | succ n ih =>
    intro rem a hl hp hB
    have hcl := closedU pl hp
    rw [hl, Nat.succ_add]
    refine ⟨fun h0 => ?_, fun j hj => ?_⟩
    · -- the first of those that lag can come
      cases rem with
      | nil => simp at hl
      | cons e rem' =>
        have heo := hp.op e (by simp)
        have hsub := hp.sub
        have hnd := hsub.nodup (pl.nodup.sublist (List.take_sublist _ _))
        have hmem : e.1 ∈ π.take k := hsub.subset (by simp)
        -- the first place where it stands
        obtain ⟨p1, p2, h1, h2⟩ := split_take hmem
        obtain ⟨o', ho', hdep, _⟩ := pl.at_ _ _ _ h2
        rw [heo] at ho'; injection ho' with ho'; subst ho'
        have hp1 : ∀ y ∈ p1, y ∉ (e :: rem').map (·.1) := by
          intro y hy hm
          have hn1 : (p1 ++ e.1 :: p2).Nodup := by rw [← h1]; exact pl.nodup.sublist (List.take_sublist _ _)
          rw [h1] at hsub
          simp only [List.map_cons] at hsub hm
          have hne : e.1 ∉ p1 := fun h => (List.nodup_append.1 hn1).2.2 e.1 h e.1 (by simp) rfl
          have : (e.1 :: rem'.map (·.1)).Sublist (e.1 :: p2) := by
            rcases List.sublist_append_iff.1 hsub with ⟨u1, u2, hu, hu1, hu2⟩
            cases u1 with
            | nil => simp only [List.nil_append] at hu; rw [hu]; exact hu2
            | cons z u1 =>
              simp only [List.cons_append, List.cons.injEq] at hu
              exact absurd (hu1.subset (by simp [hu.1])) hne
          have hm2 := this.subset hm
          exact (List.nodup_append.1 hn1).2.2 y hy y hm2 rfl
        have : e.1 ∈ Region.ready .any ops (lstU ops ((e :: rem').map (·.1) ++ π.drop k)) := ready_U.2 ⟨by simp, e.2.1, heo, fun x hx hb => by
          have hm := hdep x hx hb
          refine ⟨pl.lt (by rw [h2]; simp [hm]), ?_⟩
          simp only [List.mem_append, not_or]
          exact ⟨hp1 _ hm, pl.apart_td (by rw [h1]; simp [hm])⟩⟩
        rw [h0] at this; cases this
    · obtain ⟨hjU, oj, hoj, hjd⟩ := ready_U.1 hj
      by_cases hjr : j ∈ rem.map (·.1)
      · obtain ⟨e, he, rfl⟩ := List.mem_map.1 hjr
        obtain ⟨r1, r2, rfl⟩ := List.append_of_mem he
        have heo := hp.op e (by simp)
        rw [heo] at hoj; injection hoj with hoj; subst hoj
        obtain ⟨hy, hp', hput, hn1, hn2, hn3⟩ := pick_pend pl hp (fun x hx hb => (hjd x hx hb).2)
        have fin := ih (r1 ++ r2) (a.put e.2.1.dst e.2.2) (by simp at hl ⊢; omega) hp' (by rw [← hput]; exact hB)
        have hset : (lstU ops ((r1 ++ e :: r2).map (·.1) ++ π.drop k)).setIfInBounds e.1 true = lstU ops ((r1 ++ r2).map (·.1) ++ π.drop k) := by
          have := lstU_set (ops := ops) (j := e.1) (r1 := r1.map (·.1)) (r2 := r2.map (·.1) ++ π.drop k) ⟨hn1, by simp only [List.mem_append, not_or]; exact ⟨hn2, hn3⟩⟩
          simpa using this
        rw [hset]
        have hlen2 : (r1 ++ r2).length = n := by simp at hl ⊢; omega
        rw [hlen2] at fin
        unfold wpOp
        rw [heo]
        rcases hy w (.inr (.inr rfl)) with ⟨hw, hrun⟩ | ⟨hw, hx⟩
        · simp only [hw, if_true]
          left
          unfold Oper.wp
          rw [hrun, Oper.upon_value]
          exact fin
        · simp only [hw, Bool.false_eq_true, if_false]
          rw [hx] at fin
          exact fin
      · have hjd2 : j ∈ π.drop k := by
          simp only [List.mem_append] at hjU
          exact hjU.resolve_left hjr
        cases hd : π.drop k with
        | nil => rw [hd] at hjd2; cases hjd2
        | cons i0 rest =>
          have hπ : π = π.take k ++ i0 :: rest := by rw [← hd, List.take_append_drop]
          obtain ⟨o, ho, _⟩ := pl.at_ _ _ _ hπ
          have hji : j = i0 := by
            apply Classical.byContradiction
            intro hne
            have hjr2 : j ∈ rest := by rw [hd] at hjd2; simpa [hne] using hjd2
            obtain ⟨s, t, hst⟩ := List.append_of_mem hjr2
            have hπ2 : π = (π.take k ++ i0 :: s) ++ j :: t := by rw [List.append_assoc, List.cons_append, ← hst]; exact hπ
            obtain ⟨oj', hoj', _, he, _⟩ := pl.at_ _ _ _ hπ2
            have hb := he i0 (by simp) o ho (heff i0 rest o hd ho)
            exact need_out pl.rows hcl hoj (fun x hx hb => (hjd x hx hb).2) hb (by rw [hd]; simp)
          subst hji
          have hnr : j ∉ rest := by
            have := pl.nodup
            rw [hπ, List.nodup_append, List.nodup_cons] at this
            exact this.2.1.1
          rw [lstU_set ⟨hjr, hnr⟩]
          have hlen : π.length - k = (π.length - (k + 1)) + 1 := by have := congrArg List.length hd; simp at this; omega
          have := hstep j rest rem a hd hp hB (fun o' ho' x hx hb => by rw [hoj] at ho'; injection ho' with ho'; subst ho'; exact (hjd x hx hb).2)
          rw [hl] at this
          have e2 : n + (π.length - k) = n + 1 + (π.length - (k + 1)) := by omega
          rw [e2]
          exact this

/-! ### Over what stands in the slots -/
variable {G : Nat → List D} {K : KD} {σ : St}
theorem evA_ro {ρ : Operand → AV} {r r' : Rs} {op : Op} {v : AV} (hp : roOp ti op = true) (e : evA ti ρ r op = some (v, r')) : evP ti ρ r op = some v ∧ r' = r := by
  cases op <;> simp only [roOp, reduceCtorEq, Bool.false_eq_true] at hp
  case convert s d x =>
    simp only [evA] at e
    split at e
    · rename_i u hu
      simp only [Option.some.injEq, Prod.mk.injEq] at e
      obtain ⟨rfl, rfl⟩ := e
      exact ⟨hu, rfl⟩
    · simp only [evR] at e
      refine absurd e (evCB_no fun el s b z he => ?_)
      unfold tK at hp
      rw [he] at hp
      simp [tkOf] at hp
  case call c =>
    simp only [evA] at e
    split at hp
    all_goals first
      | (rename_i hc
         rw [hc] at e
         simp only [Option.map_eq_some_iff, Prod.mk.injEq] at e
         obtain ⟨u, hu, rfl, rfl⟩ := e
         exact ⟨hu, rfl⟩)
      | cases hp
  all_goals
    simp only [evA, Option.map_eq_some_iff, Prod.mk.injEq] at e
    obtain ⟨u, hu, rfl, rfl⟩ := e
    exact ⟨hu, rfl⟩
theorem opl_cons (pl : Plan ti N ops π kp L) {o : Oper} {rest : List Oper} (h : o :: rest = opl ops (π.drop k)) : ∃ i0, π.drop k = i0 :: π.drop (k + 1) ∧ ops[i0]? = some o ∧ rest = opl ops (π.drop (k + 1)) ∧ k + 1 ≤ π.length := by
  cases hd : π.drop k with
  | nil => rw [hd] at h; simp [opl] at h
  | cons i0 tl =>
    have hlt := congrArg List.length hd
    simp at hlt
    have htl : π.drop (k + 1) = tl := by
      have := congrArg (List.drop 1) hd
      rw [List.drop_drop] at this
      simpa [Nat.add_comm] using this
    have hπ : π = π.take k ++ i0 :: tl := by rw [← hd, List.take_append_drop]
    obtain ⟨o', ho', _⟩ := pl.at_ _ _ _ hπ
    rw [hd] at h
    simp only [opl, List.filterMap_cons, ho', List.cons.injEq] at h
    exact ⟨i0, by rw [htl], by rw [ho', h.1], by rw [htl]; exact h.2, by omega⟩
theorem opl_nil (pl : Plan ti N ops π kp L) (h : [] = opl ops (π.drop k)) : π.drop k = [] := by
  cases hd : π.drop k with
  | nil => rfl
  | cons i0 tl =>
    have hπ : π = π.take k ++ i0 :: tl := by rw [← hd, List.take_append_drop]
    obtain ⟨o', ho', _⟩ := pl.at_ _ _ _ hπ
    rw [hd] at h
    simp [opl, ho'] at h
theorem pend_next (pl : Plan ti N ops π kp L) {i0 : Nat} {o : Oper} (hd : π.drop k = i0 :: π.drop (k + 1)) (ho : ops[i0]? = some o) (hk : k + 1 ≤ π.length) : π.take (k + 1) = π.take k ++ [i0] ∧ (∀ x ∈ o.after, Region.binds .any x = true → x.on ∈ π.take k) := by
  have hπ : π = π.take k ++ i0 :: π.drop (k + 1) := by rw [← hd, List.take_append_drop]
  obtain ⟨o', ho', hdep, _⟩ := pl.at_ _ _ _ hπ
  rw [ho] at ho'; injection ho' with ho'; subst ho'
  refine ⟨?_, hdep⟩
  have hl : (π.take k).length = k := by simp; omega
  conv => lhs; rw [hπ]
  rw [List.take_append, hl, List.take_of_length_le (by omega)]
  simp
/-- An operation that only reads is taken at once; it may come later. -/
theorem DWp_read (pl : Plan ti N ops π kp L) {i0 : Nat} {o : Oper} (hd : π.drop k = i0 :: π.drop (k + 1)) (ho : ops[i0]? = some o) (hk : k + 1 ≤ π.length) (hne : isEff ti o = false) {σ' : St} (hr : σ'.r = σ.r)
    (hy : ∀ E a w, Rel G N E σ a w → ∃ x, yatS P ti ops w o x a ∧ Rel G N E σ' (a.put o.dst x) w) (h : DWp P ti G N ops π (k + 1) K σ') : DWp P ti G N ops π k K σ := by
  intro E0 r0 w0 E a w rem hp hR hS
  obtain ⟨x, hyx, hR'⟩ := hy E _ w hR
  obtain ⟨ht, hdep⟩ := pend_next pl hd ho hk
  obtain ⟨hc, hput⟩ := chainS_snoc (e := (i0, o, x)) rem a hp.chain hyx
  have hi0 : i0 ∉ π.take k := by
    have := pl.nodup
    rw [← List.take_append_drop k π, hd, List.nodup_append] at this
    exact fun hm => this.2.2 i0 hm i0 (by simp) rfl
  have hp' : PendOK P ti ops π (k + 1) (rem ++ [(i0, o, x)]) a w := by
    refine ⟨fun e he => ?_, ?_, ?_, fun e he => ?_, hc⟩
    · simp only [List.mem_append, List.mem_singleton] at he
      rcases he with he | rfl
      · exact hp.op e he
      · exact ho
    · rw [ht, List.map_append]
      exact List.Sublist.append hp.sub (List.Sublist.refl _)
    · intro i hi hni o' ho' y hy' hb
      simp only [List.map_append, List.map_cons, List.map_nil, List.mem_append, List.mem_singleton, not_or] at hni ⊢
      rw [ht, List.mem_append, List.mem_singleton] at hi
      have hit := hi.resolve_right hni.2
      refine ⟨hp.closed i hit hni.1 o' ho' y hy' hb, fun h => ?_⟩
      obtain ⟨p1, p2, h1, h2⟩ := split_take hit
      obtain ⟨o2, ho2, hd2, _⟩ := pl.at_ _ _ _ h2
      rw [ho'] at ho2; injection ho2 with ho2; subst ho2
      have := hd2 y hy' hb
      rw [h] at this
      exact hi0 (by rw [h1]; simp [this])
    · simp only [List.mem_append, List.mem_singleton] at he
      rcases he with he | rfl
      · exact hp.eff e he
      · exact hne
  have := h E0 r0 w0 E a w _ hp' (by rw [hput]; exact hR') (by rw [hr]; exact hS)
  have e1 : (rem ++ [(i0, o, x)]).length + (π.length - (k + 1)) = rem.length + (π.length - k) := by simp; omega
  have e2 : (rem ++ [(i0, o, x)]).map (·.1) ++ π.drop (k + 1) = rem.map (·.1) ++ π.drop k := by rw [hd]; simp
  rw [e1, e2] at this
  exact this
/-- One with an effect, in its turn. -/
theorem DWp_step (pl : Plan ti N ops π kp L) {i0 : Nat} {o : Oper} (hd : π.drop k = i0 :: π.drop (k + 1)) (ho : ops[i0]? = some o) (hk : k + 1 ≤ π.length) (he : isEff ti o = true)
    (h : ∀ E0 r0 w0 E b w, Rel G N E σ b w → Step E0 r0 w0 E σ.r w → ∀ (a : Act) (C : Act → World → Prop), execOp b.eval o = execOp a.eval o → Region.wanted o (yielded ops b.tmps) = Region.wanted o (yielded ops a.tmps) →
      (∀ x w' E' σ', Rel G N E' σ' (b.put o.dst x) w' → Step E0 r0 w0 E' σ'.r w' → (isKeep kp i0 o = true → Keeps w w') → DWp P ti G N ops π (k + 1) K σ' → C (a.put o.dst x) w') → if Region.wanted o (yielded ops a.tmps) = true then o.wp P a w C (noPanic (lift G N E0 r0 w0 (app P ti G N K))) else C (a.put o.dst undef) w) :
    DWp P ti G N ops π k K σ := by
  intro E0 r0 w0 E a w rem hp hR hS
  obtain ⟨ht, hdep⟩ := pend_next pl hd ho hk
  have hπ : π = π.take k ++ i0 :: π.drop (k + 1) := by rw [← hd, List.take_append_drop]
  obtain ⟨o', ho', _, _, hnp, hap⟩ := pl.at_ _ _ _ hπ
  rw [ho] at ho'; injection ho' with ho'; subst ho'
  refine settle (B := puts rem a) pl (fun i r o' hd' ho' => ?_) (fun h0 => ?_) (fun i0' rest rem' a' hd' hp' hB hdU => ?_) rem.length rem a rfl hp rfl
  · rw [hd] at hd'
    simp only [List.cons.injEq] at hd'
    rw [← hd'.1, ho] at ho'; injection ho' with ho'; subst ho'
    exact he
  · rw [hd] at h0; cases h0
  · rw [hd] at hd'
    simp only [List.cons.injEq] at hd'
    obtain ⟨rfl, rfl⟩ := hd'
    have hdV := hdU o ho
    have hcl := closedU pl hp'
    have hin : ∀ f ∈ rem', f.1 ∈ π.take k := fun f hf => hp'.sub.subset (List.mem_map.2 ⟨f, hf, rfl⟩)
    have hU : ∀ f ∈ rem', f.1 ∈ rem'.map (·.1) ++ π.drop k := fun f hf => by simp only [List.mem_append]; exact .inl (List.mem_map.2 ⟨f, hf, rfl⟩)
    have hpu : ∀ f ∈ rem', pureOp ti f.2.1.op = true ∨ (isKeep kp i0 o = true ∧ stOp ti f.2.1.op = true) := fun f hf => by
      rcases hnp he f.1 (hin f hf) f.2.1 (hp'.op f hf) with h1 | h1
      · exact h1
      · exact absurd (hU f hf) (need_out pl.rows hcl ho hdV h1)
    have hapf : ∀ f ∈ rem', f.2.1.apart ops o = true := fun f hf => by
      rcases hap f.1 (hin f hf) f.2.1 (hp'.op f hf) with h1 | h1
      · exact absurd (hU f hf) (need_out pl.rows hcl ho hdV h1)
      · exact h1
    obtain ⟨k1, k2, k3, k4⟩ := chainS_front pl.hs ho rem' a' hapf hp'.op hp'.chain
    have main := h E0 r0 w0 E (puts rem' a') w (by rw [hB]; exact hR) hS a' (fun a w => wpAny P .any ops (noPanic (lift G N E0 r0 w0 (app P ti G N K))) (rem'.length + (π.length - (k + 1))) (lstU ops (rem'.map (·.1) ++ π.drop (k + 1))) a w) k1 k2
      (fun x w' E' σ' hR' hS' hkp hD => by
        have m1 := k4 x w' fun f hf => (hpu f hf).imp id fun h => ⟨h.2, hkp h.1⟩
        have m2 := k3 x
        refine hD E0 r0 w0 E' _ w' rem' ⟨hp'.op, ?_, ?_, hp'.eff, m1⟩ (by rw [m2]; exact hR') hS'
        · rw [ht]; exact hp'.sub.trans (List.sublist_append_left _ _)
        · intro i hi hni o2 ho2 y hy hb
          rw [ht, List.mem_append, List.mem_singleton] at hi
          rcases hi with hi | rfl
          · exact hp'.closed i hi hni o2 ho2 y hy hb
          · rw [ho] at ho2; injection ho2 with ho2; subst ho2
            have := hdV y hy hb
            simp only [List.mem_append, not_or] at this
            exact this.1)
    unfold wpOp
    rw [ho]
    simp only
    split at main
    · rename_i hw; rw [if_pos hw]; exact .inl main
    · rename_i hw; rw [if_neg hw]; exact main
theorem DWp_end (pl : Plan ti N ops π kp L) (hd : π.drop k = []) (h : app P ti G N K .normal σ) : DWp P ti G N ops π k K σ := by
  intro E0 r0 w0 E a w rem hp hR hS
  exact settle (B := puts rem a) pl (fun i r o' hd' => by rw [hd] at hd'; cases hd') (fun _ => ⟨σ, E, h, hR, hS⟩) (fun i0' rest rem' a' hd' => by rw [hd] at hd'; cases hd') rem.length rem a rfl hp rfl
/-- A new struct or row leaves memory as it was. -/
theorem keep_run (hti : TiOK P ti) {ρ : Operand → AV} {r r' : Rs} {o : Oper} {v : AV} {α : Operand → Value} {x : Value} {w' : World} (hko : keepOp o.op = true) (e : evA ti ρ r o.op = some (v, r')) (h : (execOp α o).run P w = .ok (.value x) w' ∨ ((execOp α o).run P w = .ok .skip w' ∧ x = undef)) : Keeps w w' := by
  cases ho : o.op <;> rw [ho] at hko e <;> simp only [keepOp, Bool.false_eq_true] at hko
  case box t y =>
    have hb : (execOp α o).run P w = .ok (.value (.pointer (some ⟨w.heap.size, 0, none⟩))) (w.alloc (.cells (α y).cells t)) := by
      simp [execOp, ho, Instr.box, newVar, newRow, newObj]; rfl
    rw [hb] at h
    have : w' = w.alloc (.cells (α y).cells t) := by rcases h with h | ⟨h, _⟩ <;> injection h with h1 h2 <;> exact h2.symm
    rw [this]
    exact Keeps.alloc _ _
  case alloc t =>
    simp only [evA, evR] at e
    split at e
    · rename_i i hi
      have hzr := ti_zero (P := P) hti hi w
      have hb : (execOp α o).run P w = .ok (.value (.pointer (some ⟨w.heap.size, 0, none⟩))) (w.alloc (.cells i.zero.cells t)) := by
        simp [execOp, ho, Instr.alloc, hzr, newVar, newRow, newObj]; rfl
      rw [hb] at h
      have : w' = w.alloc (.cells i.zero.cells t) := by rcases h with h | ⟨h, _⟩ <;> injection h with h1 h2 <;> exact h2.symm
      rw [this]
      exact Keeps.alloc _ _
    · cases e
  case buildSlice t n parts =>
    simp only [evA, evR, evBS] at e
    split at e
    · rename_i el _ _ _ hte
      have hut := ti_run (P := P) hti hte w
      split at e
      · rename_i ie hie
        have hsz := ti_size (P := P) hti hie w
        have hzr := ti_zero (P := P) hti hie w
        simp only [execOp, ho, Instr.buildSlice, Sem.run_bind, hut, hsz, Result.andThen_ok] at h
        have hrow : ∀ cells : Array Value, Sem.run P (newRow el cells) w = .ok ⟨w.heap.size, 0, none⟩ (w.alloc (.cells cells el)) := fun cells => by simp [newRow, newObj]; rfl
        have h24 : ¬ n * ie.size > 2 ^ 24 := by
          cases n with
          | zero => simp
          | succ n =>
            simp only at e
            split at e
            · split at e
              · rename_i hc; have := hc.2.2; omega
              · cases e
            · cases e
        have fin : ∀ (q : Option (Array Value)), ((Sem.run P (match q with
            | some cells => do
              let a ← newRow el cells
              pure (Value.slice (some a) n n)
            | _ => stuck "buildSlice: a part of the wrong size") w).andThen fun a w' => Sem.run P (pure (Next.value a)) w') = .ok (.value x) w' ∨ ((Sem.run P (match q with
            | some cells => do
              let a ← newRow el cells
              pure (Value.slice (some a) n n)
            | _ => stuck "buildSlice: a part of the wrong size") w).andThen fun a w' => Sem.run P (pure (Next.value a)) w') = .ok .skip w' ∧ x = undef → Keeps w w' := by
          intro q h
          cases q with
          | some cells =>
            simp only [Sem.run_bind, hrow, Result.andThen_ok, Sem.run_pure] at h
            have : w' = w.alloc (.cells cells el) := by rcases h with h | ⟨h, _⟩ <;> injection h with h1 h2 <;> exact h2.symm
            rw [this]
            exact Keeps.alloc _ _
          | none => simp [stuck] at h
        rw [if_neg h24] at h
        by_cases h0 : n * ie.size = 0
        · rw [if_pos h0] at h
          simp only [Sem.run_bind, Sem.run_pure, Result.andThen_ok] at h
          exact fin _ h
        · rw [if_neg h0] at h
          simp only [Sem.run_bind, Sem.run_pure, hzr, Result.andThen_ok] at h
          exact fin _ h
      · cases e
    · cases e
theorem Good.keeps {E : Env} {r : Rs} {w' : World} (h : Good G E r w) (hk : Keeps w w') : Good G E r w' ∧ Lasts E.T w E.T w' ∧ ShapeLasts w w' := by
  have hL : Lasts E.T w E.T w' := ⟨fun _ => Nat.le_refl _, fun a ha => by
    unfold World.cell?; rw [hk.2 _ (h.pub_lt ha)]⟩
  have hS : ShapeLasts w w' := fun b s hs => by
    unfold World.shape? at hs ⊢
    have hb : b < w.heap.size := by
      rcases Nat.lt_or_ge b w.heap.size with h1 | h1
      · exact h1
      · simp [Array.getElem?_eq_none h1] at hs
    rw [hk.2 b hb]; exact hs
  refine ⟨⟨fun i q b hi hb => ?_, fun i l hi => ?_, fun i l hi => ?_, h.one, fun b hb => h.fresh b (Nat.le_trans hk.1 hb), fun g => RM.lasts hL _ _ (h.glob g)⟩, hL, hS⟩
  · obtain ⟨h1, cur, e, h2, h3⟩ := h.tok i q b hi hb
    exact ⟨h1, cur, e, (hk.2 b (h.lt hi hb)).trans h2, h3⟩
  · obtain ⟨b, hb, h1, vs, e, h2, h3, h4⟩ := h.obj i l hi
    exact ⟨b, hb, h1, vs, e, (hk.2 b (h.lt hi hb)).trans h2, RAL.lasts hL (Names.refl E r) hS _ _ h3, h4⟩
  · obtain ⟨b, hb, h1, h2⟩ := h.map i l hi
    exact ⟨b, hb, h1, h2.lasts (T' := E.T) (hk.2 b (h.lt hi hb)) hL⟩
/-- What is told by a constant is told the same while memory only grows. -/
theorem const_run (hti : TiOK P ti) {E : Env} {r : Rs} {w' : World} (hG : Good G E r w) {ρ : Operand → AV} {α : Operand → Value} (hev : ∀ x, RA E r w (ρ x) (α x)) {o : Oper} {u z : Value} (e : evP ti ρ r o.op = some (.d (.c u))) (hz : (execOp α o).run P w = .ok (.value z) w) (hk : Keeps w w') : (execOp α o).run P w' = .ok (.value z) w' := by
  obtain ⟨hG', hL, hS⟩ := hG.keeps hk
  obtain ⟨z1, h1, h2⟩ := evP_sound (P := P) hti hG hev e
  obtain ⟨z2, h3, h4⟩ := evP_sound (P := P) hti hG' (fun x => RA.lasts hL (Names.refl E r) hS _ _ (hev x)) e
  simp only [RA, RD] at h2 h4
  rw [hz] at h1
  have : z = z1 := by simpa using h1
  rw [h3, h4.1, this, h2.1]
theorem st_run (hti : TiOK P ti) {E : Env} {r : Rs} {w' : World} (hG : Good G E r w) {ρ : Operand → AV} {α : Operand → Value} (hev : ∀ x, RA E r w (ρ x) (α x)) {o : Oper} {v : AV} {z : Value} (hst : stOp ti o.op = true) (hpu : ¬ pureOp ti o.op = true) (e : evP ti ρ r o.op = some v) (hz : (execOp α o).run P w = .ok (.value z) w) (hk : Keeps w w') :
    (execOp α o).run P w' = .ok (.value z) w' := by
  have key : (∃ u, v = .d (.c u)) → (execOp α o).run P w' = .ok (.value z) w' := by
    rintro ⟨u, rfl⟩
    exact const_run hti hG hev e hz hk
  cases ho : o.op <;> rw [ho] at hst hpu e <;> first | exact absurd hst hpu | skip
  case load t x =>
    simp only [evP] at e
    obtain ⟨z1, h1, h2⟩ := evLoad_sound (P := P) hti hG (hev x) e
    have := h1 w (Keeps.refl w)
    simp only [execOp, ho] at hz ⊢
    simp [this] at hz
    subst hz
    simp [h1 w' hk]
  case convert s d x =>
    refine key ?_
    simp only [evP] at e
    unfold evConv at e
    split at e
    · split at e
      · injection e with e; exact ⟨_, e.symm⟩
      · injection e with e; exact ⟨_, e.symm⟩
      · split at e
        · split at e
          · simp only [Option.map_eq_some_iff] at e
            obtain ⟨l, _, e⟩ := e
            exact ⟨_, e.symm⟩
          · cases e
        · cases e
      · cases e
    · cases e
  case binOp op t x y ty =>
    refine key ?_
    simp only [evP] at e
    have hnil : ∀ q a b, evNil ti r t q a b = some v → ∃ u, v = .d (.c u) := by
      intro q a b h
      unfold evNil at h
      split at h
      · split at h
        · injection h with h; exact ⟨_, h.symm⟩
        · cases h
      · cases h
    have hnop : ∀ a b, evNilOp ti r op t a b = some v → ∃ u, v = .d (.c u) := by
      intro a b h
      have both : ∀ q, (evNil ti r t q a b).or (evEqA ti t q a b) = some v → ∃ u, v = .d (.c u) := by
        intro q h
        rw [Option.or_eq_some_iff] at h
        rcases h with h | ⟨_, h⟩
        · exact hnil _ _ _ h
        · exact evEqA_form h
      cases op <;> simp only [evNilOp] at h <;> first | exact both _ h | cases h
    unfold evBin at e
    split at e
    · split at e
      · obtain ⟨_, e⟩ := chk_some e
        injection e with e; exact ⟨_, e.symm⟩
      · exact hnop _ _ e
    · exact hnop _ _ e
  case call c =>
    simp only [stOp] at hst
    split at hst
    · rename_i hc
      refine key ?_
      simp only [evP, evCall, hc] at e
      split at e
      · simp only [Option.map_eq_some_iff] at e
        obtain ⟨n, _, e⟩ := e
        exact ⟨_, e.symm⟩
      · cases e
    · cases hst
theorem ED_sound (hti : TiOK P ti) (pl : Plan ti N ops π kp L) (hok : planOK ti N ops π kp = true) : ∀ (l : List Oper) (k : Nat) (σ : St), k ≤ π.length → l = opl ops (π.drop k) → EV P ti G N ops l (.draw π kp K) σ → DWp P ti G N ops π k K σ
  | [], k, σ, hk, hl, h => DWp_end pl (opl_nil pl hl) h
  | o :: rest, k, σ, hk, hl, h => by
    obtain ⟨i0, hd, ho, hrest, hk1⟩ := opl_cons pl hl
    have hmem : o ∈ ops.toList := by simpa using Array.mem_of_getElem? ho
    have hdst := pl.dst o hmem
    have h0 := h
    unfold EV evk at h
    obtain ⟨t, ht, h1, h2⟩ := bindP_elim h
    by_cases hst : t = true ∧ stp ti o.op = true
    · have := h1 hst.1
      rw [if_pos hst.2] at this
      have hlen : π.length - (o :: rest).length = k := by
        have e1 : (o :: rest).length = π.length - k := by
          rw [hl, opl]
          have : ∀ l : List Nat, (∀ i ∈ l, (ops[i]?).isSome = true) → (l.filterMap fun i => ops[i]?).length = l.length := by
            intro l
            induction l with
            | nil => intro _; rfl
            | cons i l ih =>
              intro hh
              obtain ⟨v, hv⟩ := Option.isSome_iff_exists.1 (hh i (by simp))
              rw [List.filterMap_cons, hv]
              simp [ih (fun j hj => hh j (by simp [hj]))]
          rw [this _ (fun i hi => by rw [Array.getElem?_eq_getElem (pl.lt (List.mem_of_mem_drop hi))]; rfl)]
          simp
        omega
      have h3 : HO P ti G N ops (o :: rest) (.draw π kp K) σ := this
      unfold HO at h3
      simp only at h3
      rw [hlen] at h3
      exact h3 hok hl
    · by_cases he : isEff ti o = true
      · refine DWp_step pl hd ho hk1 he fun E0 r0 w0 E b w hR hS a C heq hwq hC => ?_
        have hgd := gd_sound hR ht
        rw [hwq] at hgd
        cases t with
        | true =>
          rw [if_pos hgd]
          have h1 := h1 rfl
          rw [if_neg (fun hs => hst ⟨rfl, hs⟩)] at h1
          obtain ⟨⟨v, r'⟩, hq, h3⟩ := bindP_elim h1
          obtain ⟨x, w', E', hrun, hra, hgood, hstp⟩ := evA_sound (P := P) hti hR.good (fun y => ev_sound hR y) hq
          have hrel := hR.putO hstp hgood hdst hra
          rw [putR_eq] at hrel
          have hkeep : isKeep kp i0 o = true → Keeps w w' := fun hkp => by
            have hko : keepOp o.op = true := by
              unfold isKeep at hkp
              simp only [Bool.or_eq_true, Bool.and_eq_true] at hkp
              exact hkp.resolve_right fun h => hst ⟨rfl, by simp [stp, h.1]⟩
            exact keep_run hti hko hq hrun
          have fin := hC x w' E' _ hrel (hS.trans hstp) hkeep (ED_sound hti pl hok rest (k + 1) _ hk1 hrest h3)
          rw [heq] at hrun
          unfold Oper.wp
          rcases hrun with hrun | ⟨hrun, rfl⟩
          · rw [hrun, Oper.upon_value]; exact fin
          · rw [hrun, Oper.upon_skip]; exact fin
        | false =>
          rw [if_neg (by rw [hgd]; simp)]
          have hrel := hR.putO (r' := σ.r) (Step.refl _ _ _) hR.good hdst (v := undA) (x := undef) (by simp [RA, RAL, undef])
          rw [putR_eq] at hrel
          exact hC undef w E _ hrel hS (fun _ => Keeps.refl w) (ED_sound hti pl hok rest (k + 1) _ hk1 hrest (h2 rfl))
      · have he' : isEff ti o = false := by simpa using he
        have hro : roOp ti o.op = true ∧ stp ti o.op = false := by
          unfold isEff at he'
          simp only [Bool.or_eq_false_iff, Bool.not_eq_false'] at he'
          refine ⟨he'.1, ?_⟩
          have : isApp o.op = false := by
            have h1 := he'.1
            unfold isApp
            split
            · rename_i c hc
              split
              · rename_i hcc
                rw [hc] at h1
                simp [roOp, hcc] at h1
              · rfl
            · rfl
          simp [stp, he'.2, this]
        cases t with
        | true =>
          have h1 := h1 rfl
          rw [hro.2] at h1
          simp only [Bool.false_eq_true, if_false] at h1
          obtain ⟨⟨v, r'⟩, hq, h3⟩ := bindP_elim h1
          obtain ⟨hq', rfl⟩ := evA_ro hro.1 hq
          refine DWp_read pl hd ho hk1 he' (σ' := σ.putR o.dst v σ.r) rfl (fun E a w hR => ?_) (ED_sound hti pl hok rest (k + 1) _ hk1 hrest h3)
          have hgd := gd_sound hR ht
          obtain ⟨z, hz, hza⟩ := evP_sound (P := P) hti hR.good (fun y => ev_sound hR y) hq'
          have hrel := hR.putO (Step.refl _ _ _) hR.good hdst hza
          rw [putR_eq] at hrel
          by_cases hpu : pureOp ti o.op = true
          · obtain ⟨z2, hz2, hra2⟩ := pure_free (P := P) hti hR.good (fun y => ev_sound hR y) hpu hq'
            have : z = z2 := by have := hz2 w; rw [hz] at this; simpa using this
            subst this
            exact ⟨z, fun w' _ => .inl ⟨hgd, hz2 w'⟩, hrel⟩
          · refine ⟨z, fun w' hw' => ?_, hrel⟩
            rcases hw' with h | ⟨h, hkp⟩ | rfl
            · exact absurd h hpu
            · exact .inl ⟨hgd, st_run hti hR.good (fun y => ev_sound hR y) h hpu hq' hz hkp⟩
            · exact .inl ⟨hgd, hz⟩
        | false =>
          refine DWp_read pl hd ho hk1 he' (σ' := σ.putR o.dst undA σ.r) rfl (fun E a w hR => ?_) (ED_sound hti pl hok rest (k + 1) _ hk1 hrest (h2 rfl))
          have hgd := gd_sound hR ht
          have hrel := hR.putO (r' := σ.r) (Step.refl _ _ _) hR.good hdst (v := undA) (x := undef) (by simp [RA, RAL, undef])
          rw [putR_eq] at hrel
          exact ⟨undef, fun w' _ => .inr ⟨hgd, rfl⟩, hrel⟩
/-- A drawn region, in the text's order. -/
theorem HC_plan (kp : List Nat) (hti : TiOK P ti) (hm : P.follows .mixedOrders = true) {id : Nat} {l : List Oper} (hok : planOK ti N l.toArray (List.range l.length) kp = true) (h : EV P ti G N l.toArray l (.draw (List.range l.length) kp K) σ) : HC P ti G N (.region id l.toArray true) K σ := by
  intro E0 r0 w0 E a w hR hS
  refine wp_region_any hm ?_
  have hrel : Rel G N E σ a w.drew := ⟨hR.size, fun i => (hR.slot i).step (step_drew E σ.r w), good_drew hR.good, hR.defers⟩
  obtain ⟨L, pl⟩ := plan_of hok
  have hl : l = opl l.toArray ((List.range l.length).drop 0) := by
    rw [List.drop_zero, opl]
    apply List.ext_getElem?
    intro i
    have : (List.range l.length).filterMap (fun i => l.toArray[i]?) = l := by
      have : ∀ l : List Oper, (List.range l.length).filterMap (fun i => l[i]?) = l := by
        intro l
        induction l with
        | nil => rfl
        | cons a l ih => rw [List.length_cons, List.range_succ_eq_map, List.filterMap_cons]; simp [List.filterMap_map, Function.comp_def, ih]
      simpa using this l
    rw [this]
  have := ED_sound (K := K) hti pl hok l 0 σ (Nat.zero_le _) hl h E0 r0 w0 E a w.drew [] ⟨fun e he => (by simp at he), by simp, fun i hi => by simp at hi, fun e he => (by simp at he), trivial⟩ hrel (hS.trans (step_drew E σ.r w))
  have e1 : lstU l.toArray (([] : List Ent).map (·.1) ++ (List.range l.length).drop 0) = Array.replicate l.toArray.size false := by
    apply Array.ext
    · simp [lstU]
    · intro i h1 h2
      have : i < l.length := by simpa [lstU] using h1
      simp [lstU, this]
  rw [e1] at this
  simp only [List.length_nil, List.length_range, Nat.zero_add, Nat.sub_zero] at this
  refine wpAny_mono' (fun e a w h => ?_) _ _ _ _ this
  cases e <;> first | exact h | exact h.elim
/-- .. in another order. -/
theorem HC_order (kp : List Nat) (hti : TiOK P ti) (hm : P.follows .mixedOrders = true) {id : Nat} {l : List Oper} (π : List Nat) (hok : planOK ti N l.toArray π kp = true) (hlen : π.length = l.length) (l' : List Oper) (hl : l' = opl l.toArray π) (h : EV P ti G N l.toArray l' (.draw π kp K) σ) : HC P ti G N (.region id l.toArray true) K σ := by
  intro E0 r0 w0 E a w hR hS
  refine wp_region_any hm ?_
  have hrel : Rel G N E σ a w.drew := ⟨hR.size, fun i => (hR.slot i).step (step_drew E σ.r w), good_drew hR.good, hR.defers⟩
  obtain ⟨L, pl⟩ := plan_of hok
  have := ED_sound (K := K) hti pl hok l' 0 σ (Nat.zero_le _) (by rw [List.drop_zero]; exact hl) h E0 r0 w0 E a w.drew [] ⟨fun e he => (by simp at he), by simp, fun i hi => by simp at hi, fun e he => (by simp at he), trivial⟩ hrel (hS.trans (step_drew E σ.r w))
  have e1 : lstU l.toArray (([] : List Ent).map (·.1) ++ π.drop 0) = Array.replicate l.toArray.size false := by
    apply Array.ext
    · simp [lstU]
    · intro i h1 h2
      have hi : i < l.length := by simpa [lstU] using h1
      have := pl.all i (by simpa using hi)
      simp [lstU, this]
  rw [e1] at this
  have e2 : l.toArray.size = π.length := by simp [hlen]
  simp only [List.length_nil, Nat.zero_add, Nat.sub_zero] at this
  rw [← e2] at this
  refine wpAny_mono' (fun e a w h => ?_) _ _ _ _ this
  cases e <;> first | exact h | exact h.elim
/-! ### Calls, in regions of either kind -/
theorem HO_call (hti : TiOK P ti) {o : Oper} {rest : List Oper} {M : KM} {f : FuncId} {as args : List AV} {r : Rs} {O : AV → Rs → Prop} {c : Call} (ts : List Nat) (h : AC P G f args r O) (ho : o.op = .call c)
    (hg : gd ops σ o = some true) (hc : calleeOf (σ.ev G) c = some (f, as)) (hd : (o :: rest).all (dstOK N) = true) (hnd : ts.Nodup)
    (hs : (∀ t ∈ ts, t < σ.r.length) ∧ WkAs as (renL (nm ts σ.r.length) args) ∧ wfL r.length args = true ∧ HandOK (nm ts σ.r.length) σ.r r ts ∧ wfRs r.length r = true) (hkp : r = [] ∨ kpFree M (o :: rest).length = true)
    (hk : ∀ v r', O v r' → r.length ≤ r'.length → EV P ti G N ops rest M (σ.putR o.dst (ren (nm ts σ.r.length) v) (putAll (nm ts σ.r.length) σ.r ts r'))) : HO P ti G N ops (o :: rest) M σ := by
  cases M with
  | plain K => exact HO_callP hti ts h ho hg hc hd hnd hs hk
  | draw π kp K =>
    intro hok hl
    obtain ⟨L, pl⟩ := plan_of hok
    obtain ⟨i0, hd0, ho0, hrest, hk1⟩ := opl_cons pl hl
    simp only [List.all_cons, Bool.and_eq_true] at hd
    have he : isEff ti o = true := by
      unfold isEff
      have : stops o.op = true := by
        rw [ho]
        unfold calleeOf at hc
        split at hc
        · rename_i x hx; simp [stops, hx]
        · cases hc
      simp [this]
    refine DWp_step pl hd0 ho0 hk1 he fun E0 r0 w0 E b w hR hS a C heq hwq hC => ?_
    have hgd := gd_sound hR hg
    rw [hwq] at hgd
    rw [if_pos hgd]
    obtain ⟨vals, hrun, hral⟩ := callee_run (P := P) (fun x => ev_sound hR x) ho hc h.1
    unfold Oper.wp
    rw [← heq, hrun, Oper.upon_enter]
    obtain ⟨hw, hwf, hh, hwr⟩ := hs.2
    obtain ⟨hl2, hh⟩ := HandOK_at hh
    refine (call_core h hnd hs.1 hR.good (WkAs_sound hw hral) hwf hl2 (fun j x hj => hh j x _ hj (nm_lt (by have := (List.getElem?_eq_some_iff.1 hj).1; omega))) hwr).mono fun e w' hq => ?_
    obtain ⟨v, x, r', E', rfl, hO, hle, hra, hgood, hst, hkeep⟩ := hq
    have hrel := hR.putO hst hgood hd.1 hra
    rw [putR_eq] at hrel
    have hkk : isKeep kp i0 o = true → Keeps w w' := by
      intro hki
      rcases hkp with h | h
      · exact hkeep h
      · exfalso
        have hg0 : π.getD (π.length - (o :: rest).length) 0 = i0 := by
          have h1 : (π.drop (π.length - (o :: rest).length))[0]? = some i0 := by rw [hd0]; rfl
          rw [List.getElem?_drop, Nat.add_zero] at h1
          rw [List.getD_eq_getElem?_getD, h1]; rfl
        unfold kpFree at h
        simp only [hg0, Bool.not_eq_true'] at h
        unfold isKeep at hki
        rw [h, ho] at hki
        simp [keepOp] at hki
    exact hC x w' E' _ hrel (hS.trans hst) hkk (ED_sound hti pl hok rest _ _ hk1 hrest (hk v r' hO hle))
theorem HO_pure (hti : TiOK P ti) {o : Oper} {rest : List Oper} {M : KM} {f : FuncId} {as args : List AV} {v0 : AV} {c : Call} (h : AC P G f args [] (fun v r' => v = v0 ∧ r' = [])) (ho : o.op = .call c)
    (hg : gd ops σ o = some true) (hc : calleeOf (σ.ev G) c = some (f, as)) (hd : (o :: rest).all (dstOK N) = true) (ha : ∀ g, renL g args = args) (hv : ∀ g, ren g v0 = v0) (hwf : wfL 0 args = true) (hw : WkAs as args)
    (hk : EV P ti G N ops rest M (σ.putR o.dst v0 σ.r)) : HO P ti G N ops (o :: rest) M σ := by
  refine HO_call hti [] h ho hg hc hd (by simp) ⟨by simp, by rw [ha]; exact hw, hwf, by simp [HandOK], rfl⟩ (.inl rfl) ?_
  rintro v r' ⟨rfl, rfl⟩ _
  rw [hv, putAll_nil]
  exact hk
end
end Go.Proofs.YtdbicadncccpoaaDoor
/- The frame of these proofs, part ZD: operations whose outcome isn't reckoned by sight of the slots alone: cap. -/
set_option linter.unusedVariables false
set_option linter.unusedSimpArgs false
namespace Go.Proofs.YtdbicadncccpoaaDoor
open Go
section
variable {P : Program} {ti : Ti} {G : Nat → List D} {N : Nat} {ops : Array Oper} {M : KM} {σ : St}
theorem kp_keeps {π kp : List Nat} {K : KD} {n i0 : Nat} {o : Oper} {w w' : World} {tl : List Nat} (hd0 : π.drop (π.length - n) = i0 :: tl) (hko : keepOp o.op = false) (h : kpFree (.draw π kp K) n = true ∨ Keeps w w') : isKeep kp i0 o = true → Keeps w w' := by
  intro hki
  rcases h with h | h
  · exfalso
    have hg0 : π.getD (π.length - n) 0 = i0 := by
      have h1 : (π.drop (π.length - n))[0]? = some i0 := by rw [hd0]; rfl
      rw [List.getElem?_drop, Nat.add_zero] at h1
      rw [List.getD_eq_getElem?_getD, h1]; rfl
    unfold kpFree at h
    simp only [hg0, Bool.not_eq_true'] at h
    unfold isKeep at hki
    rw [h, hko] at hki
    simp at hki
  · exact h
/-- An operation that comes to a value in each world that fits; what is known of it comes with it. -/
theorem HO_sem (hti : TiOK P ti) {o : Oper} {rest : List Oper} {ι : Type} (v : ι → AV) (r' : ι → Rs) (p : ι → Prop) (hg : gd ops σ o = some true) (hd : (o :: rest).all (dstOK N) = true) (he : isEff ti o = true)
    (hs : ∀ E w a, Rel G N E σ a w → ∃ i x w' E', p i ∧ (execOp a.eval o).run P w = .ok (.value x) w' ∧ RA E' (r' i) w' (v i) x ∧ Good G E' (r' i) w' ∧ Step E σ.r w E' (r' i) w' ∧ (kpFree M (o :: rest).length = true ∨ Keeps w w')) (hko : keepOp o.op = false)
    (hk : ∀ i, p i → EV P ti G N ops rest M (σ.putR o.dst (v i) (r' i))) : HO P ti G N ops (o :: rest) M σ := by
  simp only [List.all_cons, Bool.and_eq_true] at hd
  cases M with
  | plain K =>
    intro E0 r0 w0 E a w hR hS
    unfold wpList
    rw [if_pos (gd_sound hR hg)]
    obtain ⟨i, x, w', E', hp, hrun, hra, hgood, hst, _⟩ := hs E w a hR
    have hrel := hR.putO hst hgood hd.1 hra
    rw [putR_eq] at hrel
    have fin := HO_of_EV hti hd.2 (hk i hp) E0 r0 w0 E' _ w' hrel (hS.trans hst)
    left
    unfold Oper.wp
    rw [hrun, Oper.upon_value]
    exact fin
  | draw π kp K =>
    intro hok hl
    obtain ⟨L, pl⟩ := plan_of hok
    obtain ⟨i0, hd0, ho0, hrest, hk1⟩ := opl_cons pl hl
    refine DWp_step pl hd0 ho0 hk1 he fun E0 r0 w0 E b w hR hS a C heq hwq hC => ?_
    have hgd := gd_sound hR hg
    rw [hwq] at hgd
    rw [if_pos hgd]
    obtain ⟨i, x, w', E', hp, hrun, hra, hgood, hst, hkp⟩ := hs E w b hR
    have hrel := hR.putO hst hgood hd.1 hra
    rw [putR_eq] at hrel
    unfold Oper.wp
    rw [← heq, hrun, Oper.upon_value]
    exact hC x w' E' _ hrel (hS.trans hst) (kp_keeps hd0 hko hkp) (ED_sound hti pl hok rest _ _ hk1 hrest (hk i hp))
theorem EV_stop {o : Oper} {rest : List Oper} (hg : o.guard = none) (hs : stops o.op = true) : EV P ti G N ops (o :: rest) M σ = HO P ti G N ops (o :: rest) M σ := by
  rw [EV_cons]
  unfold gd
  rw [hg]
  simp [bindP, stp, hs]
theorem EV_gstop {d : Option Tmp} {op : Op} {ty : TypeId} {ps : String} {af : Array Edge} {rest : List Oper} {j : Nat} {want : Bool} {b : Nat → AV} {sl : List (Nat × AV)} {r : Rs} (hs : stops op = true) : EV P ti G N ops (⟨d, op, ty, ps, af, some (j, want)⟩ :: rest) M ⟨b, sl, r⟩ = bindQ (fun q0 =>
    (q0 = want → HO P ti G N ops (⟨d, op, ty, ps, af, some (j, want)⟩ :: rest) M ⟨b, sl, r⟩) ∧ (q0 = (!want) → EV P ti G N ops rest M (St.putR ⟨b, sl, r⟩ d undA r))) (gdB ops ⟨b, sl, r⟩ j want) := by
  rw [EV_cons, gd_eq, bindP_map]
  show bindP _ _ = bindP _ _
  congr 1
  funext b
  simp only [stp, hs, Bool.true_or, if_true]
  cases b <;> cases want <;> simp
section
variable {d : Option Tmp} {ty : TypeId} {ps : String} {af : Array Edge} {rest : List Oper} {j : Nat} {want : Bool} {b : Nat → AV} {sl : List (Nat × AV)} {r : Rs} {as : Array Operand} {ts : Array TypeId}
theorem EV_cap : EV P ti G N ops (⟨d, .call ⟨.builtin .cap, as, ts⟩, ty, ps, af, none⟩ :: rest) M ⟨b, sl, r⟩ = HO P ti G N ops (⟨d, .call ⟨.builtin .cap, as, ts⟩, ty, ps, af, none⟩ :: rest) M ⟨b, sl, r⟩ := EV_stop rfl rfl
theorem EV_g_cap : EV P ti G N ops (⟨d, .call ⟨.builtin .cap, as, ts⟩, ty, ps, af, some (j, want)⟩ :: rest) M ⟨b, sl, r⟩ = bindQ (fun q0 =>
    (q0 = want → HO P ti G N ops (⟨d, .call ⟨.builtin .cap, as, ts⟩, ty, ps, af, some (j, want)⟩ :: rest) M ⟨b, sl, r⟩) ∧ (q0 = (!want) → EV P ti G N ops rest M (St.putR ⟨b, sl, r⟩ d undA r))) (gdB ops ⟨b, sl, r⟩ j want) := EV_gstop rfl
theorem EV_copy : EV P ti G N ops (⟨d, .call ⟨.builtin .copy, as, ts⟩, ty, ps, af, none⟩ :: rest) M ⟨b, sl, r⟩ = HO P ti G N ops (⟨d, .call ⟨.builtin .copy, as, ts⟩, ty, ps, af, none⟩ :: rest) M ⟨b, sl, r⟩ := EV_stop rfl rfl
theorem EV_g_copy : EV P ti G N ops (⟨d, .call ⟨.builtin .copy, as, ts⟩, ty, ps, af, some (j, want)⟩ :: rest) M ⟨b, sl, r⟩ = bindQ (fun q0 =>
    (q0 = want → HO P ti G N ops (⟨d, .call ⟨.builtin .copy, as, ts⟩, ty, ps, af, some (j, want)⟩ :: rest) M ⟨b, sl, r⟩) ∧ (q0 = (!want) → EV P ti G N ops rest M (St.putR ⟨b, sl, r⟩ d undA r))) (gdB ops ⟨b, sl, r⟩ j want) := EV_gstop rfl
def slK : TK → Bool
  | .sl _ => true
  | _ => false
theorem slK_sl {q : TK} (h : slK q = true) : ∃ e, q = .sl e := by
  cases q <;> first | exact ⟨_, rfl⟩ | cases h
/-- The capacity of a slice whose spare places are known is at least that much. -/
theorem HO_cap (hti : TiOK P ti) {x : Operand} {t : TypeId} {g : Option (Nat × Bool)} {sz n : Nat} {xs zs : List D} (hg : gd ops σ ⟨d, .call ⟨.builtin .cap, #[x], #[t]⟩, ty, ps, af, g⟩ = some true)
    (hx : σ.ev G x = .sl (.sp zs) sz n xs) (ht : slK (tK ti t) = true) (hd : ((⟨d, .call ⟨.builtin .cap, #[x], #[t]⟩, ty, ps, af, g⟩ : Oper) :: rest).all (dstOK N) = true)
    (hk : ∀ c : Nat, n * sz + zs.length ≤ c * sz → EV P ti G N ops rest M (σ.putR d (.d (.c (.int .i64 c))) σ.r)) : HO P ti G N ops (⟨d, .call ⟨.builtin .cap, #[x], #[t]⟩, ty, ps, af, g⟩ :: rest) M σ := by
  refine HO_sem hti (fun c : Nat => .d (.c (.int .i64 c))) (fun _ => σ.r) (fun c => n * sz + zs.length ≤ c * sz) hg hd rfl (fun E w a hR => ?_) rfl hk
  obtain ⟨e, he⟩ : ∃ e, tK ti t = .sl e := slK_sl ht
  obtain ⟨s, bb, z, hte⟩ := tK_sl he
  have hut := ti_run hti hte w
  have h := ev_sound hR x
  rw [hx] at h
  simp only [RA] at h
  obtain ⟨hl, A, c, hv, hc, _, k, hk1, hk2, _⟩ := h
  refine ⟨c, .int .i64 c, w, E, ?_, ?_, by simp [RA, RD, Value.oneCell'], hR.good, Step.refl _ _ _, .inr (Keeps.refl w)⟩
  · rw [hk1, ← Nat.add_mul]; exact Nat.mul_le_mul_right _ hk2
  · simp [execOp, resolve, invoke, builtin, hv, Builtin.cap_, hut, goInt]
/-- An object's cells are written over, all at once. -/
theorem obj_put {G : Nat → List D} {E : Env} {r : Rs} {w : World} (hG : Good G E r w) {o off : Nat} {l cs : List AV} (ho : objOf r o = some l) {b : Nat} (hb : E.bl o = some b) {ys : List Value} (hc : RAL E r w cs ys)
    (h1 : ∀ u ∈ ys, u.oneCell' = true) (hfit : off + cs.length ≤ l.length) :
    ∃ w' E', (storeCells ⟨b, off, none⟩ ys).run P w = .ok () w' ∧ Good G E' (r.set o (some (.obj (l.take off ++ cs ++ l.drop (off + cs.length))))) w' ∧ Step E r w E' (r.set o (some (.obj (l.take off ++ cs ++ l.drop (off + cs.length))))) w' := by
  obtain ⟨b', vs, el, hb', hh, hral, hone, hcell⟩ := obj_cell hG ho
  rw [hb] at hb'; injection hb' with hb'; subst hb'
  have hT : E.T b = 0 := by
    obtain ⟨b', hb2, hT, _⟩ := hG.obj o l (objOf_some ho)
    rw [hb] at hb2; injection hb2 with hb2; subst hb2; exact hT
  have hl := RAL_length l _ hral
  have hcl := RAL_length cs _ hc
  have hst := run_storeCells_at P b off el ys 0 vs w hh (by simp only [Array.length_toList] at hl; omega) h1
  simp only [Nat.add_zero] at hst
  have hlen : (l.take off ++ cs ++ l.drop (off + cs.length)).length = l.length := by
    simp only [List.length_append, List.length_take, List.length_drop]; omega
  have hsz2 : (vs.toList.take off ++ ys ++ vs.toList.drop (off + ys.length)).toArray.size = vs.size := by
    simp only [List.size_toArray, List.length_append, List.length_take, List.length_drop, Array.length_toList]
    simp only [Array.length_toList] at hl hcl
    omega
  have hs := step_setRow hG (x' := .obj (l.take off ++ cs ++ l.drop (off + cs.length))) (t' := 0) (objOf_some ho) hb hh hsz2 (by omega) (by intro j hj; omega) (.inr ⟨_, _, rfl, rfl, hlen.symm⟩)
  refine ⟨_, ⟨updN E.T b 0, E.bl⟩, hst, ?_, hs⟩
  refine good_setRow hG (objOf_some ho) hb hh hsz2 (by omega) (by intro j hj; omega) (.inr ⟨_, _, rfl, rfl, hlen.symm, rfl, ?_, ?_⟩)
  · intro u hu
    simp only [List.mem_append] at hu
    rcases hu with (hu | hu) | hu
    · exact hone u (List.mem_of_mem_take hu)
    · exact h1 u hu
    · exact hone u (List.mem_of_mem_drop hu)
  · show RAL _ _ _ _ (_ ++ _ ++ _)
    rw [← hcl] at hs ⊢
    exact RAL_append _ _ _ _ (RAL_append _ _ _ _ (RAL_take _ _ (hral.step hs) _) (hc.step hs)) (RAL_drop _ _ (hral.step hs) _)
/-- A copy from an object's cells into an object's cells (they may be one object). -/
theorem HO_copyO (hti : TiOK P ti) {x y : Operand} {t u e : TypeId} {g : Option (Nat × Bool)} {o off n o2 off2 n2 k : Nat} {l l2 : List AV} (hg : gd ops σ ⟨d, .call ⟨.builtin .copy, #[x, y], #[t, u]⟩, ty, ps, af, g⟩ = some true)
    (hx : σ.ev G x = .osl o off 1 n) (hy : σ.ev G y = .osl o2 off2 1 n2) (hl : objOf σ.r o = some l) (hl2 : objOf σ.r o2 = some l2) (ht : tK ti t = .sl e) (hte : tI ti e = true ∧ tS ti e = 1) (hn : 0 < n) (hn2 : 0 < n2) (hk2 : Nat.min n2 n = k)
    (hd : ((⟨d, .call ⟨.builtin .copy, #[x, y], #[t, u]⟩, ty, ps, af, g⟩ : Oper) :: rest).all (dstOK N) = true) (hkp : kpFree M (rest.length + 1) = true)
    (hk : EV P ti G N ops rest M (σ.putR d (.d (.c (.int .i64 k))) (σ.r.set o (some (.obj (l.take off ++ (l2.drop off2).take k ++ l.drop (off + k))))))) : HO P ti G N ops (⟨d, .call ⟨.builtin .copy, #[x, y], #[t, u]⟩, ty, ps, af, g⟩ :: rest) M σ := by
  refine HO_sem hti (fun _ : Unit => .d (.c (.int .i64 k))) (fun _ => σ.r.set o (some (.obj (l.take off ++ (l2.drop off2).take k ++ l.drop (off + k))))) (fun _ => True) hg hd rfl (fun E w a hR => ?_) rfl fun _ _ => hk
  obtain ⟨s, bb, z, htt⟩ := tK_sl ht
  have hut := ti_run hti htt w
  obtain ⟨ie, hie, hisz⟩ : ∃ ie, ti e = some ie ∧ ie.size = 1 := by
    unfold tI tS at hte
    cases hq : ti e with
    | none => rw [hq] at hte; simp at hte
    | some ie => rw [hq] at hte; exact ⟨ie, rfl, hte.2⟩
  have hsz := ti_size hti hie w
  rw [hisz] at hsz
  have h1 := ev_sound hR x
  have h2 := ev_sound hR y
  rw [hx] at h1
  rw [hy] at h2
  simp only [RA] at h1 h2
  obtain ⟨_, A, c, hv, _, h1⟩ := h1
  obtain ⟨_, A2, c2, hv2, _, h2⟩ := h2
  obtain ⟨hf1, h1⟩ := h1 l (objOf_some hl)
  obtain ⟨hf2, h2⟩ := h2 l2 (objOf_some hl2)
  obtain ⟨b, hb, rfl⟩ := h1 hn
  obtain ⟨b2, hb2, rfl⟩ := h2 hn2
  obtain ⟨b2', vs, el, hb2', hh, hral, hone, hcell⟩ := obj_cell hR.good hl2
  rw [hb2] at hb2'; injection hb2' with hb2'; subst hb2'
  have hvl := RAL_length l2 _ hral
  have hkn : k ≤ n ∧ k ≤ n2 := by rw [← hk2]; exact ⟨Nat.min_le_right _ _, Nat.min_le_left _ _⟩
  have hys : ((vs.toList.drop off2).take k).length = k := by rw [List.length_take, List.length_drop]; omega
  have hcs : ((l2.drop off2).take k).length = k := by rw [List.length_take, List.length_drop]; omega
  obtain ⟨w', E', hrun, hgood, hst⟩ := obj_put (P := P) hR.good (off := off) hl hb (RAL_take _ _ (RAL_drop _ _ hral off2) k) (fun u hu => hone u (List.mem_of_mem_drop (List.mem_of_mem_take hu))) (by rw [hcs]; omega)
  rw [hcs] at hgood hst
  have hload : (loadCells ⟨b2, off2, none⟩ k).run P w = .ok ((vs.toList.drop off2).take k).toArray w := by
    have := run_loadCells_list (P := P) (w := w) ⟨b2, off2, none⟩ ((vs.toList.drop off2).take k) (fun j v hj => by
      rw [List.getElem?_take] at hj
      split at hj
      · rw [List.getElem?_drop] at hj
        have ha : Addr.add ⟨b2, off2, none⟩ j = ⟨b2, off2 + j, none⟩ := by simp [Addr.add]
        rw [ha, hcell, ← hj, Array.getElem?_toList]
      · cases hj)
    rw [hys] at this
    exact this
  refine ⟨(), .int .i64 k, w', E', trivial, ?_, by simp [RA, RD, Value.oneCell'], hgood, hst, .inl hkp⟩
  simp [execOp, resolve, invoke, builtin, hv, hv2, Builtin.copy_, hut, Builtin.lenOf, Builtin.firstCells, hsz, hk2, hload, hrun, goInt]
end
theorem opl_nil' : opl ops [] = [] := rfl
def oplC : Option Oper → List Oper → List Oper
  | some o, l => o :: l
  | none, l => l
theorem oplC_some {o : Oper} {l : List Oper} : oplC (some o) l = o :: l := rfl
theorem opl_cons' {i : Nat} {π : List Nat} : opl ops (i :: π) = oplC ops[i]? (opl ops π) := by
  unfold opl
  rw [List.filterMap_cons]
  cases ops[i]? <;> rfl
end
end Go.Proofs.YtdbicadncccpoaaDoor
/- The frame of these proofs, part ZE: new names for old (rows of a loop's rounds, of a result), and new names for nil. -/
set_option linter.unusedVariables false
set_option linter.unusedSimpArgs false
namespace Go.Proofs.YtdbicadncccpoaaDoor
open Go

/-! ### Names that are new, for nil or a full slice -/
def tks (F : List Nat) : Rs := F.map fun k => some (.tok k)
theorem tks_get {F : List Nat} {j : Nat} {x : Res} (h : (tks F)[j]? = some (some x)) : ∃ k, F[j]? = some k ∧ x = .tok k := by
  unfold tks at h
  rw [List.getElem?_map] at h
  cases hj : F[j]? with
  | none => rw [hj] at h; cases h
  | some k => rw [hj] at h; injection h with h; injection h with h; exact ⟨k, rfl, h.symm⟩
def envT (E : Env) (n : Nat) : Env := ⟨E.T, fun i => if i < n then E.bl i else none⟩
theorem envT_lt {E : Env} {n i : Nat} (h : i < n) : (envT E n).bl i = E.bl i := by simp [envT, h]
theorem step_tks {G : Nat → List D} {E : Env} {r : Rs} {w : World} (hG : Good G E r w) (F : List Nat) : Step E r w (envT E r.length) (r ++ tks F) w := by
  have hlt : ∀ {i : Nat} {x : Res} {b : Nat}, (r ++ tks F)[i]? = some (some x) → (envT E r.length).bl i = some b → i < r.length := by
    intro i x b _ hb
    by_cases hi : i < r.length
    · exact hi
    · simp [envT, hi] at hb
  refine ⟨rfl, rfl, rfl, Nat.le_refl _, fun b _ _ => ⟨rfl, rfl⟩, fun b ⟨i, x, hi, hb⟩ => ?_, Lasts.refl _ _, ShapeLasts.refl _, ⟨by simp, fun i k hi h => ?_, fun i l hi h => ?_, fun i l hi h => ?_⟩⟩
  · have h1 := hlt hi hb
    rw [List.getElem?_append_left h1] at hi
    rw [envT_lt h1] at hb
    exact .inl ⟨i, x, hi, hb⟩
  all_goals
    rw [List.getElem?_append_left hi] at h
  · exact ⟨k, h, Nat.le_refl _, fun _ => envT_lt hi⟩
  · exact ⟨l, h, rfl, envT_lt hi⟩
  · exact ⟨l, h, envT_lt hi⟩
theorem good_tks {G : Nat → List D} {E : Env} {r : Rs} {w : World} (hG : Good G E r w) (F : List Nat) : Good G (envT E r.length) (r ++ tks F) w := by
  have hs := step_tks hG F
  have hlt : ∀ {i : Nat} {x : Res}, (r ++ tks F)[i]? = some (some x) → (i < r.length ∧ r[i]? = some (some x)) ∨ ((envT E r.length).bl i = none ∧ ∃ k, x = .tok k) := by
    intro i x hi
    by_cases h1 : i < r.length
    · rw [List.getElem?_append_left h1] at hi; exact .inl ⟨h1, hi⟩
    · rw [List.getElem?_append_right (by omega)] at hi
      obtain ⟨k, _, hk⟩ := tks_get hi
      exact .inr ⟨by simp [envT, h1], k, hk⟩
  refine ⟨fun i k b hi hb => ?_, fun i l hi => ?_, fun i l hi => ?_, fun i j x y b hi hj hbi hbj => ?_, hG.fresh, hG.glob⟩
  · rcases hlt hi with ⟨h1, h2⟩ | ⟨h1, _⟩
    · rw [envT_lt h1] at hb; exact hG.tok i k b h2 hb
    · rw [h1] at hb; cases hb
  · rcases hlt hi with ⟨h1, h2⟩ | ⟨_, k, h2⟩
    · obtain ⟨b, hb, k1, vs, e, k2, k3, k4⟩ := hG.obj i l h2
      exact ⟨b, (envT_lt h1).trans hb, k1, vs, e, k2, k3.step hs, k4⟩
    · cases h2
  · rcases hlt hi with ⟨h1, h2⟩ | ⟨_, k, h2⟩
    · obtain ⟨b, hb, k1, k2⟩ := hG.map i l h2
      exact ⟨b, (envT_lt h1).trans hb, k1, k2⟩
    · cases h2
  · rcases hlt hi with ⟨h1, h2⟩ | ⟨h1, _⟩
    · rcases hlt hj with ⟨h3, h4⟩ | ⟨h3, _⟩
      · rw [envT_lt h1] at hbi; rw [envT_lt h3] at hbj
        exact hG.one i j x y b h2 h4 hbi hbj
      · rw [h3] at hbj; cases hbj
    · rw [h1] at hbi; cases hbi
/-- 'b' says no more than 'a', where the names from 'n' on are new ones of these lengths. -/
def WkF (n : Nat) (F : List Nat) (a b : AV) : Prop := WeakA a b ∨ ∃ o sz m xs, b = .sl (.own o) sz m xs ∧ n ≤ o ∧ F[o - n]? = some xs.length ∧ WeakA a (.sl .full sz m xs)
theorem WkF.sound {G : Nat → List D} {E : Env} {r : Rs} {w : World} (hG : Good G E r w) {F : List Nat} {a b : AV} {x : Value} (h : WkF r.length F a b) (hr : RA E r w a x) : RA (envT E r.length) (r ++ tks F) w b x := by
  rcases h with h | ⟨o, sz, m, xs, rfl, ho, hF, h⟩
  · exact (h.sound hr).step (step_tks hG F)
  · have h1 := h.sound hr
    simp only [RA] at h1 ⊢
    obtain ⟨hl, A, c, rfl, hc, hm, hf⟩ := h1
    have hlen : o - r.length < F.length := (List.getElem?_eq_some_iff.1 hF).1
    refine ⟨hl, A, c, rfl, hc, hm, by simp [tks]; omega, fun k hk => ?_⟩
    rw [List.getElem?_append_right (by omega)] at hk
    obtain ⟨k', hk', he⟩ := tks_get hk
    rw [hF] at hk'
    injection he with he
    injection hk' with hk'
    refine ⟨by omega, fun _ => ?_⟩
    have : (envT E r.length).bl o = none := by simp [envT]; omega
    rw [this]
    exact hf
theorem WkF.refl {n : Nat} {F : List Nat} (a : AV) : WkF n F a a := .inl (.refl a)
theorem WkF.top {n : Nat} {F : List Nat} (a : AV) : WkF n F a .top := .inl (.top a)
theorem WkF.nil {n : Nat} {F : List Nat} {sz o : Nat} (h : Nat.ble n o = true) (hF : F[o - n]? = some 0) : WkF n F (.d (.c (.slice none 0 0))) (.sl (.own o) sz 0 []) := .inr ⟨o, sz, 0, [], rfl, Nat.le_of_ble_eq_true h, hF, .nilFull sz⟩
theorem WkF.full {n : Nat} {F : List Nat} {sz o m : Nat} {xs : List D} (h : Nat.ble n o = true) (hF : F[o - n]? = some xs.length) : WkF n F (.sl .full sz m xs) (.sl (.own o) sz m xs) := .inr ⟨o, sz, m, xs, rfl, Nat.le_of_ble_eq_true h, hF, .refl _⟩
def WkFs (n : Nat) (F : List Nat) : List AV → List AV → Prop
  | [], [] => True
  | a :: l, b :: m => WkF n F a b ∧ WkFs n F l m
  | _, _ => False
theorem WkFs.refl {n : Nat} {F : List Nat} : ∀ l : List AV, WkFs n F l l
  | [] => trivial
  | a :: l => ⟨.refl a, WkFs.refl l⟩
theorem WkFs.len {n : Nat} {F : List Nat} : ∀ {l m : List AV}, WkFs n F l m → l.length = m.length
  | [], [], _ => rfl
  | a :: l, b :: m, h => by simp [WkFs.len h.2]
  | [], _ :: _, h => h.elim
  | _ :: _, [], h => h.elim
theorem WkFs.sound {G : Nat → List D} {E : Env} {r : Rs} {w : World} (hG : Good G E r w) {F : List Nat} : ∀ {l m : List AV} {vs : List Value}, WkFs r.length F l m → RAL E r w l vs → RAL (envT E r.length) (r ++ tks F) w m vs
  | [], [], vs, _, h => by simpa [RAL] using h
  | a :: l, b :: m, vs, hk, h => by
    simp only [RAL] at h ⊢
    obtain ⟨v, rest, rfl, h1, h2⟩ := h
    exact ⟨v, rest, rfl, hk.1.sound hG h1, WkFs.sound hG hk.2 h2⟩
  | [], _ :: _, _, h, _ => h.elim
  | _ :: _, [], _, h, _ => h.elim

theorem renL_map_d (g : Nat → Nat) : ∀ l : List D, renL g (l.map AV.d) = l.map AV.d
  | [] => rfl
  | a :: l => by rw [List.map_cons, renL, renL_map_d g l, ren]
theorem renL_append (g : Nat → Nat) : ∀ l m : List AV, renL g (l ++ m) = renL g l ++ renL g m
  | [], m => rfl
  | a :: l, m => by rw [List.cons_append, renL, renL_append g l m, renL]; rfl
theorem WkFs.data {n : Nat} {F : List Nat} {g : Nat → Nat} (l : List D) : WkFs n F (l.map AV.d) (renL g (l.map AV.d)) := by
  rw [renL_map_d]; exact .refl _
theorem WkFs.app {n : Nat} {F : List Nat} {g : Nat → Nat} : ∀ {l1 m1 l2 m2 : List AV}, WkFs n F l1 (renL g m1) → WkFs n F l2 (renL g m2) → WkFs n F (l1 ++ l2) (renL g (m1 ++ m2)) := by
  intro l1 m1 l2 m2 h1 h2
  rw [renL_append]
  generalize renL g m1 = a at *
  generalize renL g m2 = b at *
  induction l1 generalizing a with
  | nil => cases a with
    | nil => exact h2
    | cons _ _ => exact h1.elim
  | cons x l ih => cases a with
    | nil => exact h1.elim
    | cons y a => exact ⟨h1.1, ih a h1.2⟩
theorem wfL_map_d (n : Nat) : ∀ l : List D, wfL n (l.map AV.d) = true
  | [] => rfl
  | a :: l => by rw [List.map_cons, wfL, wfL_map_d n l]; rfl
theorem wfL_append (n : Nat) : ∀ l m : List AV, wfL n (l ++ m) = (wfL n l && wfL n m)
  | [], m => by simp [wfL]
  | a :: l, m => by simp [wfL, wfL_append n l m, Bool.and_assoc]

/-! ### Other names for the same -/
def hn (L : List Nat) (k : Nat) : Nat := L.getD k k
structure AliasC (g : Nat → Nat) (E1 : Env) (r1 : Rs) (E2 : Env) (r2 : Rs) : Prop where
  T : E1.T = E2.T
  bl : ∀ i, i < r1.length → E1.bl i = E2.bl (g i)
  tok : ∀ i k, r1[i]? = some (some (.tok k)) → r2[g i]? = some (some (.tok k))
  obj : ∀ i l, r1[i]? = some (some (.obj l)) → ∃ l2, r2[g i]? = some (some (.obj l2)) ∧ l2.length = l.length
  map : ∀ i l, r1[i]? = some (some (.map l)) → ∃ l2, r2[g i]? = some (some (.map l2))
mutual
theorem RA_unrenC {g : Nat → Nat} {E1 E2 : Env} {r1 r2 : Rs} {w : World} (hA : AliasC g E1 r1 E2 r2) : ∀ (a : AV) (x : Value), wfA r1.length a = true → RA E2 r2 w (ren g a) x → RA E1 r1 w a x
  | .d y, x, _, h => by simp only [RA, ren] at h ⊢; rw [hA.T]; exact h
  | .sl m sz n xs, x, hf, h => by
    simp only [RA, ren] at h ⊢
    obtain ⟨hl, A, c, rfl, hc, hr, hm⟩ := h
    rw [← hA.T] at hr
    refine ⟨hl, A, c, rfl, hc, hr, ?_⟩
    cases m with
    | full => exact hm
    | sp ys => rw [show MoOK E1 r1 w sz n xs.length A c (.sp ys) = MoOK E2 r2 w sz n xs.length A c (.sp ys) by simp only [MoOK, hA.T]]; exact hm
    | own i =>
      have hi : i < r1.length := by simpa [wfA, wfM] using hf
      refine ⟨hi, fun k hk => ?_⟩
      have := hm.2 k (hA.tok i _ hk)
      rw [← hA.bl i hi] at this
      exact this
  | .ptr i off, x, hf, h => by
    simp only [RA, ren] at h ⊢
    have hi : i < r1.length := by simpa [wfA] using hf
    refine ⟨hi, fun l hl => ?_⟩
    rw [hA.bl i hi]
    obtain ⟨l2, h2, _⟩ := hA.obj i _ hl
    exact h.2 _ h2
  | .el xs, x, _, h => by simp only [RA, ren] at h ⊢; rw [hA.T]; exact h
  | .osl i off sz n, x, hf, h => by
    simp only [RA, ren] at h ⊢
    have hi : i < r1.length := by simpa [wfA] using hf
    obtain ⟨_, A, c, rfl, hc, h2⟩ := h
    refine ⟨hi, A, c, rfl, hc, fun l hl => ?_⟩
    obtain ⟨l2, hl2, hlen⟩ := hA.obj i _ hl
    have := h2 _ hl2
    rw [hlen] at this
    rw [hA.bl i hi]
    exact this
  | .tup l, x, hf, h => by
    simp only [RA, ren] at h ⊢; obtain ⟨vs, rfl, hr⟩ := h
    exact ⟨vs, rfl, RAL_unrenC hA l _ (by simpa [wfA] using hf) hr⟩
  | .agg l, x, hf, h => by
    simp only [RA, ren] at h ⊢; obtain ⟨vs, rfl, hr, h1⟩ := h
    exact ⟨vs, rfl, RAL_unrenC hA l _ (by simpa [wfA] using hf) hr, h1⟩
  | .fn f a b, x, hf, h => by
    simp only [RA, ren] at h ⊢
    obtain ⟨vs, us, rfl, h1, h2⟩ := h
    simp only [wfA, Bool.and_eq_true] at hf
    exact ⟨vs, us, rfl, RAL_unrenC hA a _ hf.1 h1, RAL_unrenC hA b _ hf.2 h2⟩
  | .mp i, x, hf, h => by
    simp only [RA, ren] at h ⊢
    have hi : i < r1.length := by simpa [wfA] using hf
    refine ⟨hi, fun l hl => ?_⟩
    rw [hA.bl i hi]
    obtain ⟨l2, h2⟩ := hA.map i _ hl
    exact h.2 _ h2
  | .top, _, _, _ => by simp [RA]
theorem RAL_unrenC {g : Nat → Nat} {E1 E2 : Env} {r1 r2 : Rs} {w : World} (hA : AliasC g E1 r1 E2 r2) : ∀ (l : List AV) (vs : List Value), wfL r1.length l = true → RAL E2 r2 w (renL g l) vs → RAL E1 r1 w l vs
  | [], _, _, h => by simpa [RAL, renL] using h
  | a :: l, vs, hf, h => by
    simp only [wfL, Bool.and_eq_true] at hf
    simp only [RAL, renL] at h ⊢
    obtain ⟨v, rest, rfl, h1, h2⟩ := h
    exact ⟨v, rest, rfl, RA_unrenC hA a v hf.1 h1, RAL_unrenC hA l rest hf.2 h2⟩
end

/-- Each thing that is named behind is named ahead, by its old name. -/
def hRes (n : Nat) (F : List Nat) (g : Nat → Nat) (y : Option (Option Res)) : Res → Prop
  | .tok k => y = some (some (.tok k))
  | .obj l => ∃ l0, y = some (some (.obj l0)) ∧ WkFs n F l0 (renL g l)
  | .map l => y = some (some (.map l))
def hfit (n : Nat) (F : List Nat) (g : Nat → Nat) (r : Rs) : Nat → Rs → Prop
  | _, [] => True
  | k, none :: re => hfit n F g r (k + 1) re
  | k, some x :: re => hRes n F g r[g k]? x ∧ hfit n F g r (k + 1) re
theorem hfit_at {n : Nat} {F : List Nat} {g : Nat → Nat} {r : Rs} : ∀ {re : Rs} {k i : Nat} {x : Res}, hfit n F g r k re → re[i]? = some (some x) → hRes n F g r[g (k + i)]? x
  | [], k, i, x, _, h => by simp at h
  | none :: re, k, 0, x, _, h => by simp at h
  | none :: re, k, i + 1, x, hf, h => by
    have := hfit_at (re := re) (k := k + 1) (i := i) hf (by simpa using h)
    rwa [Nat.add_right_comm] at this
  | some y :: re, k, 0, x, hf, h => by simp at h; subst h; exact hf.1
  | some y :: re, k, i + 1, x, hf, h => by
    have := hfit_at (re := re) (k := k + 1) (i := i) hf.2 (by simpa using h)
    rwa [Nat.add_right_comm] at this
def idxs : Nat → Rs → List Nat
  | _, [] => []
  | k, none :: r => idxs (k + 1) r
  | k, some _ :: r => k :: idxs (k + 1) r
theorem idxs_mem : ∀ {r : Rs} {k i : Nat} {x : Res}, r[i]? = some (some x) → k + i ∈ idxs k r
  | [], k, i, x, h => by simp at h
  | none :: r, k, 0, x, h => by simp at h
  | none :: r, k, i + 1, x, h => by
    have := idxs_mem (r := r) (k := k + 1) (i := i) (x := x) (by simpa using h)
    simp only [idxs]; rwa [Nat.add_right_comm] at this
  | some y :: r, k, 0, x, h => by simp [idxs]
  | some y :: r, k, i + 1, x, h => by
    have := idxs_mem (r := r) (k := k + 1) (i := i) (x := x) (by simpa using h)
    simp only [idxs, List.mem_cons]; right; rwa [Nat.add_right_comm] at this
def ndB : List Nat → Bool
  | [] => true
  | a :: l => !l.contains a && ndB l
def hOK (m : Nat) (L : List Nat) (re : Rs) : Bool := ndB ((idxs 0 re).map (hn L)) && (idxs 0 re).all fun k => Nat.ble m k || hn L k == k
theorem ndB_inj {f : Nat → Nat} : ∀ {l : List Nat}, ndB (l.map f) = true → ∀ i ∈ l, ∀ j ∈ l, f i = f j → i = j
  | [], _, i, hi, _, _, _ => by simp at hi
  | a :: l, h, i, hi, j, hj, he => by
    simp only [List.map_cons, ndB, Bool.and_eq_true, Bool.not_eq_true', List.contains_eq_mem, decide_eq_false_iff_not] at h
    simp only [List.mem_cons] at hi hj
    rcases hi with rfl | hi <;> rcases hj with rfl | hj
    · rfl
    · exact absurd (List.mem_map.2 ⟨j, hj, he.symm⟩) h.1
    · exact absurd (List.mem_map.2 ⟨i, hi, he⟩) h.1
    · exact ndB_inj h.2 i hi j hj he

section core
variable {G : Nat → List D} {E : Env} {r re : Rs} {w : World} {L : List Nat} {m : Nat} {F : List Nat}
def envH (E : Env) (n : Nat) (L : List Nat) : Env := ⟨E.T, fun k => (envT E n).bl (hn L k)⟩
theorem alias_of (hf : hfit r.length F (hn L) (r ++ tks F) 0 re) : AliasC (hn L) (envH E r.length L) re (envT E r.length) (r ++ tks F) := by
  have hat : ∀ {i : Nat} {x : Res}, re[i]? = some (some x) → hRes r.length F (hn L) (r ++ tks F)[hn L i]? x := fun {i} {x} h => by
    have := hfit_at hf h
    rwa [Nat.zero_add] at this
  refine ⟨rfl, fun _ _ => rfl, fun i k h => hat h, fun i l h => ?_, fun i l h => ⟨l, hat h⟩⟩
  obtain ⟨l0, h0, hk⟩ := hat h
  have := hk.len
  rw [renL_length] at this
  exact ⟨l0, h0, this⟩
theorem good_ren (hG : Good G E r w) (hf : hfit r.length F (hn L) (r ++ tks F) 0 re) (hok : hOK m L re = true) (hwr : wfRs re.length re = true) : Good G (envH E r.length L) re w := by
  have hA := alias_of (E := E) hf
  have hG2 := good_tks hG F
  have hat : ∀ {i : Nat} {x : Res}, re[i]? = some (some x) → hRes r.length F (hn L) (r ++ tks F)[hn L i]? x := fun {i} {x} h => by
    have := hfit_at hf h
    rwa [Nat.zero_add] at this
  simp only [hOK, Bool.and_eq_true] at hok
  have look : ∀ {i : Nat} {x : Res}, re[i]? = some (some x) → ∃ y, (r ++ tks F)[hn L i]? = some (some y) := fun {i} {x} h => by
    have := hat h
    cases x with
    | tok k => exact ⟨_, this⟩
    | obj l => obtain ⟨l0, h0, _⟩ := this; exact ⟨_, h0⟩
    | map l => exact ⟨_, this⟩
  refine ⟨fun i k b hi hb => hG2.tok _ k b (hat hi) hb, fun i l hi => ?_, fun i l hi => ?_, fun i j x y b hi hj hbi hbj => ?_, hG.fresh, hG.glob⟩
  · obtain ⟨l0, h0, hk⟩ := hat hi
    by_cases hlt : hn L i < r.length
    · rw [List.getElem?_append_left hlt] at h0
      obtain ⟨b, hb, h1, vs, e, h2, h3, h4⟩ := hG.obj _ _ h0
      exact ⟨b, (envT_lt hlt).trans hb, h1, vs, e, h2, RAL_unrenC hA l _ (wfRs_at hwr hi) (hk.sound hG h3), h4⟩
    · rw [List.getElem?_append_right (by omega)] at h0
      obtain ⟨k, _, he⟩ := tks_get h0
      cases he
  · obtain ⟨b, hb, h1, h2⟩ := hG2.map _ _ (hat hi)
    exact ⟨b, hb, h1, h2⟩
  · obtain ⟨x', hx'⟩ := look hi
    obtain ⟨y', hy'⟩ := look hj
    have := hG2.one _ _ _ _ b hx' hy' hbi hbj
    have h1 := idxs_mem (k := 0) hi
    have h2 := idxs_mem (k := 0) hj
    rw [Nat.zero_add] at h1 h2
    exact ndB_inj hok.1 i h1 j h2 this
theorem step_ren {E0 : Env} {r0 : Rs} {w0 : World} (hG : Good G E r w) (hS : Step E0 r0 w0 E r w) (hf : hfit r.length F (hn L) (r ++ tks F) 0 re) (hok : hOK m L re = true) (hm : r0.length ≤ m) (hml : m ≤ re.length) : Step E0 r0 w0 (envH E r.length L) re w := by
  have hS2 := hS.trans (step_tks hG F)
  have hat : ∀ {i : Nat} {x : Res}, re[i]? = some (some x) → hRes r.length F (hn L) (r ++ tks F)[hn L i]? x := fun {i} {x} h => by
    have := hfit_at hf h
    rwa [Nat.zero_add] at this
  simp only [hOK, Bool.and_eq_true] at hok
  have same : ∀ {i : Nat} {x : Res}, i < r0.length → re[i]? = some (some x) → hn L i = i := fun {i} {x} hi h => by
    have h1 := idxs_mem (k := 0) h
    rw [Nat.zero_add] at h1
    have := List.all_eq_true.1 hok.2 i h1
    simp only [Bool.or_eq_true, beq_iff_eq] at this
    rcases this with h2 | h2
    · have := Nat.le_of_ble_eq_true h2; omega
    · exact h2
  refine ⟨hS2.os, hS2.tape, hS2.output, hS2.size, hS2.block, fun b ⟨i, x, hi, hb⟩ => ?_, hS2.lasts, hS2.shape, ⟨by omega, fun i k hi h => ?_, fun i l hi h => ?_, fun i l hi h => ?_⟩⟩
  · refine hS2.own b ?_
    have := hat hi
    cases x with
    | tok k => exact ⟨_, _, this, hb⟩
    | obj l => obtain ⟨l0, h0, _⟩ := this; exact ⟨_, _, h0, hb⟩
    | map l => exact ⟨_, _, this, hb⟩
  · have hsm := same hi h
    have h1 := hat h
    simp only [hRes, hsm] at h1
    obtain ⟨k2, h2, h3, h4⟩ := hS2.names.tok i k hi h1
    refine ⟨k2, h2, h3, fun he => ?_⟩
    show (envT E r.length).bl (hn L i) = _
    rw [hsm]; exact h4 he
  · have hsm := same hi h
    have h1 := hat h
    simp only [hRes, hsm] at h1
    obtain ⟨l0, h1, hk⟩ := h1
    obtain ⟨l2, h2, h3, h4⟩ := hS2.names.obj i l0 hi h1
    have := hk.len
    rw [renL_length] at this
    refine ⟨l2, h2, by omega, ?_⟩
    show (envT E r.length).bl (hn L i) = _
    rw [hsm]; exact h4
  · have hsm := same hi h
    have h1 := hat h
    simp only [hRes, hsm] at h1
    obtain ⟨l2, h2, h3⟩ := hS2.names.map i l hi h1
    refine ⟨l2, h2, ?_⟩
    show (envT E r.length).bl (hn L i) = _
    rw [hsm]; exact h3
theorem RA_fit (hG : Good G E r w) (hf : hfit r.length F (hn L) (r ++ tks F) 0 re) {a b : AV} {x : Value} (hb : wfA re.length b = true) (hk : WkF r.length F a (ren (hn L) b)) (h : RA E r w a x) : RA (envH E r.length L) re w b x :=
  RA_unrenC (alias_of hf) b x hb (hk.sound hG h)
end core

def WkLR (n : Nat) (F : List Nat) (g : Nat → Nat) (σ : St) : List (Nat × AV) → Prop
  | [] => True
  | (k, v) :: l => WkF n F (σ.get k) (ren g v) ∧ WkLR n F g σ l
theorem WkLR_mem {n : Nat} {F : List Nat} {g : Nat → Nat} {σ : St} : ∀ {l : List (Nat × AV)} {k : Nat} {v : AV}, WkLR n F g σ l → (k, v) ∈ l → WkF n F (σ.get k) (ren g v)
  | (k', v') :: l, k, v, h, hm => by
    simp only [WkLR] at h
    simp only [List.mem_cons, Prod.mk.injEq] at hm
    rcases hm with ⟨rfl, rfl⟩ | hm
    · exact h.1
    · exact WkLR_mem h.2 hm
/-- The state says no less than the form, by other names: 'L' holds the old name behind each new one; from the end on, 'F' new rows. -/
def FitR (m : Nat) (L F : List Nat) (σ : St) (st : List (Nat × AV)) (re : Rs) : Prop :=
  WkLR σ.r.length F (hn L) σ st ∧ wfSt re.length st = true ∧ hfit σ.r.length F (hn L) (σ.r ++ tks F) 0 re ∧ wfRs re.length re = true ∧ hOK m L re = true ∧ Nat.ble m re.length = true
section
variable {P : Program} {ti : Ti} {G : Nat → List D} {N : Nat}
theorem Rel.fitR {E E0 : Env} {r0 : Rs} {w0 : World} {σ : St} {a : Act} {w : World} {st : List (Nat × AV)} {re : Rs} {m : Nat} {L F : List Nat} (h : Rel G N E σ a w) (hS : Step E0 r0 w0 E σ.r w) (hm : r0.length ≤ m) (hf : FitR m L F σ st re) :
    Rel G N (envH E σ.r.length L) ⟨fun _ => .top, st, re⟩ a w ∧ Step E0 r0 w0 (envH E σ.r.length L) re w := by
  obtain ⟨wk, wf, rs, wfr, hok, hle⟩ := hf
  refine ⟨⟨h.size, fun i => ?_, good_ren h.good rs hok wfr, h.defers⟩, step_ren h.good hS rs hok hm (Nat.le_of_ble_eq_true hle)⟩
  show RA _ re w (lk st (fun _ => .top) i) _
  rcases lk_cases st (fun _ => AV.top) i with ⟨v, hv, he⟩ | ⟨_, he⟩
  · rw [he]
    exact RA_fit h.good rs (wfSt_mem wf hv) (WkLR_mem wk hv) (h.slot i)
  · rw [he]; simp [RA]
theorem HC_loopR {body : Code} {K : KD} {σ : St} {ι : Type} (st : ι → List (Nat × AV)) (re : ι → Rs) (p : ι → Prop) (μ : ι → Nat) (i0 : ι) (L F : List Nat) (h0 : p i0) (hf : FitR σ.r.length L F σ (st i0) (re i0))
    (round : ∀ i, p i → HC P ti G N body (.loop (fun σ' => ∃ j, p j ∧ μ j < μ i ∧ ∃ L F, FitR σ.r.length L F σ' (st j) (re j)) K) ⟨fun _ => .top, st i, re i⟩) : HC P ti G N (.loop body) K σ := by
  intro E0 r0 w0 E a w hR hS
  have hlen : r0.length ≤ σ.r.length := hS.names.len
  have hstart := hR.fitR hS hlen hf
  refine wp_loop_g (fun m a' w' => ∃ i E', p i ∧ μ i = m ∧ Rel G N E' ⟨fun _ => .top, st i, re i⟩ a' w' ∧ Step E0 r0 w0 E' (re i) w') (n0 := μ i0)
    ⟨i0, _, h0, rfl, hstart.1, hstart.2⟩ ?_
  intro m a w hI
  obtain ⟨i, E', hp, hm, hR', hS'⟩ := hI
  subst hm
  refine wp_mono (round i hp E0 r0 w0 E' a w hR' hS') fun e a1 w1 hq => ?_
  obtain ⟨σ1, E1, hk, hR1, hS1⟩ := hq
  cases e with
  | normal =>
    obtain ⟨j, hpj, hlt, L', F', hfit⟩ := hk
    have h2 := hR1.fitR hS1 hlen hfit
    exact ⟨μ j, hlt, j, _, hpj, rfl, h2.1, h2.2⟩
  | _ => exact ⟨σ1, E1, hk, hR1, hS1⟩
/-- The state in another form, at a loop or a drawn region. -/
theorem HC_fitR {c : Code} {K : KD} {σ : St} (st : List (Nat × AV)) (re : Rs) (L F : List Nat) (hf : FitR σ.r.length L F σ st re) (h : HC P ti G N c K ⟨fun _ => .top, st, re⟩) : HC P ti G N c K σ := by
  intro E0 r0 w0 E a w hR hS
  have h2 := hR.fitR hS hS.names.len hf
  exact h E0 r0 w0 _ a w h2.1 h2.2

/-! ### A result in another form -/
def WkFT (n : Nat) (F : List Nat) (a b : AV) : Prop := WkF n F a b ∨ ∃ l l0, a = .tup l ∧ b = .tup l0 ∧ WkFs n F l l0
theorem WkFT.one {n : Nat} {F : List Nat} {a b : AV} (h : WkF n F a b) : WkFT n F a b := .inl h
theorem WkFT.tup {n : Nat} {F : List Nat} {l m : List AV} (h : WkFs n F l m) : WkFT n F (.tup l) (.tup m) := .inr ⟨l, m, rfl, rfl, h⟩
theorem WkFT.sound {E : Env} {r : Rs} {w : World} (hG : Good G E r w) {F : List Nat} {a b : AV} {x : Value} (h : WkFT r.length F a b) (hr : RA E r w a x) : RA (envT E r.length) (r ++ tks F) w b x := by
  rcases h with h | ⟨l, l0, rfl, rfl, h⟩
  · exact h.sound hG hr
  · simp only [RA] at hr ⊢
    obtain ⟨vs, h1, h2⟩ := hr
    exact ⟨vs, h1, h.sound hG h2⟩
/-- What a result says, by other names. -/
def FitV (m : Nat) (L F : List Nat) (v : AV) (r : Rs) (v' : AV) (re : Rs) : Prop :=
  WkFT r.length F v (ren (hn L) v') ∧ wfA re.length v' = true ∧ hfit r.length F (hn L) (r ++ tks F) 0 re ∧ wfRs re.length re = true ∧ hOK m L re = true ∧ Nat.ble m re.length = true
theorem AC.fit {f : FuncId} {args : List AV} {r : Rs} {O : AV → Rs → Prop} (h : AC P G f args r fun v r' => ∃ v1 r1 L F, O v1 r1 ∧ FitV r.length L F v r' v1 r1) : AC P G f args r O := by
  refine ⟨h.1, fun E w vals hG hA => (h.2 E w vals hG hA).mono fun e w' ⟨v, x, r', E', he, ⟨v1, r1, L, F, hO, hf⟩, h1, h2, h3⟩ => ?_⟩
  obtain ⟨wk, wf, rs, wfr, hok, hle⟩ := hf
  exact ⟨v1, x, r1, _, he, hO, RA_unrenC (alias_of rs) v1 x wf (wk.sound h2 h1), good_ren h2 rs hok wfr, step_ren h2 h3 rs hok (Nat.le_refl _) (Nat.le_of_ble_eq_true hle)⟩
end
end Go.Proofs.YtdbicadncccpoaaDoor
/- The frame of these proofs, part ZF: a call that only reads what it is handed, and tells numbers, texts and truth values alone: structs of the call's own are lent to it as data. -/
set_option linter.unusedVariables false
set_option linter.unusedSimpArgs false
namespace Go.Proofs.YtdbicadncccpoaaDoor
open Go

/-- A datum that hangs on no memory. -/
def scalD : D → Bool
  | .c _ => true
  | .agg l => l.all fun d => match d with | .c _ => true | _ => false
  | _ => false
def scalA : AV → Bool
  | .d d => scalD d
  | .tup l => l.all fun a => match a with | .d d => scalD d | _ => false
  | _ => false
theorem scal_bD (l : List UInt8) : scalA (.d (.agg (bD l))) = true := by
  simp [scalA, scalD, bD]
theorem RL_scal {T T' : Nat → Nat} {w w' : World} : ∀ {l : List D} {vs : List Value}, (l.all fun d => match d with | .c _ => true | _ => false) = true → RL T w l vs → RL T' w' l vs
  | [], vs, _, h => by simpa [RL] using h
  | d :: l, vs, hs, h => by
    simp only [List.all_cons, Bool.and_eq_true] at hs
    simp only [RL] at h ⊢
    obtain ⟨v, rest, rfl, h1, h2, h3⟩ := h
    refine ⟨v, rest, rfl, h1, ?_, RL_scal hs.2 h3⟩
    cases d <;> simp only [RD, Bool.false_eq_true, false_and] at hs h2 ⊢
    exact h2
theorem RD_scal {T T' : Nat → Nat} {w w' : World} {d : D} {v : Value} (hs : scalD d = true) (h : RD T w d v) : RD T' w' d v := by
  cases d with
  | c y => simpa [RD] using h
  | sl sz n xs => simp [scalD] at hs
  | agg l =>
    simp only [RD] at h ⊢
    obtain ⟨vs, rfl, h⟩ := h
    exact ⟨vs, rfl, RL_scal hs h⟩
theorem RA_scal {E E' : Env} {r r' : Rs} {w w' : World} {a : AV} {v : Value} (hs : scalA a = true) (h : RA E r w a v) : RA E' r' w' a v := by
  cases a <;> simp only [scalA, Bool.false_eq_true] at hs
  case d d => simp only [RA] at h ⊢; exact RD_scal hs h
  case tup l =>
    simp only [RA] at h ⊢
    obtain ⟨vs, rfl, h⟩ := h
    refine ⟨vs, rfl, ?_⟩
    have : ∀ (l : List AV) (vs : List Value), (l.all fun a => match a with | .d d => scalD d | _ => false) = true → RAL E r w l vs → RAL E' r' w' l vs := by
      intro l
      induction l with
      | nil => intro vs _ h; simpa [RAL] using h
      | cons a l ih =>
        intro vs hs h
        simp only [List.all_cons, Bool.and_eq_true] at hs
        simp only [RAL] at h ⊢
        obtain ⟨v, rest, rfl, h1, h2⟩ := h
        refine ⟨v, rest, rfl, ?_, ih rest hs.2 h2⟩
        cases a <;> simp only [RA, Bool.false_eq_true, false_and] at hs h1 ⊢
        exact RD_scal hs.1 h1
    exact this l vs.toList hs h

/-! ### What is lent -/
def csize (w : World) (b : Nat) : Nat := match w.heap[b]? with
  | some (.cells vs _ _) => vs.size
  | _ => 0
def LentB (E : Env) (r : Rs) (b : Nat) : Prop := ∃ i l, r[i]? = some (some (.obj l)) ∧ E.bl i = some b ∧ (allD l).isSome = true
open Classical in
noncomputable def lentT (E : Env) (r : Rs) (w : World) : Nat → Nat := fun b => if LentB E r b then csize w b else E.T b
noncomputable def lentE (E : Env) (r : Rs) (w : World) : Env := ⟨lentT E r w, E.bl⟩
section
variable {G : Nat → List D} {E : Env} {r : Rs} {w : World}
theorem lentT_obj (hG : Good G E r w) {i b : Nat} {l : List AV} (hi : r[i]? = some (some (.obj l))) (hb : E.bl i = some b) (hl : (allD l).isSome = true) : lentT E r w b = csize w b := by
  unfold lentT; rw [if_pos ⟨i, l, hi, hb, hl⟩]
theorem lent_lasts (hG : Good G E r w) : Lasts E.T w (lentT E r w) w := by
  refine ⟨fun b => ?_, fun _ _ => rfl⟩
  unfold lentT
  split
  · rename_i h
    obtain ⟨i, l, hi, hb, _⟩ := h
    obtain ⟨b', hb', hT, _⟩ := hG.obj i l hi
    rw [hb] at hb'; injection hb' with hb'; subst hb'
    omega
  · exact Nat.le_refl _
theorem lent_good (hG : Good G E r w) : Good G (lentE E r w) [] w := by
  refine ⟨fun i k b h => (by simp at h), fun i l h => (by simp at h), fun i l h => (by simp at h), fun i j x y b h => (by simp at h), fun b hb => ?_, fun g => RM.lasts (lent_lasts hG) _ _ (hG.glob g)⟩
  show lentT E r w b = 0
  unfold lentT
  split
  · rename_i h
    obtain ⟨i, l, hi, hb2, _⟩ := h
    have := hG.lt hi hb2; omega
  · exact hG.fresh b hb
/-- A value as it is, or a pointer or slice into what is lent. -/
def BwA (r : Rs) (a b : AV) : Prop := (WeakA a b ∧ wfA 0 b = true) ∨ (∃ i off l ds, a = .ptr i off ∧ objOf r i = some l ∧ allD l = some ds ∧ b = .el (ds.drop off)) ∨
  (∃ i off sz n l ds, a = .osl i off sz n ∧ objOf r i = some l ∧ allD l = some ds ∧ 0 < n ∧ b = .d (.sl sz n ((ds.drop off).take (n * sz))))
theorem BwA.val {a b : AV} (h : WeakA a b) (hw : wfA 0 b = true) : BwA r a b := .inl ⟨h, hw⟩
theorem BwA.ptr {i off : Nat} {l : List AV} {ds : List D} (ho : objOf r i = some l) (hl : allD l = some ds) : BwA r (.ptr i off) (.el (ds.drop off)) := .inr (.inl ⟨i, off, l, ds, rfl, ho, hl, rfl⟩)
theorem BwA.ptr0 {i : Nat} {l : List AV} {ds : List D} (ho : objOf r i = some l) (hl : allD l = some ds) : BwA r (.ptr i 0) (.el ds) := .inr (.inl ⟨i, 0, l, ds, rfl, ho, hl, rfl⟩)
theorem BwA.osl {i off sz n : Nat} {l : List AV} {ds : List D} (ho : objOf r i = some l) (hl : allD l = some ds) (hn : 0 < n) : BwA r (.osl i off sz n) (.d (.sl sz n ((ds.drop off).take (n * sz)))) := .inr (.inr ⟨i, off, sz, n, l, ds, rfl, ho, hl, hn, rfl⟩)
theorem lent_row (hG : Good G E r w) {i : Nat} {l : List AV} {ds : List D} (ho : objOf r i = some l) (hl : allD l = some ds) : ∃ b, E.bl i = some b ∧ l.length = ds.length ∧ RM (lentT E r w) w ds ⟨b, 0, none⟩ := by
  obtain ⟨b, hb, hT, vs, e, hh, hral, hone⟩ := hG.obj i l (objOf_some ho)
  have hrl := allD_sound l _ ds hral hl hone
  have h1 := RAL_length _ _ hral
  have h2 := RL_length _ _ hrl
  refine ⟨b, hb, by omega, RM_of_values _ _ vs.toList (RL.lasts (lent_lasts hG) _ _ hrl) (fun j u hj => ?_) ?_⟩
  · rw [addr_plain, cell_of_row w b _ vs e (0, 0) hh]; simpa using hj
  · show 0 + ds.length ≤ lentT E r w b
    rw [lentT_obj hG (objOf_some ho) hb (by rw [hl]; rfl)]
    unfold csize
    rw [hh]
    simp only [Array.length_toList] at h2
    simp only; omega
theorem BwA.sound (hG : Good G E r w) {a b : AV} {x : Value} (h : BwA r a b) (hr : RA E r w a x) : RA (lentE E r w) [] w b x := by
  rcases h with ⟨h, hw⟩ | ⟨i, off, l, ds, rfl, ho, hl, rfl⟩ | ⟨i, off, sz, n, l, ds, rfl, ho, hl, hn, rfl⟩
  · have h1 := h.sound hr
    have hN : Names E r (lentE E r w) r := ⟨Nat.le_refl _, fun i k' _ h => ⟨k', h, Nat.le_refl _, fun _ => rfl⟩, fun i l' _ h => ⟨l', h, rfl, rfl⟩, fun i l' _ h => ⟨l', h, rfl⟩⟩
    exact RA_weak (r' := []) ⟨by simp, fun i x h => by simp at h⟩ b x hw (RA.lasts (lent_lasts hG) hN (ShapeLasts.refl w) b x h1)
  · obtain ⟨b, hb, hlen, hrm⟩ := lent_row hG ho hl
    simp only [RA] at hr ⊢
    obtain ⟨b2, hb2, rfl⟩ := hr.2 l (objOf_some ho)
    rw [hb] at hb2; injection hb2 with hb2; subst hb2
    refine ⟨_, rfl, ?_⟩
    have := RM_drop _ _ hrm off
    rwa [addr_plain, Nat.zero_add] at this
  · obtain ⟨b, hb, hlen, hrm⟩ := lent_row hG ho hl
    simp only [RA, RD] at hr ⊢
    obtain ⟨_, A, c, rfl, hc, hx⟩ := hr
    obtain ⟨hfit, hx⟩ := hx l (objOf_some ho)
    obtain ⟨b2, hb2, rfl⟩ := hx hn
    rw [hb] at hb2; injection hb2 with hb2; subst hb2
    refine ⟨by rw [List.length_take, List.length_drop]; omega, _, _, rfl, hc, .inr ⟨_, rfl, ?_⟩⟩
    have := RM_take _ _ (RM_drop _ _ hrm off) (n * sz)
    rwa [addr_plain, Nat.zero_add] at this
def BwAs (r : Rs) : List AV → List AV → Prop
  | [], [] => True
  | a :: l, b :: m => BwA r a b ∧ BwAs r l m
  | _, _ => False
theorem BwAs.sound (hG : Good G E r w) : ∀ {l m : List AV} {vs : List Value}, BwAs r l m → RAL E r w l vs → RAL (lentE E r w) [] w m vs
  | [], [], vs, _, h => by simpa [RAL] using h
  | a :: l, b :: m, vs, hk, h => by
    simp only [RAL] at h ⊢
    obtain ⟨v, rest, rfl, h1, h2⟩ := h
    exact ⟨v, rest, rfl, hk.1.sound hG h1, BwAs.sound hG hk.2 h2⟩
  | [], _ :: _, _, h, _ => h.elim
  | _ :: _, [], _, h, _ => h.elim
/-- Behind the call all is as it was. -/
theorem lent_back {P : Program} {f : FuncId} {args : List AV} {v0 : AV} (h : AC P G f args [] fun v r' => v = v0 ∧ r' = []) (hv : scalA v0 = true) (hG : Good G E r w) {vals : Array Value} (hA : RAL (lentE E r w) [] w args vals.toList) :
    Calls P f vals w fun e w' => ∃ x, e = .returned x ∧ RA E r w' v0 x ∧ Good G E r w' ∧ Step E r w E r w' ∧ Keeps w w' := by
  refine (h.2 _ w vals (lent_good hG) hA).mono fun e w' ⟨v, x, r', E1, he, ⟨hv1, hr1⟩, hra, hG1, hS⟩ => ?_
  subst hv1; subst hr1
  have hkeep : Keeps w w' := ⟨hS.size, fun b hb => (hS.block b hb (by rintro ⟨i, y, hi, _⟩; simp at hi)).1⟩
  have hst : Step E r w E r w' := by
    refine ⟨hS.os, hS.tape, hS.output, hS.size, fun b hb _ => ⟨hkeep.2 b hb, rfl⟩, fun b hb => .inl hb, ⟨fun _ => Nat.le_refl _, fun a ha => ?_⟩, hS.shape, Names.refl _ _⟩
    have hlt := hG.pub_lt ha
    unfold World.cell?
    rw [hkeep.2 _ hlt]
  refine ⟨x, he, RA_scal hv hra, ?_, hst, hkeep⟩
  refine ⟨fun i k b hi hb => ?_, fun i l hi => ?_, fun i l hi => ?_, hG.one, fun b hb => hG.fresh b (Nat.le_trans hS.size hb), fun g => RM.lasts hst.lasts _ _ (hG.glob g)⟩
  · obtain ⟨h1, cur, e, h2, h3⟩ := hG.tok i k b hi hb
    exact ⟨h1, cur, e, (hkeep.2 _ (hG.lt hi hb)).trans h2, h3⟩
  · obtain ⟨b, hb, h1, vs, e, h2, h3, h4⟩ := hG.obj i l hi
    exact ⟨b, hb, h1, vs, e, (hkeep.2 _ (hG.lt hi hb)).trans h2, h3.step hst, h4⟩
  · obtain ⟨b, hb, h1, h2⟩ := hG.map i l hi
    exact ⟨b, hb, h1, h2.lasts (T' := E.T) (hkeep.2 _ (hG.lt hi hb)) hst.lasts⟩
end
section
variable {P : Program} {ti : Ti} {G : Nat → List D} {N : Nat} {ops : Array Oper} {σ : St}
theorem HO_lend (hti : TiOK P ti) {o : Oper} {rest : List Oper} {M : KM} {f : FuncId} {as args : List AV} {v0 : AV} {c : Call} (h : AC P G f args [] fun v r' => v = v0 ∧ r' = []) (hv : scalA v0 = true) (ho : o.op = .call c)
    (hg : gd ops σ o = some true) (hc : calleeOf (σ.ev G) c = some (f, as)) (hd : (o :: rest).all (dstOK N) = true) (hw : BwAs σ.r as args)
    (hk : EV P ti G N ops rest M (σ.putR o.dst v0 σ.r)) : HO P ti G N ops (o :: rest) M σ := by
  simp only [List.all_cons, Bool.and_eq_true] at hd
  cases M with
  | plain K =>
    intro E0 r0 w0 E a w hR hS
    unfold wpList
    rw [if_pos (gd_sound hR hg)]
    left
    obtain ⟨vals, hrun, hral⟩ := callee_run (P := P) (fun x => ev_sound hR x) ho hc h.1
    unfold Oper.wp
    rw [hrun, Oper.upon_enter]
    refine (lent_back h hv hR.good (hw.sound hR.good hral)).mono fun e w' hq => ?_
    obtain ⟨x, rfl, hra, hgood, hst, _⟩ := hq
    have hrel := hR.putO hst hgood hd.1 hra
    rw [putR_eq] at hrel
    exact HO_of_EV hti hd.2 hk E0 r0 w0 E _ w' hrel (hS.trans hst)
  | draw π kp K =>
    intro hok hl
    obtain ⟨L, pl⟩ := plan_of hok
    obtain ⟨i0, hd0, ho0, hrest, hk1⟩ := opl_cons pl hl
    have he : isEff ti o = true := by
      unfold isEff
      have : stops o.op = true := by
        rw [ho]
        unfold calleeOf at hc
        split at hc
        · rename_i x hx; simp [stops, hx]
        · cases hc
      simp [this]
    refine DWp_step pl hd0 ho0 hk1 he fun E0 r0 w0 E b w hR hS a C heq hwq hC => ?_
    have hgd := gd_sound hR hg
    rw [hwq] at hgd
    rw [if_pos hgd]
    obtain ⟨vals, hrun, hral⟩ := callee_run (P := P) (fun x => ev_sound hR x) ho hc h.1
    unfold Oper.wp
    rw [← heq, hrun, Oper.upon_enter]
    refine (lent_back h hv hR.good (hw.sound hR.good hral)).mono fun e w' hq => ?_
    obtain ⟨x, rfl, hra, hgood, hst, hkeep⟩ := hq
    have hrel := hR.putO hst hgood hd.1 hra
    rw [putR_eq] at hrel
    exact hC x w' E _ hrel (hS.trans hst) (fun _ => hkeep) (ED_sound hti pl hok rest _ _ hk1 hrest hk)
end
end Go.Proofs.YtdbicadncccpoaaDoor
/- The frame of these proofs, part ZG: where rows are the call's own ('lit'): an append to nothing makes a row that may be written; any other operation by sight. -/
set_option linter.unusedVariables false
set_option linter.unusedSimpArgs false
namespace Go.Proofs.YtdbicadncccpoaaDoor
open Go
section
variable {P : Program} {ti : Ti} {G : Nat → List D} {N : Nat} {ops : Array Oper} {M : KM} {σ : St}
theorem keepOp_app {c : Call} : keepOp (.call c) = false := rfl
/-- An append, as it is reckoned where rows are data. -/
theorem HO_app (hti : TiOK P ti) {d : Option Tmp} {x y : Operand} {t u ty : TypeId} {ps : String} {af : Array Edge} {g : Option (Nat × Bool)} {rest : List Oper} {v : AV} {r' : Rs} (hg : gd ops σ ⟨d, .call ⟨.builtin .append, #[x, y], #[t, u]⟩, ty, ps, af, g⟩ = some true)
    (he : evApp ti σ.r t u (σ.ev G x) (σ.ev G y) = some (v, r')) (hd : ((⟨d, .call ⟨.builtin .append, #[x, y], #[t, u]⟩, ty, ps, af, g⟩ : Oper) :: rest).all (dstOK N) = true) (hkp : kpFree M (rest.length + 1) = true)
    (hk : EV P ti G N ops rest M (σ.putR d v r')) : HO P ti G N ops (⟨d, .call ⟨.builtin .append, #[x, y], #[t, u]⟩, ty, ps, af, g⟩ :: rest) M σ := by
  refine HO_sem hti (fun _ : Unit => v) (fun _ => r') (fun _ => True) hg hd rfl (fun E w a hR => ?_) rfl fun _ _ => hk
  obtain ⟨z, w', E', hrun, hra, hgood, hst⟩ := evA_sound (P := P) hti hR.good (fun q => ev_sound hR q) (o := ⟨d, .call ⟨.builtin .append, #[x, y], #[t, u]⟩, ty, ps, af, g⟩) (v := v) (r' := r') he
  rcases hrun with hrun | ⟨hrun, _⟩
  · exact ⟨(), z, w', E', trivial, hrun, hra, hgood, hst, .inl hkp⟩
  · exfalso
    have : ∀ s : Sem Value, (s.bind fun q => (pure (.value q) : Sem Next)).run P w ≠ .ok .skip w' := by
      intro s h
      have h2 : ((s >>= fun q => pure (.value q)) : Sem Next).run P w = .ok .skip w' := h
      rw [Sem.run_bind] at h2
      cases hs : s.run P w <;> rw [hs] at h2 <;> simp at h2
    revert hrun
    simp [execOp, resolve, invoke, builtin]
    intro h
    generalize (Builtin.append_ #[t, u] ty #[a.eval x, a.eval y]).run P w = q at h
    cases q <;> simp at h
/-- .. for simp. -/
theorem HO_appB (hti : TiOK P ti) {d : Option Tmp} {x y : Operand} {t u ty : TypeId} {ps : String} {af : Array Edge} {g : Option (Nat × Bool)} {rest : List Oper} (hg : gd ops σ ⟨d, .call ⟨.builtin .append, #[x, y], #[t, u]⟩, ty, ps, af, g⟩ = some true)
    (hd : ((⟨d, .call ⟨.builtin .append, #[x, y], #[t, u]⟩, ty, ps, af, g⟩ : Oper) :: rest).all (dstOK N) = true) (hkp : kpFree M (rest.length + 1) = true)
    (hk : bindQ2 (fun v r' => EV P ti G N ops rest M (σ.putR d v r')) (evApp ti σ.r t u (σ.ev G x) (σ.ev G y))) : HO P ti G N ops (⟨d, .call ⟨.builtin .append, #[x, y], #[t, u]⟩, ty, ps, af, g⟩ :: rest) M σ := by
  obtain ⟨⟨v, r'⟩, he, hk⟩ := bindP_elim hk
  exact HO_app hti hg he hd hkp hk
theorem HO_appO (hti : TiOK P ti) {d : Option Tmp} {x y : Operand} {t u ty e : TypeId} {ps : String} {af : Array Edge} {g : Option (Nat × Bool)} {rest : List Oper} {m : Nat} {ys : List D} {zl : List AV} (hg : gd ops σ ⟨d, .call ⟨.builtin .append, #[x, y], #[t, u]⟩, ty, ps, af, g⟩ = some true)
    (ht : tK ti t = .sl e) (hu : isSrc (tK ti u) = true) (hi : tI ti e = true) (hx : slOf (tS ti e) (σ.ev G x) = some (some .full, 0, [])) (hy : srcOf σ.r (tS ti e) (σ.ev G y) = some (m, ys)) (hz : tZ ti e = some zl) (hpos : 0 < tS ti e) (hm : 0 < m)
    (h63 : m ≤ 9223372036854775807) (hb : m * tB ti e ≤ 140737488355328) (hd : ((⟨d, .call ⟨.builtin .append, #[x, y], #[t, u]⟩, ty, ps, af, g⟩ : Oper) :: rest).all (dstOK N) = true)
    (hk : ∀ k : Nat, EV P ti G N ops rest M (σ.putR d (.osl σ.r.length 0 (tS ti e) m) (σ.r ++ [some (.obj (ys.map .d ++ repA zl k))]))) : HO P ti G N ops (⟨d, .call ⟨.builtin .append, #[x, y], #[t, u]⟩, ty, ps, af, g⟩ :: rest) M σ := by
  obtain ⟨s, bb, z, hte⟩ := tK_sl ht
  obtain ⟨ie, hee⟩ : ∃ ie, ti e = some ie := by
    unfold tI at hi
    exact Option.isSome_iff_exists.1 hi
  have hsz : tS ti e = ie.size := by unfold tS; rw [hee]
  have hby : tB ti e = ie.bytes := by unfold tB; rw [hee]
  have hzz : zeroA ie.zero = some zl := by unfold tZ at hz; rw [hee] at hz; exact hz
  obtain ⟨iu, hue, hsrc⟩ : ∃ iu, ti u = some iu ∧ Src iu.u := by
    unfold tK at hu
    cases h : ti u with
    | none => rw [h] at hu; simp [isSrc] at hu
    | some iu =>
      refine ⟨iu, rfl, ?_⟩
      rw [h] at hu
      obtain ⟨uu, _, _, _⟩ := iu
      cases uu <;> simp [tkOf, isSrc] at hu
      · exact .inr rfl
      · exact .inl ⟨_, rfl⟩
  rw [hsz] at hx hy hpos hk
  rw [hby] at hb
  refine HO_sem hti (fun k : Nat => .osl σ.r.length 0 ie.size m) (fun k => σ.r ++ [some (.obj (ys.map .d ++ repA zl k))]) (fun _ => True) hg hd rfl (fun E w a hR => ?_) rfl fun k _ => hk k
  have hG := hR.good
  obtain ⟨hut, _⟩ := hti _ _ hte
  obtain ⟨_, fe, hfe, hfs, hfb, hfz, hzs, _⟩ := hti _ _ hee
  obtain ⟨huu, _⟩ := hti _ _ hue
  obtain ⟨hlx, A, c, hxv, hnc, hrx, hmo⟩ := slOf_sound (ev_sound hR x) hx
  obtain ⟨hly, hlen, news, hnews, hf1, hf2⟩ := srcOf_sound (P := P) hG (ev_sound hR y) hy
  rw [← hfs] at hf1 hf2
  have hnl := RL_length _ _ hnews
  have hc0 : c = 0 := hmo
  subst hc0
  have hof : (Builtin.firstCells fe.size 0 (.slice A 0 0)).run P w.drew = .ok (#[] : Array Value) w.drew := by
    cases A with
    | none => simp [Builtin.firstCells]
    | some ad => exact run_firstCells_some (P := P) w.drew fe.size 0 ad 0 0 [] (by simp) (fun j u hj => by simp at hj)
  have hGd := good_drew hG
  have hsd := step_drew E σ.r w
  have hrun := app_grow (P := P) (ty := ty) hut huu hsrc hfe hfz (olds := []) hof hlen hf2 (by omega) (by omega) (growslice_fits (by omega) (by rw [hfb, Nat.zero_add]; exact hb))
  have hst := step_push hGd (.cells (#[] ++ news.toArray ++ Builtin.zeroCells ie.zero.cells (grownCap w (0 + m) 0 e - (0 + m))) e) 0 (some (.obj (ys.map .d ++ repA zl (grownCap w (0 + m) 0 e - (0 + m)))))
  obtain ⟨z1, z2⟩ := zeros_sound (E := E) (r := σ.r) (w := w) hzz (n := grownCap w (0 + m) 0 e - (0 + m)) hzs hpos
  have hzc : (Builtin.zeroCells ie.zero.cells (grownCap w (0 + m) 0 e - (0 + m))).toList = ((Array.range ((grownCap w (0 + m) 0 e - (0 + m)) * ie.size)).map fun i => (ie.zero.cells[i % ie.zero.cells.size]!)).toList := by
    unfold Builtin.zeroCells
    rw [hzs]
  rw [← hzc] at z1 z2
  have hcells : RAL E σ.r w (ys.map .d ++ repA zl (grownCap w (0 + m) 0 e - (0 + m))) (#[] ++ news.toArray ++ Builtin.zeroCells ie.zero.cells (grownCap w (0 + m) 0 e - (0 + m)) : Array Value).toList := by
    simp only [Array.toList_append, List.nil_append]
    exact RAL_append _ _ _ _ (RAL_map_d _ _ hnews) z1
  have hge := grownCap_ge w (0 + m) 0 e
  refine ⟨_, .slice (some ⟨w.heap.size, 0, none⟩) m (grownCap w (0 + m) 0 e), _, _, trivial, ?_, ?_, good_push hGd _ _ _ ⟨fun k hk => (by cases hk), fun l hl => ?_, fun l hl => (by cases hl)⟩, hsd.trans hst, .inr (Keeps.trans (Keeps.drew w) (Keeps.alloc w.drew _))⟩
  · have h0 : (0 : Nat) + m = m := Nat.zero_add m
    rw [h0] at hrun
    rw [← hxv] at hrun
    simp [execOp, resolve, invoke, builtin, hrun, h0]
  · simp only [RA]
    refine ⟨by simp, _, _, rfl, by omega, fun l hl => ?_⟩
    simp at hl
    subst hl
    refine ⟨?_, fun _ => ⟨_, updN_same _ _ _, rfl⟩⟩
    rw [List.length_append, List.length_map, hly]; omega
  · injection hl with hl; subst hl
    refine ⟨updN_same _ _ _, _, e, heap_alloc_new w.drew _, (hcells.step (hsd.trans hst)), ?_⟩
    intro q hq
    simp only [Array.toList_append, List.nil_append, List.mem_append] at hq
    rcases hq with hq | hq
    · exact RL_one _ _ hnews q hq
    · exact z2 q hq
theorem values_wide {T : Nat → Nat} {w : World} {ds : List D} {us : List Value} (h : RL T w ds us) : ∀ u ∈ us, u.oneCell' = true := by
  induction ds generalizing us with
  | nil => simp only [RL] at h; subst h; simp
  | cons d ds ih =>
    simp only [RL] at h
    obtain ⟨v, rest, rfl, h1, _, h3⟩ := h
    intro u hu
    rcases List.mem_cons.1 hu with rfl | hu
    · exact h1
    · exact ih h3 u hu
/-- A copy of data into an object's cells. -/
theorem HO_copyD (hti : TiOK P ti) {d : Option Tmp} {x y : Operand} {t u e ty : TypeId} {ps : String} {af : Array Edge} {g : Option (Nat × Bool)} {rest : List Oper} {o off n m k : Nat} {mo : Option Mo} {l : List AV} {ys : List D} (hg : gd ops σ ⟨d, .call ⟨.builtin .copy, #[x, y], #[t, u]⟩, ty, ps, af, g⟩ = some true)
    (hx : σ.ev G x = .osl o off 1 n) (hy : slOf 1 (σ.ev G y) = some (mo, m, ys)) (hl : objOf σ.r o = some l) (ht : tK ti t = .sl e) (hte : tI ti e = true ∧ tS ti e = 1) (hn : 0 < n) (hk2 : Nat.min m n = k)
    (hd : ((⟨d, .call ⟨.builtin .copy, #[x, y], #[t, u]⟩, ty, ps, af, g⟩ : Oper) :: rest).all (dstOK N) = true) (hkp : kpFree M (rest.length + 1) = true)
    (hk : EV P ti G N ops rest M (σ.putR d (.d (.c (.int .i64 k))) (σ.r.set o (some (.obj (l.take off ++ (ys.take k).map .d ++ l.drop (off + k))))))) : HO P ti G N ops (⟨d, .call ⟨.builtin .copy, #[x, y], #[t, u]⟩, ty, ps, af, g⟩ :: rest) M σ := by
  refine HO_sem hti (fun _ : Unit => .d (.c (.int .i64 k))) (fun _ => σ.r.set o (some (.obj (l.take off ++ (ys.take k).map .d ++ l.drop (off + k))))) (fun _ => True) hg hd rfl (fun E w a hR => ?_) rfl fun _ _ => hk
  obtain ⟨s, bb, z, htt⟩ := tK_sl ht
  have hut := ti_run hti htt w
  obtain ⟨ie, hie, hisz⟩ : ∃ ie, ti e = some ie ∧ ie.size = 1 := by
    unfold tI tS at hte
    cases hq : ti e with
    | none => rw [hq] at hte; simp at hte
    | some ie => rw [hq] at hte; exact ⟨ie, rfl, hte.2⟩
  have hsz := ti_size hti hie w
  rw [hisz] at hsz
  have h1 := ev_sound hR x
  rw [hx] at h1
  simp only [RA] at h1
  obtain ⟨_, A, c, hv, _, h1⟩ := h1
  obtain ⟨hf1, h1⟩ := h1 l (objOf_some hl)
  obtain ⟨b, hb, rfl⟩ := h1 hn
  obtain ⟨hly, A2, c2, hv2, hnc, hrx, hmo⟩ := slOf_sound (ev_sound hR y) hy
  have hkn : k ≤ n ∧ k ≤ m := by rw [← hk2]; exact ⟨Nat.min_le_right _ _, Nat.min_le_left _ _⟩
  obtain ⟨us, hus, hload⟩ : ∃ us : List Value, RL E.T w (ys.take k) us ∧ (Builtin.firstCells 1 k (.slice A2 m c2)).run P w = .ok us.toArray w := by
    rcases hrx with h0 | ⟨ad, rfl, hrm⟩
    · have hk0 : k = 0 := by subst h0; simp at hly; omega
      subst hk0
      refine ⟨[], by simp [RL], ?_⟩
      cases A2 with
      | none => simp [Builtin.firstCells]
      | some ad => exact run_firstCells_some (P := P) w 1 0 ad m c2 [] (by simp) (fun j u hj => by simp at hj)
    · obtain ⟨us, hus, hcs⟩ := RM_values _ _ (RM_take _ _ hrm k)
      refine ⟨us, hus, ?_⟩
      have hul := RL_length _ _ hus
      exact run_firstCells_some (P := P) w 1 k ad m c2 us (by rw [hul, List.length_take]; omega) hcs
  have hul := RL_length _ _ hus
  have hkl : (ys.take k).length = k := by rw [List.length_take]; omega
  obtain ⟨w', E', hrun, hgood, hst⟩ := obj_put (P := P) hR.good (off := off) hl hb (RAL_map_d _ _ hus) (values_wide hus) (by rw [List.length_map, hkl]; omega)
  rw [List.length_map, hkl] at hgood hst
  refine ⟨(), .int .i64 k, w', E', trivial, ?_, by simp [RA, RD, Value.oneCell'], hgood, hst, .inl hkp⟩
  simp [execOp, resolve, invoke, builtin, hv, hv2, Builtin.copy_, hut, Builtin.lenOf, hsz, hk2, hload, hrun, goInt]
end
end Go.Proofs.YtdbicadncccpoaaDoor
/- The frame of these proofs, part ZH: a drawn region, two of whose operations may come in either order: it is shown for each of the two. -/
set_option linter.unusedVariables false
set_option linter.unusedSimpArgs false
namespace Go.Proofs.YtdbicadncccpoaaDoor
open Go
def edgeTo (x : Nat) : Edge := ⟨x, .data⟩
def addAt : List Oper → Nat → Nat → List Oper
  | [], _, _ => []
  | ⟨d, op, ty, ps, af, g⟩ :: l, 0, x => ⟨d, op, ty, ps, af.push (edgeTo x), g⟩ :: l
  | o :: l, n + 1, x => o :: addAt l n x
theorem addAt_len : ∀ (l : List Oper) (y x : Nat), (addAt l y x).length = l.length
  | [], _, _ => rfl
  | o :: l, 0, x => rfl
  | o :: l, n + 1, x => by rw [addAt, List.length_cons, addAt_len l n x, List.length_cons]
theorem addAt_get : ∀ (l : List Oper) (y x i : Nat), (addAt l y x)[i]? = if i = y then (l[i]?).map (fun o => { o with after := o.after.push (edgeTo x) }) else l[i]?
  | [], y, x, i => by simp [addAt]
  | ⟨d, op, ty, ps, af, g⟩ :: l, 0, x, 0 => rfl
  | ⟨d, op, ty, ps, af, g⟩ :: l, 0, x, i + 1 => by simp [addAt]
  | o :: l, n + 1, x, 0 => by simp [addAt]
  | o :: l, n + 1, x, i + 1 => by
    rw [addAt, List.getElem?_cons_succ, addAt_get l n x i, List.getElem?_cons_succ]
    simp only [Nat.add_right_cancel_iff]
section
variable {P : Program} {ops ops' : Array Oper} {Q : Exit → Act → World → Prop}
/-- An order that the operations' bonds allow. -/
def VL (ops : Array Oper) : Nat → Array Bool → List Nat → Prop
  | 0, _, l => l = []
  | n + 1, listed, [] => Region.ready .any ops listed = []
  | n + 1, listed, i :: l => i ∈ Region.ready .any ops listed ∧ VL ops n (listed.setIfInBounds i true) l
theorem VL_wp : ∀ (n : Nat) (listed : Array Bool) (l : List Nat) (a : Act) (w : World), VL ops n listed l → wpAny P .any ops Q n listed a w → wpOps P ops Q l a w
  | 0, listed, l, a, w, h, k => by
    simp only [VL] at h
    subst h
    exact k.2
  | n + 1, listed, [], a, w, h, k => k.1 h
  | n + 1, listed, i :: l, a, w, h, k => by
    rw [wpOps_cons]
    exact wpOp_mono (fun a w hk => VL_wp n _ l a w h.2 hk) (k.2 i h.1)
theorem VL_lin : ∀ (n t : Nat) (listed : Array Bool), VL ops n listed (Region.linearise.go .any ops n t listed [])
  | 0, t, listed => by simp [Region.linearise.go, VL]
  | n + 1, t, listed => by
    simp only [Region.linearise.go]
    change VL ops (n + 1) listed (match (Region.ready .any ops listed)[t % (Region.ready .any ops listed).length]? with
      | some i => Region.linearise.go .any ops n (t / (Region.ready .any ops listed).length) (listed.setIfInBounds i true) [i]
      | none => [].reverse)
    cases hi : (Region.ready .any ops listed)[t % (Region.ready .any ops listed).length]? with
    | none =>
      show Region.ready .any ops listed = []
      cases hr : Region.ready .any ops listed with
      | nil => rfl
      | cons x xs =>
        rw [hr] at hi
        have hlt : t % (x :: xs).length < (x :: xs).length := Nat.mod_lt _ (by simp)
        simp at hi
        simp at hlt
        omega
    | some i =>
      simp only []
      rw [linearise_go_acc, List.reverse_singleton, List.singleton_append]
      exact ⟨List.mem_of_getElem? hi, VL_lin n _ _⟩
/-- The same operations, with one bond more: y waits for x. -/
structure Ext (ops ops' : Array Oper) (y x : Nat) : Prop where
  size : ops'.size = ops.size
  get : ∀ i, ops'[i]? = if i = y then (ops[i]?).map (fun o => { o with after := o.after.push (edgeTo x) }) else ops[i]?
theorem ext_addAt (l : List Oper) (y x : Nat) : Ext l.toArray (addAt l y x).toArray y x :=
  ⟨by simp [addAt_len], fun i => by simpa using addAt_get l y x i⟩
theorem mem_ready {ops : Array Oper} {listed : Array Bool} {i : Nat} : i ∈ Region.ready .any ops listed ↔ listed.getD i true = false ∧ ∃ o, ops[i]? = some o ∧ ∀ e ∈ o.after, Region.binds .any e = true → listed.getD e.on false = true := by
  unfold Region.ready
  simp only [List.mem_filter, List.mem_range, Bool.and_eq_true, Bool.not_eq_true']
  constructor
  · rintro ⟨hs, h1, h2⟩
    refine ⟨h1, ?_⟩
    cases ho : ops[i]? with
    | none => simp [ho] at h2
    | some o =>
      refine ⟨o, rfl, fun e he hb => ?_⟩
      simp only [ho, Option.map_some, Option.getD_some, Array.all_eq_true'] at h2
      have := h2 e he
      simpa [hb] using this
  · rintro ⟨h1, o, ho, h2⟩
    refine ⟨?_, h1, ?_⟩
    · exact (Array.getElem?_eq_some_iff.1 ho).1
    · simp only [ho, Option.map_some, Option.getD_some, Array.all_eq_true']
      intro e he
      cases hb : Region.binds .any e with
      | false => rfl
      | true => simpa using h2 e he hb
variable {x y : Nat}
theorem Ext.ready (h : Ext ops ops' y x) {listed : Array Bool} {i : Nat} : i ∈ Region.ready .any ops' listed ↔ i ∈ Region.ready .any ops listed ∧ (i = y → listed.getD x false = true) := by
  rw [mem_ready, mem_ready, h.get]
  by_cases hi : i = y
  · simp only [hi, if_true, true_implies]
    constructor
    · rintro ⟨h1, o, ho, h2⟩
      rw [Option.map_eq_some_iff] at ho
      obtain ⟨o1, ho1, rfl⟩ := ho
      refine ⟨⟨h1, o1, ho1, fun e he hb => h2 e (Array.mem_push.2 (.inl he)) hb⟩, h2 (edgeTo x) (Array.mem_push.2 (.inr rfl)) rfl⟩
    · rintro ⟨⟨h1, o, ho, h2⟩, h3⟩
      refine ⟨h1, _, by rw [ho]; rfl, fun e he hb => ?_⟩
      rcases Array.mem_push.1 he with he | rfl
      · exact h2 e he hb
      · exact h3
  · simp [hi]
theorem getD_set_true {listed : Array Bool} {i x : Nat} (h : listed.getD x false = true) : (listed.setIfInBounds i true).getD x false = true := by
  rw [Array.getD_eq_getD_getElem?] at h ⊢
  rw [Array.getElem?_setIfInBounds]
  split
  · split <;> simp_all
  · exact h
theorem ready_nil {listed : Array Bool} (h : ∀ i, i ∉ Region.ready .any ops listed) : Region.ready .any ops listed = [] := List.eq_nil_iff_forall_not_mem.2 h
theorem VL_done (h : Ext ops ops' y x) : ∀ (n : Nat) (listed : Array Bool) (l : List Nat), listed.getD x false = true → VL ops n listed l → VL ops' n listed l
  | 0, _, _, _, k => k
  | n + 1, listed, [], hx, k => ready_nil fun i hi => by
    have := (h.ready.1 hi).1
    rw [show Region.ready .any ops listed = [] from k] at this
    cases this
  | n + 1, listed, i :: l, hx, k => ⟨h.ready.2 ⟨k.1, fun _ => hx⟩, VL_done h n _ l (getD_set_true hx) k.2⟩
/-- Every order keeps one of the two bonds. -/
theorem VL_split {ops1 ops2 : Array Oper} (h1 : Ext ops ops1 y x) (h2 : Ext ops ops2 x y) (hxy : x ≠ y) : ∀ (n : Nat) (listed : Array Bool) (l : List Nat), VL ops n listed l → VL ops1 n listed l ∨ VL ops2 n listed l := by
  intro n
  induction n with
  | zero => intro listed l k; exact .inl k
  | succ n ih =>
    intro listed l k
    cases l with
    | nil => exact .inl (ready_nil fun i hi => by
        have := (h1.ready.1 hi).1
        rw [show Region.ready .any ops listed = [] from k] at this
        cases this)
    | cons i l =>
      obtain ⟨hi, k⟩ := k
      have hlt : i < listed.size := by
        have := (mem_ready.1 hi).1
        rw [Array.getD_eq_getD_getElem?] at this
        by_cases hl : i < listed.size
        · exact hl
        · rw [Array.getElem?_eq_none (by omega)] at this; simp at this
      have hset : (listed.setIfInBounds i true).getD i false = true := by
        rw [Array.getD_eq_getD_getElem?, Array.getElem?_setIfInBounds]; simp [hlt]
      by_cases hx : i = x
      · subst hx
        exact .inl ⟨h1.ready.2 ⟨hi, fun e => absurd e hxy⟩, VL_done h1 n _ l hset k⟩
      · by_cases hy : i = y
        · subst hy
          exact .inr ⟨h2.ready.2 ⟨hi, fun e => absurd e hx⟩, VL_done h2 n _ l hset k⟩
        · rcases ih _ l k with k | k
          · exact .inl ⟨h1.ready.2 ⟨hi, fun e => absurd e hy⟩, k⟩
          · exact .inr ⟨h2.ready.2 ⟨hi, fun e => absurd e hx⟩, k⟩
theorem Ext.yielded (h : Ext ops ops' y x) (tmps : Array Value) (j : Nat) : yielded ops' tmps j = yielded ops tmps j := by
  have e : (ops'[j]?).bind (·.dst) = (ops[j]?).bind (·.dst) := by
    rw [h.get]
    by_cases hj : j = y
    · rw [if_pos hj]; cases ops[j]? <;> rfl
    · rw [if_neg hj]
  unfold Go.yielded
  rw [e]
theorem Ext.wpOps (h : Ext ops ops' y x) : ∀ (l : List Nat) (a : Act) (w : World), wpOps P ops' Q l a w → wpOps P ops Q l a w
  | [], a, w, k => k
  | i :: l, a, w, k => by
    rw [wpOps_cons] at k ⊢
    unfold wpOp at k ⊢
    have hy : ∀ tmps, Go.yielded ops' tmps = Go.yielded ops tmps := fun tmps => funext fun j => h.yielded tmps j
    rw [hy, h.get] at k
    cases ho : ops[i]? with
    | none => rw [ho] at k; simp only [Option.map_none, ite_self] at k; exact h.wpOps l a w k
    | some o =>
      rw [ho] at k
      by_cases hi : i = y
      · simp only [hi, if_true, Option.map_some] at k
        simp only
        have e1 : Region.wanted { o with after := o.after.push (edgeTo x) } (Go.yielded ops a.tmps) = Region.wanted o (Go.yielded ops a.tmps) := rfl
        rw [e1] at k
        split
        · rename_i hw
          rw [if_pos hw] at k
          rcases k with k | k
          · exact .inl (Oper.wp_mono (fun a w hk => h.wpOps l a w hk) (show o.wp P a w _ Q from k))
          · exact .inr k
        · rename_i hw
          rw [if_neg hw] at k
          exact h.wpOps l _ w k
      · simp only [hi, if_false] at k
        simp only
        split
        · rename_i hw
          rw [if_pos hw] at k
          exact k.imp (Oper.wp_mono (fun a w hk => h.wpOps l a w hk)) id
        · rename_i hw
          rw [if_neg hw] at k
          exact h.wpOps l _ w k
end
section
variable {P : Program} {ti : Ti} {G : Nat → List D} {N : Nat} {σ : St} {K : KD}
/-- A drawn region, shown for every order that is allowed. -/
def HV (P : Program) (ti : Ti) (G : Nat → List D) (N : Nat) (l : List Oper) (K : KD) (σ : St) : Prop :=
  ∀ E0 r0 w0 E a w, Rel G N E σ a w → Step E0 r0 w0 E σ.r w → ∀ s, VL l.toArray l.toArray.size (Array.replicate l.toArray.size false) s → wpOps P l.toArray (lift G N E0 r0 w0 (app P ti G N K)) s a { w with drawn := w.drawn + 1 }
theorem HC_of_HV (hm : P.follows .mixedOrders = true) {id : Nat} {l : List Oper} (h : HV P ti G N l K σ) : HC P ti G N (.region id l.toArray true) K σ := by
  intro E0 r0 w0 E a w hR hS
  refine wp_region_draw fun t => ?_
  simp only [Region.schedule, hm, Bool.true_or, if_true]
  exact h E0 r0 w0 E a w hR hS _ (VL_lin _ t _)
theorem HV_split (x y : Nat) (hxy : x ≠ y) {l : List Oper} (h1 : HV P ti G N (addAt l y x) K σ) (h2 : HV P ti G N (addAt l x y) K σ) : HV P ti G N l K σ := by
  intro E0 r0 w0 E a w hR hS s hs
  have e1 := ext_addAt l y x
  have e2 := ext_addAt l x y
  rcases VL_split e1 e2 hxy _ _ s hs with k | k
  · refine e1.wpOps s a _ (h1 E0 r0 w0 E a w hR hS s ?_)
    rw [e1.size]; exact k
  · refine e2.wpOps s a _ (h2 E0 r0 w0 E a w hR hS s ?_)
    rw [e2.size]; exact k
theorem HV_order (kp : List Nat) (hti : TiOK P ti) {l : List Oper} (π : List Nat) (hok : planOK ti N l.toArray π kp = true) (hlen : π.length = l.length) (l' : List Oper) (hl : l' = opl l.toArray π) (h : EV P ti G N l.toArray l' (.draw π kp K) σ) : HV P ti G N l K σ := by
  intro E0 r0 w0 E a w hR hS s hs
  refine VL_wp _ _ s a _ hs ?_
  have hrel : Rel G N E σ a w.drew := ⟨hR.size, fun i => (hR.slot i).step (step_drew E σ.r w), good_drew hR.good, hR.defers⟩
  obtain ⟨L, pl⟩ := plan_of hok
  have := ED_sound (K := K) hti pl hok l' 0 σ (Nat.zero_le _) (by rw [List.drop_zero]; exact hl) h E0 r0 w0 E a w.drew [] ⟨fun e he => (by simp at he), by simp, fun i hi => by simp at hi, fun e he => (by simp at he), trivial⟩ hrel (hS.trans (step_drew E σ.r w))
  have e1 : lstU l.toArray (([] : List Ent).map (·.1) ++ π.drop 0) = Array.replicate l.toArray.size false := by
    apply Array.ext
    · simp [lstU]
    · intro i h1 h2
      have hi : i < l.length := by simpa [lstU] using h1
      have := pl.all i (by simpa using hi)
      simp [lstU, this]
  rw [e1] at this
  have e2 : l.toArray.size = π.length := by simp [hlen]
  simp only [List.length_nil, Nat.zero_add, Nat.sub_zero] at this
  rw [← e2] at this
  refine wpAny_mono' (fun e a w h => ?_) _ _ _ _ this
  cases e <;> first | exact h | exact h.elim
end
end Go.Proofs.YtdbicadncccpoaaDoor
/- The frame of these proofs, part ZI: maps: made, asked, laid into. -/
set_option linter.unusedVariables false
set_option linter.unusedSimpArgs false
namespace Go.Proofs.YtdbicadncccpoaaDoor
open Go
section
variable {G : Nat → List D} {E : Env} {r : Rs} {w : World}
def World.setMap (w : World) (g : Nat) (es : Array MapEntry) (c : Nat) : World := { w with heap := w.heap.setIfInBounds g (.map es c) }
theorem setMap_other (w : World) (g : Nat) (es : Array MapEntry) (c : Nat) {b : Nat} (h : b ≠ g) : (World.setMap w g es c).heap[b]? = w.heap[b]? := by
  simp [World.setMap, Array.getElem?_setIfInBounds, Ne.symm h]
theorem setMap_lasts (hG : Good G E r w) {i g : Nat} {l : List (D × D)} (hi : r[i]? = some (some (.map l))) (hb : E.bl i = some g) (es : Array MapEntry) (c : Nat) : Lasts E.T w E.T (World.setMap w g es c) := by
  obtain ⟨b, hb', hT, _⟩ := hG.map i l hi
  rw [hb] at hb'; injection hb' with hb'; subst hb'
  refine ⟨fun _ => Nat.le_refl _, fun a ha => World.cell?_of_block (setMap_other w g es c fun e => ?_)⟩
  rw [e, hT] at ha; omega
theorem step_setMap (hG : Good G E r w) {i g : Nat} {l l' : List (D × D)} (hi : r[i]? = some (some (.map l))) (hb : E.bl i = some g) (es : Array MapEntry) (c : Nat) : Step E r w E (r.set i (some (.map l'))) (World.setMap w g es c) := by
  have hown : Own E r g := ⟨i, _, hi, hb⟩
  obtain ⟨b, hb', hT, es0, c0, hh, _⟩ := hG.map i l hi
  rw [hb] at hb'; injection hb' with hb'; subst hb'
  refine ⟨rfl, rfl, rfl, by simp [World.setMap], fun b hlt hn => ?_, fun b ho => ?_, setMap_lasts hG hi hb es c, fun b s hs => ?_, ?_⟩
  · exact ⟨setMap_other w g es c (fun e => hn (e ▸ hown)), rfl⟩
  · obtain ⟨j, y, hj, hbj⟩ := ho
    rcases getElem?_set_cases hj with ⟨rfl, _⟩ | ⟨_, hj⟩
    · exact .inl ⟨j, _, hi, hbj⟩
    · exact .inl ⟨j, y, hj, hbj⟩
  · by_cases hbg : b = g
    · subst hbg
      unfold World.shape? at hs
      rw [hh] at hs
      simp at hs
    · unfold World.shape? at hs ⊢
      rw [setMap_other w g es c hbg]
      exact hs
  · refine ⟨by simp, fun j k' _ hj => ?_, fun j l' _ hj => ?_, fun j l' _ hj => ?_⟩
    · rcases getElem?_set_cases hj with ⟨rfl, hy⟩ | ⟨_, hj⟩
      · injection hy with hy; cases hy
      · exact ⟨k', hj, Nat.le_refl _, fun _ => rfl⟩
    · rcases getElem?_set_cases hj with ⟨rfl, hy⟩ | ⟨_, hj⟩
      · injection hy with hy; cases hy
      · exact ⟨l', hj, rfl, rfl⟩
    · rcases getElem?_set_cases hj with ⟨rfl, hy⟩ | ⟨_, hj⟩
      · exact ⟨l, hi, rfl⟩
      · exact ⟨l', hj, rfl⟩
theorem good_setMap (hG : Good G E r w) {i g : Nat} {l l' : List (D × D)} (hi : r[i]? = some (some (.map l))) (hb : E.bl i = some g) (es : Array MapEntry) (c : Nat) (hm : MapIs E (World.setMap w g es c) l' g) : Good G E (r.set i (some (.map l'))) (World.setMap w g es c) := by
  have hs : Step E r w E (r.set i (some (.map l'))) (World.setMap w g es c) := step_setMap hG hi hb es c
  have hne : ∀ j y b, j ≠ i → r[j]? = some (some y) → E.bl j = some b → b ≠ g := fun j y b hji hj hbj e => hji (hG.one j i y _ g hj hi (e ▸ hbj) hb)
  have hT : E.T g = 0 := by
    obtain ⟨b, hb', hT, _⟩ := hG.map i l hi
    rw [hb] at hb'; injection hb' with hb'; subst hb'
    exact hT
  refine ⟨fun j k b hj hbj => ?_, fun j l hj => ?_, fun j l2 hj => ?_, fun j k y z b hj hk hbj hbk => ?_, fun b hbs => ?_, fun gl => RM.lasts hs.lasts _ _ (hG.glob gl)⟩
  · rcases getElem?_set_cases hj with ⟨rfl, hy⟩ | ⟨hji, hj⟩
    · injection hy with hy; cases hy
    · have hbg := hne j _ b hji hj hbj
      obtain ⟨h1, cur, e, h2, h3⟩ := hG.tok j k b hj hbj
      exact ⟨h1, cur, e, (setMap_other w g es c hbg).trans h2, h3⟩
  · rcases getElem?_set_cases hj with ⟨rfl, hy⟩ | ⟨hji, hj⟩
    · injection hy with hy; cases hy
    · obtain ⟨b, hbj, h1, vs, e, h2, h3, h4⟩ := hG.obj j l hj
      have hbg := hne j _ b hji hj hbj
      exact ⟨b, hbj, h1, vs, e, (setMap_other w g es c hbg).trans h2, h3.step hs, h4⟩
  · rcases getElem?_set_cases hj with ⟨rfl, hy⟩ | ⟨hji, hj⟩
    · injection hy with hy
      injection hy with hy
      subst hy
      exact ⟨g, hb, hT, hm⟩
    · obtain ⟨b, hbj, h1, h2⟩ := hG.map j l2 hj
      have hbg := hne j _ b hji hj hbj
      exact ⟨b, hbj, h1, h2.lasts (T' := E.T) (setMap_other w g es c hbg) hs.lasts⟩
  · have h1 : ∃ y', r[j]? = some (some y') := by
      rcases getElem?_set_cases hj with ⟨rfl, _⟩ | ⟨_, hj⟩
      · exact ⟨_, hi⟩
      · exact ⟨_, hj⟩
    have h2 : ∃ y', r[k]? = some (some y') := by
      rcases getElem?_set_cases hk with ⟨rfl, _⟩ | ⟨_, hk⟩
      · exact ⟨_, hi⟩
      · exact ⟨_, hk⟩
    obtain ⟨y', hy'⟩ := h1
    obtain ⟨z', hz'⟩ := h2
    exact hG.one j k y' z' b hy' hz' hbj hbk
  · have hlt : g < w.heap.size := hG.lt hi hb
    exact hG.fresh b (by simpa [World.setMap] using hbs)
end
/-! ### Keys -/
def cellsD : D → List D
  | .agg xs => xs
  | d => [d]
def formD (g : Bool) : D → Bool
  | .agg _ => g
  | .c _ => !g
  | .sl _ _ _ => false
/-- Are two keys the same? -/
def keyEq (ks : List CK) (g : Bool) (k a : D) : Option Bool := if (formD g k && formD g a) = true then eqD ks (cellsD k) (cellsD a) else none
def findI (ks : List CK) (g : Bool) (k : D) : List (D × D) → Nat → Option (Option (Nat × D))
  | [], _ => some none
  | (a, v) :: l, i => match keyEq ks g k a with
    | some true => some (some (i, v))
    | some false => findI ks g k l (i + 1)
    | none => none
def putM (k v : D) (l : List (D × D)) : Option (Nat × D) → List (D × D)
  | some (j, _) => l.set j (k, v)
  | none => l ++ [(k, v)]
section
variable {P : Program} {ti : Ti} {w : World}
theorem isV_form {T : Nat → Nat} {i : TI} {d : D} {x : Value} (h : RD T w d x) (hf : formD (isAggD i.u) d = true) : ∃ vs, IsV i.u x vs ∧ RL T w (cellsD d) vs := by
  cases d with
  | c y =>
    have hg : isAggD i.u = false := by simpa [formD] using hf
    simp only [RD] at h
    refine ⟨[x], by simp [IsV, hg], ?_⟩
    simp only [cellsD, RL, RD]
    exact ⟨x, [], rfl, by rw [h.1]; exact h.2, ⟨h.1, h.2⟩, rfl⟩
  | sl a b c => simp [formD] at hf
  | agg xs =>
    have hg : isAggD i.u = true := by simpa [formD] using hf
    simp only [RD] at h
    obtain ⟨vs, rfl, h⟩ := h
    exact ⟨vs.toList, by simp [IsV, hg], h⟩
theorem bytes_beq (a b : ByteArray) : (a == b) = decide (a = b) := by
  rw [Bool.eq_iff_iff, decide_eq_true_eq]
  constructor
  · intro h
    have h2 : (a.data == b.data) = true := h
    exact ByteArray.ext (by simpa using h2)
  · rintro rfl
    show (a.data == a.data) = true
    simp
theorem eqV_true : ∀ {ks : List CK} {xs ys : List Value}, eqV ks xs ys = some true → xs = ys
  | [], [], [], _ => rfl
  | k :: ks, x :: xs, y :: ys, h => by
    simp only [eqV] at h
    obtain ⟨b1, b2, h1, h2, h3⟩ := and2_some h
    have h3' : b1 = true ∧ b2 = true := by simpa using h3.symm
    obtain ⟨rfl, rfl⟩ := h3'
    rw [eqV_true h2]
    congr 1
    cases k
    · obtain ⟨k, a, b, rfl, rfl, hh⟩ := ckV_int h1
      have : a = b := by simpa using hh.symm
      rw [this]
    · obtain ⟨a, b, rfl, rfl, hh⟩ := ckV_bool h1
      have : a = b := by simpa using hh.symm
      rw [this]
    · obtain ⟨a, b, rfl, rfl, hh⟩ := ckV_str h1
      have : a = b := by simpa using hh.symm
      rw [this]
  | [], [], _ :: _, h => by simp [eqV] at h
  | [], _ :: _, _, h => by simp [eqV] at h
  | _ :: _, [], _, h => by simp [eqV] at h
  | _ :: _, _ :: _, [], h => by simp [eqV] at h
theorem isV_inj {u : TypeDesc} {x y : Value} {vs : List Value} (h : IsV u x vs) (k : IsV u y vs) : x = y := by
  unfold IsV at h k
  split at h
  · rename_i hg; rw [if_pos hg] at k; rw [h, k]
  · rename_i hg; rw [if_neg hg] at k; rw [h] at k; simpa using k
theorem sameBits_one {k : CK} {v u : Value} {b : Bool} (h : ckV k v u = some b) (n : Nat) : Instr.sameBits n v v = true := by
  cases k
  · obtain ⟨k, a, b, rfl, rfl, h⟩ := ckV_int h; cases n <;> simp [Instr.sameBits]
  · obtain ⟨a, b, rfl, rfl, h⟩ := ckV_bool h; cases n <;> simp [Instr.sameBits]
  · obtain ⟨a, b, rfl, rfl, h⟩ := ckV_str h; cases n <;> simp [Instr.sameBits, bytes_beq]
theorem sameBits_all : ∀ {ks : List CK} {xs ys : List Value} {b : Bool}, eqV ks xs ys = some b → ∀ n, ∀ x ∈ xs, Instr.sameBits n x x = true
  | [], [], _, _, _, _, x, hx => by cases hx
  | k :: ks, x :: xs, y :: ys, b, h, n, z, hz => by
    simp only [eqV] at h
    obtain ⟨b1, b2, h1, h2, h3⟩ := and2_some h
    rcases List.mem_cons.1 hz with rfl | hz
    · exact sameBits_one h1 n
    · exact sameBits_all h2 n z hz
  | _ :: _, [], _, _, _, _, x, hx => by cases hx
  | _ :: _, _ :: _, [], _, h, _, _, _ => by simp [eqV] at h
  | [], _ :: _, _, _, h, _, _, _ => by simp [eqV] at h
theorem sameBits_self {u : TypeDesc} {x : Value} {vs us : List Value} {ks : List CK} {b : Bool} (hx : IsV u x vs) (h : eqV ks vs us = some b) (n : Nat) : Instr.sameBits (n + 1) x x = true := by
  have ha := sameBits_all h
  unfold IsV at hx
  split at hx
  · subst hx
    simp only [Instr.sameBits, BEq.rfl, Bool.true_and, List.all_eq_true]
    intro p hp
    have : p.1 = p.2 ∧ p.1 ∈ vs := by
      simp only [List.zip] at hp
      clear h ha
      generalize hL : vs.toArray.toList = L at hp
      have hL' : L = vs := by rw [← hL]
      subst hL'
      clear hL
      induction L with
      | nil => simp at hp
      | cons a L ih =>
        simp only [List.zipWith_cons_cons, List.mem_cons] at hp
        rcases hp with rfl | hp
        · simp
        · obtain ⟨h1, h2⟩ := ih hp; exact ⟨h1, by simp [h2]⟩
    rw [← this.1]
    exact ha n _ this.2
  · exact ha (n + 1) x (by rw [hx]; simp)
theorem items_check (hti : TiOK P ti) {em : Bool} {d : Nat} {e : TypeId} {ie : TI} (hie : ti e = some ie) {kse : List CK} (hl : kse.length = ie.size) (h1 : isAggD ie.u = false → ie.size = 1)
    (IH : ∀ (x : Value) (vs us : List Value) (b : Bool), IsV ie.u x vs → eqV kse vs us = some b → (Instr.checkKey em d e x).run P w = .ok () w) (xs ys : Array Value) :
    ∀ (n s : Nat) (b : Bool), eqV (List.replicate n kse).flatten (xs.toList.drop (s * ie.size)) (ys.toList.drop (s * ie.size)) = some b →
      (forIn (List.range' s n) PUnit.unit (fun i (_ : PUnit) => (do Instr.checkKey em d e (← part e xs (i * (← sizeOf e))); pure (ForInStep.yield PUnit.unit) : Sem (ForInStep PUnit)))).run P w = .ok PUnit.unit w
  | 0, s, b, h => by simp
  | n + 1, s, b, h => by
    rw [List.replicate_succ, List.flatten_cons] at h
    obtain ⟨b1, b2, h2, h3, rfl⟩ := eqV_app h
    have hlen := eqV_len h2
    rw [hl] at h2 h3 hlen
    obtain ⟨z, hz, hzv⟩ := part_isV (P := P) (w := w) hti hie (vs := xs) (off := s * ie.size) hlen.1 h1
    have hr := IH z _ _ b1 hzv h2
    rw [List.drop_drop, List.drop_drop] at h3
    have hs : s * ie.size + ie.size = (s + 1) * ie.size := (Nat.succ_mul s ie.size).symm
    rw [hs] at h3
    have hrest := items_check hti hie hl h1 IH xs ys n (s + 1) b2 h3
    have hsz := ti_size (P := P) hti hie w
    rw [List.range'_succ]
    simp only [List.forIn_cons, Sem.run_bind, hsz, Result.andThen_ok, hz, hr, Sem.run_pure]
    simpa using hrest
theorem fields_check (hti : TiOK P ti) {em : Bool} {m d : Nat} (IH : ∀ (t : TypeId) (i : TI) (ks : List CK), ti t = some i → flatT ti m t = some ks → ∀ (x : Value) (vs us : List Value) (b : Bool), IsV i.u x vs → eqV ks vs us = some b → (Instr.checkKey em d t x).run P w = .ok () w) (xs ys : Array Value) :
    ∀ (fs : List Field) (off : Nat) (ks : List CK) (b : Bool), flatFs (flatT ti m) off fs = some ks → eqV ks (xs.toList.drop off) (ys.toList.drop off) = some b →
      (forIn fs PUnit.unit (fun f (_ : PUnit) => (if f.name ≠ "_" then (do let z ← part f.type xs f.offset; Instr.checkKey em d f.type z; pure (ForInStep.yield PUnit.unit)) else pure (ForInStep.yield PUnit.unit) : Sem (ForInStep PUnit)))).run P w = .ok PUnit.unit w
  | [], off, ks, b, hf, h => by simp
  | f :: fs, off, ks, b, hf, h => by
    simp only [flatFs] at hf
    split at hf
    · rename_i hn
      obtain ⟨hn, rfl⟩ := hn
      split at hf
      · rename_i k1 hk1
        simp only [Option.map_eq_some_iff] at hf
        obtain ⟨k2, hk2, rfl⟩ := hf
        obtain ⟨b1, b2, h2, h3, rfl⟩ := eqV_app h
        obtain ⟨ie, hie⟩ : ∃ ie, ti f.type = some ie := by
          cases m with
          | zero => simp [flatT] at hk1
          | succ m =>
            simp only [flatT] at hk1
            split at hk1
            · exact ⟨_, ‹_›⟩
            · cases hk1
        obtain ⟨hl, h1⟩ := flat_one hie hk1
        have hlen := eqV_len h2
        rw [hl] at h2 h3 hlen
        obtain ⟨z, hz, hzv⟩ := part_isV (P := P) (w := w) hti hie (vs := xs) (off := f.offset) hlen.1 h1
        have hr := IH f.type ie k1 hie hk1 z _ _ b1 hzv h2
        rw [List.drop_drop, List.drop_drop] at h3
        rw [hl] at hk2
        have hrest := fields_check hti IH xs ys fs (f.offset + ie.size) k2 b2 hk2 h3
        simp only [List.forIn_cons, Sem.run_bind, hn, ne_eq, not_false_eq_true, if_true, Result.andThen_ok, hz, hr, Sem.run_pure]
        simpa using hrest
      · cases hf
    · cases hf
theorem check_flat (hti : TiOK P ti) (em : Bool) : ∀ (m : Nat) (d : Nat) (t : TypeId) (i : TI) (ks : List CK), ti t = some i → flatT ti m t = some ks → ∀ (x : Value) (vs us : List Value) (b : Bool), IsV i.u x vs → eqV ks vs us = some b → (Instr.checkKey em (d + m) t x).run P w = .ok () w
  | 0, d, t, i, ks, hi, h, _, _, _, _, _, _ => by simp [flatT] at h
  | m + 1, d, t, i, ks, hi, h, x, vs, us, b, hx, hb => by
    have hu := ti_u (P := P) hti hi
    simp only [flatT, hi] at h
    rw [show d + (m + 1) = (d + m) + 1 from rfl]
    split at h
    · rename_i hu2
      rw [hu2] at hu
      simp [Instr.checkKey, run_underlying hu]
    · rename_i k hu2
      rw [hu2] at hu
      simp [Instr.checkKey, run_underlying hu]
    · rename_i hu2
      rw [hu2] at hu
      simp [Instr.checkKey, run_underlying hu]
    · rename_i n e hu2
      obtain ⟨h1, _⟩ := flatI_some h
      simp only [Option.map_eq_some_iff] at h1
      obtain ⟨kse, hk, rfl⟩ := h1
      simp only [IsV, hu2, isAggD, if_true] at hx
      subst hx
      obtain ⟨ie, hie⟩ : ∃ ie, ti e = some ie := by
        cases m with
        | zero => simp [flatT] at hk
        | succ m =>
          simp only [flatT] at hk
          split at hk
          · exact ⟨_, ‹_›⟩
          · cases hk
      obtain ⟨hl, h1⟩ := flat_one hie hk
      rw [hu2] at hu
      rw [Instr.checkKey]
      simp only [Sem.run_bind, run_underlying hu, Result.andThen_ok]
      simp only [Std.Legacy.Range.forIn_eq_forIn_range', Std.Legacy.Range.size, Nat.sub_zero, Nat.add_one_sub_one, Nat.div_one]
      rw [items_check hti hie hl h1 (fun x vs us b hx hb => check_flat hti em m d e ie kse hie hk x vs us b hx hb) vs.toArray us.toArray n 0 b (by simpa using hb)]
      rfl
    · rename_i fs hu2
      obtain ⟨h1, _⟩ := flatI_some h
      simp only [IsV, hu2, isAggD, if_true] at hx
      subst hx
      rw [hu2] at hu
      rw [Instr.checkKey]
      simp only [Sem.run_bind, run_underlying hu, Result.andThen_ok]
      rw [← Array.forIn_toList]
      rw [fields_check hti (fun t i ks hi hk x vs us b hx hb => check_flat hti em m d t i ks hi hk x vs us b hx hb) vs.toArray us.toArray fs.toList 0 ks b h1 (by simpa using hb)]
      rfl
    · cases h
/-- What is found. -/
def FoundAs (T : Nat → Nat) (w : World) (x : Value) (es : List MapEntry) (i : Nat) : Option (Nat × D) → Option (Nat × Value) → Prop
  | none, a => a = none
  | some (j, v), a => ∃ q e, j = i + q ∧ es[q]? = some e ∧ a = some (j, e.val) ∧ RD T w v e.val ∧ e.key = x
theorem FoundAs.succ {T : Nat → Nat} {x : Value} {e0 : MapEntry} {es : List MapEntry} {i : Nat} {o : Option (Nat × D)} {a : Option (Nat × Value)} (h : FoundAs T w x es (i + 1) o a) : FoundAs T w x (e0 :: es) i o a := by
  cases o with
  | none => exact h
  | some p =>
    obtain ⟨q, e, h1, h2, h3, h4⟩ := h
    exact ⟨q + 1, e, by omega, h2, h3, h4⟩
theorem findAsking_run (hti : TiOK P ti) {T : Nat → Nat} {kt : TypeId} {i : TI} {ks : List CK} (hi : ti kt = some i) (hk : tF ti kt = some ks) {k : D} {x : Value} (hx : RD T w k x) :
    ∀ (l : List (D × D)) (es : List MapEntry) (n : Nat) (o : Option (Nat × D)), es.length = l.length → (∀ (j : Nat) a d, l[j]? = some (a, d) → ∃ e, es[j]? = some e ∧ RD T w a e.key ∧ RD T w d e.val) → findI ks (isAggD i.u) k l n = some o →
      ∃ a, (Instr.findAsking kt x es n).run P w = .ok a w ∧ FoundAs T w x es n o a
  | [], [], n, o, _, _, h => by
    simp only [findI] at h; injection h with h; subst h
    exact ⟨none, by simp [Instr.findAsking], rfl⟩
  | [], _ :: _, n, o, hl, _, _ => by cases hl
  | _ :: _, [], n, o, hl, _, _ => by cases hl
  | (a, v) :: l, e :: es, n, o, hl, hm, h => by
    obtain ⟨e', he, hka, hv⟩ := hm 0 a v rfl
    have he' : e = e' := by simpa using he
    subst he'
    simp only [findI] at h
    have hrun : ∀ b, keyEq ks (isAggD i.u) k a = some b → (Op.equal kt x e.key).run P w = .ok b w ∧ (b = true → e.key = x) := fun b hb => by
      unfold keyEq at hb
      split at hb
      · rename_i hf
        rw [Bool.and_eq_true] at hf
        obtain ⟨vs, h1, h2⟩ := isV_form hx hf.1
        obtain ⟨us, h3, h4⟩ := isV_form hka hf.2
        have h5 := eqD_sound h2 h4 hb
        refine ⟨eq_flat hti 8 9992 kt i ks hi hk x e.key vs us b w h1 h3 h5, fun hb => ?_⟩
        subst hb
        have := eqV_true h5
        subst this
        exact isV_inj h3 h1
      · cases hb
    cases hq : keyEq ks (isAggD i.u) k a with
    | none => rw [hq] at h; cases h
    | some b =>
      rw [hq] at h
      have hr := hrun b hq
      cases b with
      | true =>
        simp only at h
        injection h with h; subst h
        exact ⟨some (n, e.val), by simp [Instr.findAsking, hr.1], 0, e, by simp, rfl, rfl, hv, hr.2 rfl⟩
      | false =>
        simp only at h
        obtain ⟨a2, h1, h2⟩ := findAsking_run hti hi hk hx l es (n + 1) o (by simpa using hl) (fun j a d hj => by simpa using hm (j + 1) a d (by simpa using hj)) h
        exact ⟨a2, by simp [Instr.findAsking, hr.1, h1], h2.succ⟩
theorem findNow_run {T : Nat → Nat} {i : TI} {ck : CK} (hd : ∀ v u b, ckV ck v u = some b → Instr.sameNow i.u v u = some b) (hg : isAggD i.u = false) {k : D} {x : Value} (hx : RD T w k x) :
    ∀ (l : List (D × D)) (es : List MapEntry) (n : Nat) (o : Option (Nat × D)), es.length = l.length → (∀ (j : Nat) a d, l[j]? = some (a, d) → ∃ e, es[j]? = some e ∧ RD T w a e.key ∧ RD T w d e.val) → findI [ck] (isAggD i.u) k l n = some o →
      ∃ a, Instr.findNow i.u x es n = some a ∧ FoundAs T w x es n o a
  | [], [], n, o, _, _, h => by
    simp only [findI] at h; injection h with h; subst h
    exact ⟨none, by simp [Instr.findNow], rfl⟩
  | [], _ :: _, n, o, hl, _, _ => by cases hl
  | _ :: _, [], n, o, hl, _, _ => by cases hl
  | (a, v) :: l, e :: es, n, o, hl, hm, h => by
    obtain ⟨e', he, hka, hv⟩ := hm 0 a v rfl
    have he' : e = e' := by simpa using he
    subst he'
    simp only [findI] at h
    have hrun : ∀ b, keyEq [ck] (isAggD i.u) k a = some b → Instr.sameNow i.u x e.key = some b ∧ (b = true → e.key = x) := fun b hb => by
      unfold keyEq at hb
      split at hb
      · rename_i hf
        rw [Bool.and_eq_true] at hf
        obtain ⟨vs, h1, h2⟩ := isV_form hx hf.1
        obtain ⟨us, h3, h4⟩ := isV_form hka hf.2
        have := eqD_sound h2 h4 hb
        have hinj : b = true → e.key = x := fun hb => by
          subst hb
          have := eqV_true this
          subst this
          exact isV_inj h3 h1
        refine ⟨?_, hinj⟩
        simp only [IsV, hg, Bool.false_eq_true, if_false] at h1 h3
        subst h1; subst h3
        simp only [eqV] at this
        obtain ⟨b1, b2, k1, k2, rfl⟩ := and2_some this
        injection k2 with k2; subst k2
        rw [Bool.and_true]
        exact hd _ _ _ k1
      · cases hb
    cases hq : keyEq [ck] (isAggD i.u) k a with
    | none => rw [hq] at h; cases h
    | some b =>
      rw [hq] at h
      have hr := hrun b hq
      cases b with
      | true =>
        simp only at h
        injection h with h; subst h
        exact ⟨some (n, e.val), by simp [Instr.findNow, hr.1], 0, e, by simp, rfl, rfl, hv, hr.2 rfl⟩
      | false =>
        simp only at h
        obtain ⟨a2, h1, h2⟩ := findNow_run hd hg hx l es (n + 1) o (by simpa using hl) (fun j a d hj => by simpa using hm (j + 1) a d (by simpa using hj)) h
        exact ⟨a2, by simp [Instr.findNow, hr.1, h1], h2.succ⟩
theorem findKey_run (hti : TiOK P ti) {T : Nat → Nat} {kt : TypeId} {i : TI} {ks : List CK} (hi : ti kt = some i) (hk : tF ti kt = some ks) {k : D} {x : Value} (hx : RD T w k x) {l : List (D × D)} {es : List MapEntry} {o : Option (Nat × D)} (hl : es.length = l.length)
    (hm : ∀ (j : Nat) a d, l[j]? = some (a, d) → ∃ e, es[j]? = some e ∧ RD T w a e.key ∧ RD T w d e.val) (h : findI ks (isAggD i.u) k l 0 = some o) : ∃ a, (Instr.findKey kt x es).run P w = .ok a w ∧ FoundAs T w x es 0 o a := by
  have hu := ti_u (P := P) hti hi
  have asking : Instr.findNow i.u x es 0 = none → ∃ a, (Instr.findKey kt x es).run P w = .ok a w ∧ FoundAs T w x es 0 o a := fun hn => by
    obtain ⟨a, h1, h2⟩ := findAsking_run (P := P) hti hi hk hx l es 0 o hl hm h
    exact ⟨a, by simp [Instr.findKey, run_underlying hu, hn, h1], h2⟩
  have now : ∀ ck, ks = [ck] → (∀ v u b, ckV ck v u = some b → Instr.sameNow i.u v u = some b) → isAggD i.u = false → ∃ a, (Instr.findKey kt x es).run P w = .ok a w ∧ FoundAs T w x es 0 o a := fun ck hks hd hg => by
    subst hks
    obtain ⟨a, h1, h2⟩ := findNow_run hd hg hx l es 0 o hl hm h
    exact ⟨a, by simp [Instr.findKey, run_underlying hu, h1], h2⟩
  have agg : (∀ v u, Instr.sameNow i.u v u = none) → ∃ a, (Instr.findKey kt x es).run P w = .ok a w ∧ FoundAs T w x es 0 o a := fun hs => by
    cases es with
    | nil =>
      have : l = [] := List.eq_nil_of_length_eq_zero hl.symm
      subst this
      simp only [findI] at h; injection h with h; subst h
      exact ⟨none, by simp [Instr.findKey, run_underlying hu, Instr.findNow], rfl⟩
    | cons e es => exact asking (by simp [Instr.findNow, hs])
  unfold tF at hk
  simp only [flatT, hi] at hk
  split at hk
  · rename_i hu2
    obtain ⟨h1, _⟩ := flatI_some hk
    injection h1 with h1
    exact now .bool h1.symm (fun v u b hb => by obtain ⟨p, q, rfl, rfl, rfl⟩ := ckV_bool hb; rw [hu2]; simp [Instr.sameNow]; cases p <;> cases q <;> rfl) (by rw [hu2]; rfl)
  · rename_i q hu2
    obtain ⟨h1, _⟩ := flatI_some hk
    injection h1 with h1
    exact now .int h1.symm (fun v u b hb => by obtain ⟨k, p, q, rfl, rfl, rfl⟩ := ckV_int hb; rw [hu2]; simp [Instr.sameNow]; rfl) (by rw [hu2]; rfl)
  · rename_i hu2
    obtain ⟨h1, _⟩ := flatI_some hk
    injection h1 with h1
    exact now .str h1.symm (fun v u b hb => by obtain ⟨p, q, rfl, rfl, rfl⟩ := ckV_str hb; rw [hu2]; simp [Instr.sameNow, bytes_beq]) (by rw [hu2]; rfl)
  · rename_i hu2
    exact agg fun v u => by rw [hu2]; simp [Instr.sameNow]
  · rename_i hu2
    exact agg fun v u => by rw [hu2]; simp [Instr.sameNow]
  · cases hk
end
/-! ### The operations -/
section
variable {P : Program} {ti : Ti} {G : Nat → List D} {N : Nat} {ops : Array Oper} {M : KM} {σ : St}
/-- HO_sem, where an operation may tell nothing. -/
theorem HO_sem2 (hti : TiOK P ti) {o : Oper} {rest : List Oper} {ι : Type} (v : ι → AV) (r' : ι → Rs) (p : ι → Prop) (hg : gd ops σ o = some true) (hd : (o :: rest).all (dstOK N) = true) (he : isEff ti o = true)
    (hs : ∀ E w a, Rel G N E σ a w → ∃ i x w' E', p i ∧ ((execOp a.eval o).run P w = .ok (.value x) w' ∨ (execOp a.eval o).run P w = .ok .skip w' ∧ x = undef) ∧ RA E' (r' i) w' (v i) x ∧ Good G E' (r' i) w' ∧ Step E σ.r w E' (r' i) w' ∧ (kpFree M (o :: rest).length = true ∨ Keeps w w')) (hko : keepOp o.op = false)
    (hk : ∀ i, p i → EV P ti G N ops rest M (σ.putR o.dst (v i) (r' i))) : HO P ti G N ops (o :: rest) M σ := by
  simp only [List.all_cons, Bool.and_eq_true] at hd
  cases M with
  | plain K =>
    intro E0 r0 w0 E a w hR hS
    unfold wpList
    rw [if_pos (gd_sound hR hg)]
    obtain ⟨i, x, w', E', hp, hrun, hra, hgood, hst, _⟩ := hs E w a hR
    have hrel := hR.putO hst hgood hd.1 hra
    rw [putR_eq] at hrel
    have fin := HO_of_EV hti hd.2 (hk i hp) E0 r0 w0 E' _ w' hrel (hS.trans hst)
    left
    unfold Oper.wp
    rcases hrun with hrun | ⟨hrun, rfl⟩
    · rw [hrun, Oper.upon_value]; exact fin
    · rw [hrun, Oper.upon_skip]; exact fin
  | draw π kp K =>
    intro hok hl
    obtain ⟨L, pl⟩ := plan_of hok
    obtain ⟨i0, hd0, ho0, hrest, hk1⟩ := opl_cons pl hl
    refine DWp_step pl hd0 ho0 hk1 he fun E0 r0 w0 E b w hR hS a C heq hwq hC => ?_
    have hgd := gd_sound hR hg
    rw [hwq] at hgd
    rw [if_pos hgd]
    obtain ⟨i, x, w', E', hp, hrun, hra, hgood, hst, hkp⟩ := hs E w b hR
    have hrel := hR.putO hst hgood hd.1 hra
    rw [putR_eq] at hrel
    have fin := hC x w' E' _ hrel (hS.trans hst) (kp_keeps hd0 hko hkp) (ED_sound hti pl hok rest _ _ hk1 hrest (hk i hp))
    unfold Oper.wp
    rcases hrun with hrun | ⟨hrun, rfl⟩
    · rw [← heq, hrun, Oper.upon_value]; exact fin
    · rw [← heq, hrun, Oper.upon_skip]; exact fin
def tM (ti : Ti) (t : TypeId) : Option (TypeId × TypeId) := match ti t with
  | some ⟨.map k e, _, _, _⟩ => some (k, e)
  | _ => none
theorem tM_u (hti : TiOK P ti) {t k e : TypeId} (h : tM ti t = some (k, e)) : P.underlying t = some (.map k e) := by
  unfold tM at h
  split at h
  · rename_i hi
    injection h with h; injection h with h1 h2; subst h1; subst h2
    exact ti_u hti hi
  · cases h
theorem HO_makeMap (hti : TiOK P ti) {d : Option Tmp} {t ty : TypeId} {ps : String} {af : Array Edge} {g : Option (Nat × Bool)} {rest : List Oper} (hg : gd ops σ ⟨d, .makeMap t none, ty, ps, af, g⟩ = some true)
    (hd : ((⟨d, .makeMap t none, ty, ps, af, g⟩ : Oper) :: rest).all (dstOK N) = true)
    (hk : EV P ti G N ops rest M (σ.putR d (.mp σ.r.length) (σ.r ++ [some (.map [])]))) : HO P ti G N ops (⟨d, .makeMap t none, ty, ps, af, g⟩ :: rest) M σ := by
  refine HO_sem2 hti (fun _ : Unit => .mp σ.r.length) (fun _ => σ.r ++ [some (.map [])]) (fun _ => True) hg hd rfl (fun E w a hR => ?_) rfl fun _ _ => hk
  have hG := hR.good
  have hs := step_push hG (.map #[] 0) 0 (some (.map []))
  refine ⟨(), .map (some w.heap.size), w.alloc (.map #[] 0), ⟨updN E.T w.heap.size 0, updN E.bl σ.r.length (some w.heap.size)⟩, trivial, .inl (by simp [execOp, resolve, Instr.makeMap]), ?_, good_push hG (.map #[] 0) 0 (.map []) ⟨fun k h => (by cases h), fun l h => (by cases h), fun l h => ?_⟩, hs, .inr (Keeps.alloc w _)⟩
  · simp only [RA]
    refine ⟨by simp, fun l hl => ⟨w.heap.size, updN_same _ _ _, rfl⟩⟩
  · injection h with h; subst h
    refine ⟨updN_same _ _ _, #[], 0, heap_alloc_new w _, rfl, fun j k d hj => by simp at hj⟩
/-- What a lookup tells. -/
def lkRes (z : AV) : Bool → Option (Nat × D) → AV
  | false, some (_, v) => .d v
  | false, none => z
  | true, some (_, v) => .tup [.d v, .d (.c (.bool true))]
  | true, none => .tup [z, .d (.c (.bool false))]
theorem keyEq_form {ks : List CK} {g : Bool} {k a : D} {b : Bool} (h : keyEq ks g k a = some b) : formD g k = true ∧ formD g a = true ∧ eqD ks (cellsD k) (cellsD a) = some b := by
  unfold keyEq at h
  split at h
  · rename_i hf
    rw [Bool.and_eq_true] at hf
    exact ⟨hf.1, hf.2, h⟩
  · cases h
theorem map_at {E : Env} {r : Rs} {w : World} (hG : Good G E r w) {i : Nat} {l : List (D × D)} {x : Value} (hl : r[i]? = some (some (.map l))) (hx : RA E r w (.mp i) x) :
    ∃ b es c, E.bl i = some b ∧ x = .map (some b) ∧ w.heap[b]? = some (.map es c) ∧ es.size = l.length ∧ ∀ (j : Nat) k d, l[j]? = some (k, d) → ∃ e, es[j]? = some e ∧ RD E.T w k e.key ∧ e.born < c ∧ RD E.T w d e.val := by
  simp only [RA] at hx
  obtain ⟨b, hb, rfl⟩ := hx.2 l hl
  obtain ⟨b', hb', _, es, c, h1, h2, h3⟩ := hG.map i l hl
  rw [hb] at hb'; injection hb' with hb'; subst hb'
  exact ⟨b, es, c, hb, rfl, h1, h2, h3⟩
theorem key_check (hti : TiOK P ti) {T : Nat → Nat} {w : World} {kt : TypeId} {ki : TI} {ks : List CK} (hki : ti kt = some ki) (hks : tF ti kt = some ks) {k : D} {x : Value} (hx : RD T w k x) {b : Bool} (hok : keyEq ks (isAggD ki.u) k k = some b) (em : Bool) : (Instr.checkKey em 10000 kt x).run P w = .ok () w ∧ ∀ n, Instr.sameBits (n + 1) x x = true := by
  obtain ⟨h1, _, h2⟩ := keyEq_form hok
  obtain ⟨vs, h3, h4⟩ := isV_form hx h1
  have h5 := eqD_sound h4 h4 h2
  exact ⟨check_flat hti em 8 9992 kt ki ks hki hks x vs vs b h3 h5, sameBits_self h3 h5⟩
theorem ki_of {kt : TypeId} {ks : List CK} (hks : tF ti kt = some ks) : ∃ ki, ti kt = some ki := by
  unfold tF at hks
  simp only [flatT] at hks
  split at hks
  · exact ⟨_, ‹_›⟩
  · cases hks
theorem HO_lookup (hti : TiOK P ti) {d : Option Tmp} {x y : Operand} {ok : Bool} {t ty kt et : TypeId} {ps : String} {af : Array Edge} {gd_ : Option (Nat × Bool)} {rest : List Oper} {i : Nat} {l : List (D × D)} {k : D} {ks : List CK} {g b : Bool} {o : Option (Nat × D)} {z : AV}
    (hg : gd ops σ ⟨d, .lookup t x y ok, ty, ps, af, gd_⟩ = some true) (hx : σ.ev G x = .mp i) (hl : σ.r[i]? = some (some (.map l))) (hy : σ.ev G y = .d k) (hm : tM ti t = some (kt, et)) (hks : tF ti kt = some ks) (hgg : tG ti kt = g) (hok : keyEq ks g k k = some b) (hf : findI ks g k l 0 = some o)
    (hz : (ti et).map (fun i => constAV i.zero) = some z) (hd : ((⟨d, .lookup t x y ok, ty, ps, af, gd_⟩ : Oper) :: rest).all (dstOK N) = true)
    (hk : EV P ti G N ops rest M (σ.putR d (lkRes z ok o) σ.r)) : HO P ti G N ops (⟨d, .lookup t x y ok, ty, ps, af, gd_⟩ :: rest) M σ := by
  refine HO_sem2 hti (fun _ : Unit => lkRes z ok o) (fun _ => σ.r) (fun _ => True) hg hd rfl (fun E w a hR => ?_) rfl fun _ _ => hk
  have hG := hR.good
  have h1 := ev_sound hR x
  have h2 := ev_sound hR y
  rw [hx] at h1
  rw [hy] at h2
  simp only [RA] at h2
  obtain ⟨bb, es, c, hb, hxv, hh, hsz, hes⟩ := map_at hG hl h1
  have hgo : (getObj bb).run P w = .ok (.map es c) w := by simp [getObj, Sem.run, hh]
  obtain ⟨ki, hki⟩ := ki_of hks
  have hgk : g = isAggD ki.u := by rw [← hgg]; unfold tG; rw [hki]
  subst hgk
  obtain ⟨hck, _⟩ := key_check (P := P) hti hki hks h2 hok es.isEmpty
  obtain ⟨fa, hfr, hfa⟩ := findKey_run (P := P) hti hki hks h2 (es := es.toList) (by simpa using hsz) (fun j a d hj => by obtain ⟨e, q1, q2, _, q3⟩ := hes j a d hj; exact ⟨e, by simpa using q1, q2, q3⟩) hf
  obtain ⟨ie, hie, hze⟩ : ∃ ie, ti et = some ie ∧ constAV ie.zero = z := by
    rw [Option.map_eq_some_iff] at hz; exact hz
  have hzr := ti_zero (P := P) hti hie w
  have hzra := constAV_sound E σ.r w ie.zero
  rw [hze] at hzra
  have hmu := tM_u (P := P) hti hm
  cases o with
  | none =>
    have hfa : fa = none := hfa
    subst hfa
    cases ok with
    | false => exact ⟨(), ie.zero, w, E, trivial, .inl (by simp [execOp, resolve, Instr.lookup, run_underlying hmu, hxv, hgo, hck, hfr, hzr]), hzra, hG, Step.refl _ _ _, .inr (Keeps.refl w)⟩
    | true =>
      refine ⟨(), .tuple #[ie.zero, .bool false], w, E, trivial, .inl (by simp [execOp, resolve, Instr.lookup, run_underlying hmu, hxv, hgo, hck, hfr, hzr]), ?_, hG, Step.refl _ _ _, .inr (Keeps.refl w)⟩
      simp only [lkRes, RA, RAL]
      exact ⟨#[ie.zero, .bool false], rfl, _, _, rfl, hzra, _, _, rfl, by simp [RD, Value.oneCell'], rfl⟩
  | some p =>
    obtain ⟨j, v⟩ := p
    obtain ⟨q, e, hj, he, rfl, hv, _⟩ := hfa
    cases ok with
    | false => exact ⟨(), e.val, w, E, trivial, .inl (by simp [execOp, resolve, Instr.lookup, run_underlying hmu, hxv, hgo, hck, hfr]), hv, hG, Step.refl _ _ _, .inr (Keeps.refl w)⟩
    | true =>
      refine ⟨(), .tuple #[e.val, .bool true], w, E, trivial, .inl (by simp [execOp, resolve, Instr.lookup, run_underlying hmu, hxv, hgo, hck, hfr]), ?_, hG, Step.refl _ _ _, .inr (Keeps.refl w)⟩
      simp only [lkRes, RA, RAL]
      exact ⟨#[e.val, .bool true], rfl, _, _, rfl, hv, _, _, rfl, by simp [RD, Value.oneCell'], rfl⟩
theorem HO_mapUpdate (hti : TiOK P ti) {d : Option Tmp} {x y zz : Operand} {t ty kt et : TypeId} {ps : String} {af : Array Edge} {gd_ : Option (Nat × Bool)} {rest : List Oper} {i : Nat} {l : List (D × D)} {k v : D} {ks : List CK} {g b : Bool} {o : Option (Nat × D)}
    (hg : gd ops σ ⟨d, .mapUpdate t x y zz, ty, ps, af, gd_⟩ = some true) (hx : σ.ev G x = .mp i) (hl : σ.r[i]? = some (some (.map l))) (hy : σ.ev G y = .d k) (hzv : σ.ev G zz = .d v) (hm : tM ti t = some (kt, et)) (hks : tF ti kt = some ks) (hgg : tG ti kt = g) (hok : keyEq ks g k k = some b) (hf : findI ks g k l 0 = some o)
    (hd : ((⟨d, .mapUpdate t x y zz, ty, ps, af, gd_⟩ : Oper) :: rest).all (dstOK N) = true) (hkp : kpFree M (rest.length + 1) = true)
    (hk : EV P ti G N ops rest M (σ.putR d undA (σ.r.set i (some (.map (putM k v l o)))))) : HO P ti G N ops (⟨d, .mapUpdate t x y zz, ty, ps, af, gd_⟩ :: rest) M σ := by
  refine HO_sem2 hti (fun _ : Unit => undA) (fun _ => σ.r.set i (some (.map (putM k v l o)))) (fun _ => True) hg hd rfl (fun E w a hR => ?_) rfl fun _ _ => hk
  have hG := hR.good
  have h1 := ev_sound hR x
  have h2 := ev_sound hR y
  have h3 := ev_sound hR zz
  rw [hx] at h1
  rw [hy] at h2
  rw [hzv] at h3
  simp only [RA] at h2 h3
  obtain ⟨bb, es, c, hb, hxv, hh, hsz, hes⟩ := map_at hG hl h1
  have hgo : (getObj bb).run P w = .ok (.map es c) w := by simp [getObj, Sem.run, hh]
  obtain ⟨ki, hki⟩ := ki_of hks
  have hgk : g = isAggD ki.u := by rw [← hgg]; unfold tG; rw [hki]
  subst hgk
  obtain ⟨hck, hsame⟩ := key_check (P := P) hti hki hks h2 hok false
  obtain ⟨fa, hfr, hfa⟩ := findKey_run (P := P) hti hki hks h2 (es := es.toList) (by simpa using hsz) (fun j a d hj => by obtain ⟨e, q1, q2, _, q3⟩ := hes j a d hj; exact ⟨e, by simpa using q1, q2, q3⟩) hf
  have hmu := tM_u (P := P) hti hm
  have hund : ∀ E r w, RA E r w undA undef := fun E r w => by simp [undA, RA, RAL, undef]
  cases o with
  | none =>
    have hfa : fa = none := hfa
    subst hfa
    have hset : (setObj bb (.map (es.push ⟨a.eval y, a.eval zz, c⟩) (c + 1))).run P w = .ok () (World.setMap w bb (es.push ⟨a.eval y, a.eval zz, c⟩) (c + 1)) := by simp [setObj, Sem.run, hh, World.setMap]
    have hla := setMap_lasts hG hl hb (es.push ⟨a.eval y, a.eval zz, c⟩) (c + 1)
    have hbs : bb < w.heap.size := (Array.getElem?_eq_some_iff.1 hh).1
    refine ⟨(), undef, World.setMap w bb (es.push ⟨a.eval y, a.eval zz, c⟩) (c + 1), E, trivial, .inr ⟨by simp [execOp, resolve, Instr.mapUpdate, run_underlying hmu, hxv, hgo, hck, hfr, hset], rfl⟩, hund _ _ _, good_setMap hG hl hb _ _ ⟨es.push ⟨a.eval y, a.eval zz, c⟩, c + 1, (by simp [World.setMap, hbs]), by simp [putM, hsz], fun j k' d' hj => ?_⟩, step_setMap hG hl hb _ _, .inl hkp⟩
    simp only [putM] at hj
    by_cases hjl : j < l.length
    · rw [List.getElem?_append_left hjl] at hj
      obtain ⟨e, q1, q2, q3, q4⟩ := hes j k' d' hj
      exact ⟨e, by rw [Array.getElem?_push_lt (by omega), ← q1, Array.getElem?_eq_getElem], RD.lasts hla _ _ q2, by omega, RD.lasts hla _ _ q4⟩
    · have hj2 : j = l.length := by
        have := (List.getElem?_eq_some_iff.1 hj).1
        simp at this; omega
      subst hj2
      simp at hj
      obtain ⟨rfl, rfl⟩ := hj
      exact ⟨⟨a.eval y, a.eval zz, c⟩, by rw [← hsz]; simp, RD.lasts hla _ _ h2, by simp, RD.lasts hla _ _ h3⟩
  | some p =>
    obtain ⟨j, v0⟩ := p
    obtain ⟨q, e, hj, he, rfl, hv, hek⟩ := hfa
    rw [Nat.zero_add] at hj
    subst hj
    have he2 : es[j]? = some e := by simpa using he
    have hkt : (Instr.keyThatStays (((es[j]?).map (·.key)).getD (a.eval y)) (a.eval y)).run P w = .ok (a.eval y) w := by
      rw [he2]
      simp only [Option.map_some, Option.getD_some, hek]
      simp [Instr.keyThatStays, hsame 9999]
    have hset : (setObj bb (.map (es.modify j fun e => { e with key := a.eval y, val := a.eval zz }) c)).run P w = .ok () (World.setMap w bb (es.modify j fun e => { e with key := a.eval y, val := a.eval zz }) c) := by simp [setObj, Sem.run, hh, World.setMap]
    have hla := setMap_lasts hG hl hb (es.modify j fun e => { e with key := a.eval y, val := a.eval zz }) c
    have hbs : bb < w.heap.size := (Array.getElem?_eq_some_iff.1 hh).1
    refine ⟨(), undef, World.setMap w bb (es.modify j fun e => { e with key := a.eval y, val := a.eval zz }) c, E, trivial, .inr ⟨by simp only [execOp, resolve, Instr.mapUpdate, Sem.run_bind, run_underlying hmu, hxv, Result.andThen_ok, hgo, hck, hfr, hkt, hset]; rfl, rfl⟩, hund _ _ _, good_setMap hG hl hb _ _ ⟨es.modify j fun e => { e with key := a.eval y, val := a.eval zz }, c, (by simp [World.setMap, hbs]), by simp [putM, hsz], fun j2 k' d' hj => ?_⟩, step_setMap hG hl hb _ _, .inl hkp⟩
    simp only [putM] at hj
    by_cases hjj : j2 = j
    · subst hjj
      have hlt := (List.getElem?_eq_some_iff.1 hj).1
      rw [List.length_set] at hlt
      rw [List.getElem?_set_self hlt] at hj
      injection hj with hj
      injection hj with hj1 hj2
      subst hj1; subst hj2
      have hb2 : e.born < c := by
        obtain ⟨e', q1, _, q3, _⟩ := hes j2 _ _ (List.getElem?_eq_getElem hlt)
        rw [he2] at q1; injection q1 with q1; subst q1; exact q3
      exact ⟨{ e with key := a.eval y, val := a.eval zz }, by simp [Array.getElem?_modify, he2], RD.lasts hla _ _ h2, hb2, RD.lasts hla _ _ h3⟩
    · rw [List.getElem?_set_ne (fun e => hjj e.symm)] at hj
      obtain ⟨e', q1, q2, q3, q4⟩ := hes j2 k' d' hj
      exact ⟨e', by simp [Array.getElem?_modify, Ne.symm hjj, q1], RD.lasts hla _ _ q2, q3, RD.lasts hla _ _ q4⟩
end
section
variable {P : Program} {ti : Ti} {G : Nat → List D} {N : Nat} {ops : Array Oper} {M : KM}
variable {d : Option Tmp} {ty t : TypeId} {ps : String} {af : Array Edge} {rest : List Oper} {j : Nat} {want : Bool} {b : Nat → AV} {sl : List (Nat × AV)} {r : Rs} {x y z : Operand} {h : Option Operand} {ok : Bool}
theorem EV_makeMap : EV P ti G N ops (⟨d, .makeMap t h, ty, ps, af, none⟩ :: rest) M ⟨b, sl, r⟩ = HO P ti G N ops (⟨d, .makeMap t h, ty, ps, af, none⟩ :: rest) M ⟨b, sl, r⟩ := EV_stop rfl rfl
theorem EV_g_makeMap : EV P ti G N ops (⟨d, .makeMap t h, ty, ps, af, some (j, want)⟩ :: rest) M ⟨b, sl, r⟩ = bindQ (fun q0 =>
    (q0 = want → HO P ti G N ops (⟨d, .makeMap t h, ty, ps, af, some (j, want)⟩ :: rest) M ⟨b, sl, r⟩) ∧ (q0 = (!want) → EV P ti G N ops rest M (St.putR ⟨b, sl, r⟩ d undA r))) (gdB ops ⟨b, sl, r⟩ j want) := EV_gstop rfl
theorem EV_lookup : EV P ti G N ops (⟨d, .lookup t x y ok, ty, ps, af, none⟩ :: rest) M ⟨b, sl, r⟩ = HO P ti G N ops (⟨d, .lookup t x y ok, ty, ps, af, none⟩ :: rest) M ⟨b, sl, r⟩ := EV_stop rfl rfl
theorem EV_g_lookup : EV P ti G N ops (⟨d, .lookup t x y ok, ty, ps, af, some (j, want)⟩ :: rest) M ⟨b, sl, r⟩ = bindQ (fun q0 =>
    (q0 = want → HO P ti G N ops (⟨d, .lookup t x y ok, ty, ps, af, some (j, want)⟩ :: rest) M ⟨b, sl, r⟩) ∧ (q0 = (!want) → EV P ti G N ops rest M (St.putR ⟨b, sl, r⟩ d undA r))) (gdB ops ⟨b, sl, r⟩ j want) := EV_gstop rfl
theorem EV_mapUpdate : EV P ti G N ops (⟨d, .mapUpdate t x y z, ty, ps, af, none⟩ :: rest) M ⟨b, sl, r⟩ = HO P ti G N ops (⟨d, .mapUpdate t x y z, ty, ps, af, none⟩ :: rest) M ⟨b, sl, r⟩ := EV_stop rfl rfl
theorem EV_g_mapUpdate : EV P ti G N ops (⟨d, .mapUpdate t x y z, ty, ps, af, some (j, want)⟩ :: rest) M ⟨b, sl, r⟩ = bindQ (fun q0 =>
    (q0 = want → HO P ti G N ops (⟨d, .mapUpdate t x y z, ty, ps, af, some (j, want)⟩ :: rest) M ⟨b, sl, r⟩) ∧ (q0 = (!want) → EV P ti G N ops rest M (St.putR ⟨b, sl, r⟩ d undA r))) (gdB ops ⟨b, sl, r⟩ j want) := EV_gstop rfl
end
end Go.Proofs.YtdbicadncccpoaaDoor
/- The frame of these proofs, part ZJ: an array or a struct of the call's own is laid for good: from there on its pointer and its slices are data. -/
set_option linter.unusedVariables false
set_option linter.unusedSimpArgs false
namespace Go.Proofs.YtdbicadncccpoaaDoor
open Go
section
variable {G : Nat → List D} {E : Env} {r : Rs} {w : World}
theorem lay_row (hG : Good G E r w) {i : Nat} {l : List AV} {ds : List D} (ho : objOf r i = some l) (hl : allD l = some ds) :
    ∃ b T', E.bl i = some b ∧ l.length = ds.length ∧ RM T' w ds ⟨b, 0, none⟩ ∧ Good G ⟨T', E.bl⟩ (r.set i none) w ∧ Step E r w ⟨T', E.bl⟩ (r.set i none) w := by
  obtain ⟨b, hb, hT, vs, e, hh, hral, hone⟩ := hG.obj i l (objOf_some ho)
  have hrl := allD_sound l _ ds hral hl hone
  have h1 := RAL_length _ _ hral
  have h2 := RL_length _ _ hrl
  simp only [Array.length_toList] at h1 h2
  have hlt : b < w.heap.size := hG.lt (objOf_some ho) hb
  have hL : Lasts E.T w (updN E.T b vs.size) w := by
    refine ⟨fun q => ?_, fun a _ => rfl⟩
    by_cases hq : q = b
    · subst hq; rw [updN_same, hT]; omega
    · rw [updN_ne _ _ _ hq]; exact Nat.le_refl _
  have hne : ∀ {j : Nat} {x : Res}, (r.set i none)[j]? = some (some x) → r[j]? = some (some x) ∧ E.bl j ≠ some b := by
    intro j x hj
    obtain ⟨hji, hj⟩ := getElem?_setnone hj
    exact ⟨hj, fun hbj => hji (hG.one j i x _ b hj (objOf_some ho) hbj hb)⟩
  have hS : Step E r w ⟨updN E.T b vs.size, E.bl⟩ (r.set i none) w := by
    refine ⟨rfl, rfl, rfl, Nat.le_refl _, fun q hq hno => ?_, fun q ⟨j, x, hj, hbj⟩ => .inl ⟨j, x, (hne hj).1, hbj⟩, hL, ShapeLasts.refl _, ⟨by simp, fun j k _ hj => ?_, fun j k _ hj => ?_, fun j k _ hj => ?_⟩⟩
    · have hqb : q ≠ b := fun h => hno ⟨i, _, objOf_some ho, h ▸ hb⟩
      exact ⟨rfl, updN_ne _ _ _ hqb⟩
    · exact ⟨k, (hne hj).1, Nat.le_refl _, fun _ => rfl⟩
    · exact ⟨k, (hne hj).1, rfl, rfl⟩
    · exact ⟨k, (hne hj).1, rfl⟩
  refine ⟨b, updN E.T b vs.size, hb, by omega, ?_, ?_, hS⟩
  · refine RM_of_values _ _ vs.toList (RL.lasts hL _ _ hrl) (fun j u hj => ?_) (by simp [updN_same]; omega)
    rw [addr_plain, cell_of_row w b _ vs e (0, 0) hh]
    simpa using hj
  · refine ⟨fun j k q hj hq => ?_, fun j k hj => ?_, fun j k hj => ?_, fun j k x y q hj hk hbj hbk => hG.one j k x y q (hne hj).1 (hne hk).1 hbj hbk, fun q hq => ?_, fun g => RM.lasts hL _ _ (hG.glob g)⟩
    · obtain ⟨hj, hjb⟩ := hne hj
      have hqb : q ≠ b := fun h => hjb (h ▸ hq)
      obtain ⟨h1, cur, e3, h2, h3⟩ := hG.tok j k q hj hq
      exact ⟨(updN_ne _ _ _ hqb).trans h1, cur, e3, h2, h3⟩
    · obtain ⟨hj, hjb⟩ := hne hj
      obtain ⟨q, hq, h1, vs3, e3, h2, h3, h4⟩ := hG.obj j k hj
      have hqb : q ≠ b := fun h => hjb (h ▸ hq)
      exact ⟨q, hq, (updN_ne _ _ _ hqb).trans h1, vs3, e3, h2, h3.step hS, h4⟩
    · obtain ⟨hj, hjb⟩ := hne hj
      obtain ⟨q, hq, h1, h2⟩ := hG.map j k hj
      have hqb : q ≠ b := fun h => hjb (h ▸ hq)
      exact ⟨q, hq, (updN_ne _ _ _ hqb).trans h1, h2.lasts (T' := E.T) rfl hL⟩
    · show updN E.T b vs.size q = 0
      rw [updN_ne _ _ _ (by omega)]
      exact hG.fresh q hq
def fzA (i : Nat) (ds : List D) : AV → AV
  | .ptr j off => if j = i then .el (ds.drop off) else .ptr j off
  | .osl j off sz n => if j = i ∧ 0 < n then .d (.sl sz n ((ds.drop off).take (n * sz))) else .osl j off sz n
  | a => a
def fzL (i : Nat) (ds : List D) : List (Nat × AV) → List (Nat × AV)
  | [] => []
  | (k, a) :: l => (k, fzA i ds a) :: fzL i ds l
theorem fz_sound (hG : Good G E r w) {i : Nat} {l : List AV} {ds : List D} {b : Nat} {T' : Nat → Nat} (ho : objOf r i = some l) (hb : E.bl i = some b) (hlen : l.length = ds.length) (hrm : RM T' w ds ⟨b, 0, none⟩) (hS : Step E r w ⟨T', E.bl⟩ (r.set i none) w) {a : AV} {x : Value} (h : RA E r w a x) :
    RA ⟨T', E.bl⟩ (r.set i none) w (fzA i ds a) x := by
  have keep := h.step hS
  cases a with
  | ptr j off =>
    simp only [fzA]
    split
    · rename_i hj
      subst hj
      simp only [RA] at h ⊢
      obtain ⟨b2, hb2, rfl⟩ := h.2 l (objOf_some ho)
      rw [hb] at hb2; injection hb2 with hb2; subst hb2
      refine ⟨_, rfl, ?_⟩
      have := RM_drop _ _ hrm off
      rwa [addr_plain, Nat.zero_add] at this
    · exact keep
  | osl j off sz n =>
    simp only [fzA]
    split
    · rename_i hj
      obtain ⟨hj, hn⟩ := hj
      subst hj
      simp only [RA, RD] at h ⊢
      obtain ⟨_, A, c, rfl, hc, hx⟩ := h
      obtain ⟨hfit, hx⟩ := hx l (objOf_some ho)
      obtain ⟨b2, hb2, rfl⟩ := hx hn
      rw [hb] at hb2; injection hb2 with hb2; subst hb2
      refine ⟨by rw [List.length_take, List.length_drop]; omega, _, _, rfl, hc, .inr ⟨_, rfl, ?_⟩⟩
      have := RM_take _ _ (RM_drop _ _ hrm off) (n * sz)
      rwa [addr_plain, Nat.zero_add] at this
    · exact keep
  | _ => exact keep
end
section
variable {P : Program} {ti : Ti} {G : Nat → List D} {N : Nat} {K : KD}
theorem lk_fz {i : Nat} {ds : List D} {b : Nat → AV} : ∀ {l : List (Nat × AV)} {k : Nat}, (∃ v, lk l b k = v ∧ lk (fzL i ds l) b k = fzA i ds v) ∨ (lk l b k = b k ∧ lk (fzL i ds l) b k = b k)
  | [], k => .inr ⟨rfl, rfl⟩
  | (j, a) :: l, k => by
    simp only [fzL, lk]
    split
    · exact .inl ⟨_, rfl, rfl⟩
    · exact lk_fz
theorem HC_lay (i : Nat) {c : Code} {b : Nat → AV} {sl : List (Nat × AV)} {r : Rs} {l : List AV} {ds : List D} (ho : objOf r i = some l) (hl : allD l = some ds) (h : HC P ti G N c K ⟨b, fzL i ds sl, r.set i none⟩) : HC P ti G N c K ⟨b, sl, r⟩ := by
  intro E0 r0 w0 E a w hR hS
  obtain ⟨bb, T', hb, hlen, hrm, hgood, hst⟩ := lay_row hR.good ho hl
  refine h E0 r0 w0 ⟨T', E.bl⟩ a w ⟨hR.size, fun k => ?_, hgood, hR.defers⟩ (hS.trans hst)
  have hk := hR.slot k
  show RA _ (r.set i none) w (lk (fzL i ds sl) b k) _
  change RA E r w (lk sl b k) _ at hk
  rcases lk_fz (i := i) (ds := ds) (b := b) (l := sl) (k := k) with ⟨v, h1, h2⟩ | ⟨h1, h2⟩
  · rw [h2]; rw [h1] at hk; exact fz_sound hR.good ho hb hlen hrm hst hk
  · rw [h2]; rw [h1] at hk; exact hk.step hst
/-- A region's end in one form, whatever order it took: what comes behind is shown once. -/
theorem HC_cutR {c : Code} {K : KD} {σ : St} (st : List (Nat × AV)) (re : Rs) (h1 : HC P ti G N c (.loop (fun σ' => ∃ L F, FitR σ.r.length L F σ' st re) K) σ) (h2 : A P ti G N K .normal ⟨fun _ => .top, st, re⟩) : HC P ti G N c K σ := by
  intro E0 r0 w0 E a w hR hS
  refine wp_mono (h1 E0 r0 w0 E a w hR hS) fun e a1 w1 hq => ?_
  obtain ⟨σ1, E1, hk, hR1, hS1⟩ := hq
  cases e with
  | normal =>
    obtain ⟨L, F, hfit⟩ := hk
    have h3 := hR1.fitR hS1 hS.names.len hfit
    exact ⟨_, _, h2, h3.1, h3.2⟩
  | _ => exact ⟨σ1, E1, hk, hR1, hS1⟩
end
end Go.Proofs.YtdbicadncccpoaaDoor
/- The frame of these proofs, part ZC: from a contract to the statement: what comes in is opened, what is left is read again. -/
set_option linter.unusedVariables false
set_option linter.unusedSimpArgs false
namespace Go.Proofs.YtdbicadncccpoaaDoor
open Go Go.ChangeShapes Go.WideShapes

/-! ### Memory that lay there before the call -/
def oldT (W : World) : Nat → Nat := fun b => match W.heap[b]? with
  | some (.cells c _ _) => c.size
  | _ => 0
theorem old_cell {W : World} {a : Addr} {v : Value} (h : W.cell? a = some v) : a.off < oldT W a.block := by
  unfold World.cell? at h
  unfold oldT
  split at h
  · rename_i c _ _ hc
    rw [hc]
    simp only
    split at h
    · cases h
    · exact (Array.getElem?_eq_some_iff.1 h).1
  · cases h
def env0 (W : World) : Env := ⟨oldT W, fun _ => none⟩
theorem good0 {W : World} {G : Nat → List D} (hg : ∀ g, RM (oldT W) W (G g) ⟨g, 0, none⟩) : Good G (env0 W) [] W := by
  refine ⟨fun i k b hi => by simp at hi, fun i l hi => by simp at hi, fun i l hi => by simp at hi, fun i j x y b hi => by simp at hi, fun b hb => ?_, hg⟩
  show oldT W b = 0
  unfold oldT
  rw [Array.getElem?_eq_none (by simpa using hb)]

/-- All that was there is as it was. -/
structure Kept (W W' : World) : Prop where
  os : W'.os = W.os
  output : W'.output = W.output
  size : W.heap.size ≤ W'.heap.size
  block : ∀ b, b < W.heap.size → W'.heap[b]? = W.heap[b]?
theorem AC.calls {P : Program} {G : Nat → List D} {f : FuncId} {args : List AV} {v0 : Value} (h : AC P G f args [] (fun v r' => v = .d (.c v0) ∧ r' = [])) {W : World} {vals : Array Value} (hg : ∀ g, RM (oldT W) W (G g) ⟨g, 0, none⟩)
    (ha : RAL (env0 W) [] W args vals.toList) : Calls P f vals W fun e W' => e = .returned v0 ∧ Kept W W' := by
  refine (h.2 (env0 W) W vals (good0 hg) ha).mono fun e W' ⟨v, x, r', E', he, ⟨hv, hr⟩, hx, _, hS⟩ => ?_
  subst hv; subst hr
  simp only [RA, RD] at hx
  refine ⟨by rw [he, hx.1], hS.os, hS.output, hS.size, fun b hb => (hS.block b hb ?_).1⟩
  rintro ⟨i, y, hi, _⟩
  simp at hi

section
variable {H : Type} {enc : TypeId × Value → H} {P : Program} {W W' : World}
theorem Kept.cell (h : Kept W W') {a : Addr} (ha : a.block < W.heap.size) : W'.cell? a = W.cell? a := by
  unfold World.cell?; rw [h.block _ ha]
theorem Kept.frozen (h : Kept W W') {a : Addr} (ha : a.block < W.heap.size) : W'.frozen? a = W.frozen? a := by
  unfold World.frozen?; rw [h.block _ ha]
theorem Kept.same (h : Kept W W') {p : MemPlace} (hp : p.block < W.heap.size) : W.sameAt W' p := by
  cases p with
  | cell b off => exact h.cell (a := ⟨b, off, none⟩) hp
  | map b => exact h.block b hp
theorem Kept.keptBut (h : Kept W W') (may : MemPlace → Prop) : W.keptBut W' may := by
  refine ⟨h.os, h.output, fun i hi => ?_⟩
  rw [h.block i hi]
  split <;> simp_all
theorem TrodAll_carry {base : Nat} {sp : Nat → Bool} {held : Bool} : ∀ {ts : List TypeId} {vs : List Value} {ds : List (DataW H)} {ps : List MemPlace}, DataW.TrodAll enc P W base sp held ts vs ds ps → (∀ p ∈ ps, W.sameAt W' p) → DataW.TrodAll enc P W' base sp held ts vs ds ps
  | [], [], [], _, h, _ => h
  | _ :: _, _ :: _, _ :: _, _, ⟨p, q, ⟨n, h1⟩, h2, e⟩, hs =>
    ⟨p, q, ⟨n, DataW.trod_carry n _ _ _ h1 (fun x hx => hs x (by rw [e]; exact List.mem_append_left _ hx))⟩, TrodAll_carry h2 (fun x hx => hs x (by rw [e]; exact List.mem_append_right _ hx)), e⟩
theorem var_kept (h : Kept W W') {n : String} {cs : Array Value} (hv : W.var? P n = some cs) : W'.var? P n = some cs := by
  unfold World.var? at hv ⊢
  simp only [Option.bind_eq_some_iff] at hv ⊢
  obtain ⟨g, hg, hv⟩ := hv
  refine ⟨g, hg, ?_⟩
  have hb : g < W.heap.size := by
    rcases Nat.lt_or_ge g W.heap.size with h1 | h1
    · exact h1
    · simp [Array.getElem?_eq_none h1] at hv
  rw [h.block g hb]
  exact hv
theorem TrodVars_kept {T : TypeId → Prop} (K : Kids P T) (hz : ∀ t e, T t → P.underlying t = some (.slice e) → 0 < P.cellsOf e) (hk : Kept W W') {sp : Nat → Bool} : ∀ {ns : List String} {ds : List (DataW H)} {ps : List MemPlace},
    (∀ n ∈ ns, ∀ g t, P.globalNamed n = some g → (P.globals[g]?).map (·.type) = some t → T t) → DataW.TrodVars enc P W (fun _ => true) ns ds ps → (∀ p ∈ ps, p.block < W.heap.size) → (∀ p ∈ ps, sp p.block = true) → DataW.TrodVars enc P W' sp ns ds ps
  | [], [], ps, _, h, _, _ => h
  | n :: ns, d :: ds, ps, hT, ⟨g, t, cs, fuel, p, q, h1, h2, h3, h4, h5, e⟩, hlt, hs => by
    have m1 : ∀ x ∈ p, x ∈ ps := fun x hx => by rw [e]; simp [hx]
    have m2 : ∀ x ∈ q, x ∈ ps := fun x hx => by rw [e]; simp [hx]
    refine ⟨g, t, cs, fuel, p, q, h1, h2, var_kept hk h3, ?_, TrodVars_kept K hz hk (fun n hn => hT n (by simp [hn])) h5 (fun x hx => hlt x (m2 x hx)) (fun x hx => hs x (m2 x hx)), e⟩
    exact DataW.trod_respare K hz fuel t cs.toList _ (hT n (by simp) g t h1 h2) (DataW.trod_carry fuel t _ _ h4 (fun x hx => hk.same (hlt x (m1 x hx)))) (fun x hx => hs x (m1 x hx))
/-- What the statement asks behind the call. -/
theorem post_of_kept {T : TypeId → Prop} (K : Kids P T) (hz : ∀ t e, T t → P.underlying t = some (.slice e) → 0 < P.cellsOf e) {fn : Func} {s : ChangeSpec} {args : Array Value} {ds gs : List (DataW H)} {before : List MemPlace}
    (hT : ∀ t ∈ fn.params.toList, T t) (hV : ∀ n ∈ s.vars, ∀ g t, P.globalNamed n = some g → (P.globals[g]?).map (·.type) = some t → T t) {tb : TypeId} (hb : P.underlying tb = some .bool) (hres : fn.resultTypes = #[tb])
    (hW : DataW.Whole enc P fn.params.toList s.vars false W args.toList ds gs before) (hr : (s.fn H (ds ++ gs)).results = [.lit (.bool true)]) (ha : (s.fn H (ds ++ gs)).args = ds) (hv : (s.fn H (ds ++ gs)).vars = gs) (hk : Kept W W') :
    s.post enc P fn false true false false W args (.bool true) W' := by
  have hlt := hW.lt
  have hW0 := hW
  obtain ⟨p, q, h1, h2, rfl, _, _⟩ := hW
  refine ⟨ds, gs, p ++ q, [], p, q, hW0, ?_, ?_, ?_, hk.keptBut _, fun h => by cases h⟩
  · rw [hr, hres]
    exact trodAll_cons_mk (RowKit.shut_bool hb _) trodAll_mk0
  · rw [ha]
    exact DataW.TrodAll.respare K hz hT (TrodAll_carry h1 fun x hx => hk.same (hlt x (by simp [hx]))) fun x hx => by simpa using hlt x (by simp [hx])
  · rw [hv]
    exact TrodVars_kept K hz hk hV h2 (fun x hx => hlt x (by simp [hx])) fun x hx => by simpa using hlt x (by simp [hx])

/-! ### What comes in -/
mutual
def bk : DataW H → Nat
  | .lit (.string bytes) => bytes.length + 1
  | .lit _ => 1
  | .nil => 1
  | .ptr d => bk d + 1
  | .slice elems spare => bkAll elems + bkAll spare + 1
  | .agg parts => bkAll parts + 1
  | .iface _ d => bk d + 1
  | .map entries => bkEntries entries + 1
  | .held _ => 1
def bkAll : List (DataW H) → Nat
  | [] => 0
  | d :: r => bk d + bkAll r
def bkEntries : List (Lit × DataW H) → Nat
  | [] => 0
  | x :: r => bkEntry x + bkEntries r
def bkEntry : Lit × DataW H → Nat
  | (.string bytes, d) => bytes.length + bk d + 1
  | (_, d) => bk d + 1
end
theorem bkAll_append : ∀ (l m : List (DataW H)), bkAll (l ++ m) = bkAll l + bkAll m
  | [], m => by simp [bkAll]
  | d :: l, m => by simp only [List.cons_append, bkAll, bkAll_append l m]; omega
end
/-- What reads as a datum of a type is one of these, each value told by its cells. 'ms': how great it is at least. -/
def Opens (P : Program) (t : TypeId) {α : Type} (en : α → List D) (ms : α → Nat) (ok : α → Prop) : Prop :=
  ∀ (H : Type) (enc : TypeId × Value → H) (W : World) (fuel : Nat) (cs : List Value) (x : DataW H × List MemPlace), DataW.trod enc P W 0 (fun _ => true) true fuel t cs = some x → (∀ n ∈ x.1.weights P t, n ≤ reachBytes) →
    ∃ a, ok a ∧ RL (oldT W) W (en a) cs ∧ ms a ≤ bk x.1
theorem Opens.mono {P : Program} {t : TypeId} {α β : Type} {en : α → List D} {ms : α → Nat} {ok : α → Prop} {en' : β → List D} {ms' : β → Nat} {ok' : β → Prop} (h : Opens P t en ms ok) (f : α → β) (he : ∀ a, ok a → en' (f a) = en a) (hm : ∀ a, ok a → ms' (f a) ≤ ms a) (ho : ∀ a, ok a → ok' (f a)) : Opens P t en' ms' ok' := by
  intro H enc W fuel cs x hx hw
  obtain ⟨a, h1, h2, h3⟩ := h H enc W fuel cs x hx hw
  exact ⟨f a, ho a h1, by rw [he a h1]; exact h2, Nat.le_trans (hm a h1) h3⟩
theorem opens_int {P : Program} {t : TypeId} {k : IntKind} (ht : P.underlying t = some (.int k)) : Opens P t (fun n : Int => [.c (.int k n)]) (fun _ => 1) (fun n => k.min ≤ n ∧ n ≤ k.max) := by
  intro H enc W fuel cs x hx _
  obtain ⟨n, rfl, rfl, hn⟩ := DataW.trod_int ht hx
  refine ⟨n, by simpa [Lit.wf] using hn, ?_, by simp [bk]⟩
  simp only [RL, RD]
  exact ⟨_, _, rfl, rfl, ⟨rfl, rfl⟩, rfl⟩
theorem opens_bool {P : Program} {t : TypeId} (ht : P.underlying t = some .bool) : Opens P t (fun n : Bool => [.c (.bool n)]) (fun _ => 1) (fun _ => True) := by
  intro H enc W fuel cs x hx _
  obtain ⟨n, rfl, rfl⟩ := DataW.trod_bool ht hx
  refine ⟨n, trivial, ?_, by simp [bk]⟩
  simp only [RL, RD]
  exact ⟨_, _, rfl, rfl, ⟨rfl, rfl⟩, rfl⟩
theorem opens_string {P : Program} {t : TypeId} (ht : P.underlying t = some .string) : Opens P t (fun s : ByteArray => [.c (.string s)]) (fun s => s.size + 1) (fun s => s.size ≤ reachBytes) := by
  intro H enc W fuel cs x hx hw
  obtain ⟨s, rfl, rfl, hs⟩ := DataW.trod_string ht hx
  have hl : s.data.toList.length = s.size := by rw [Array.length_toList]; rfl
  refine ⟨s, ?_, ?_, by simp only [bk]; omega⟩
  · have := hw s.data.toList.length (by simp [DataW.weights])
    omega
  · simp only [RL, RD]
    exact ⟨_, _, rfl, rfl, ⟨rfl, rfl⟩, rfl⟩
theorem bkAll_ge {H : Type} {α : Type} (ms : α → Nat) : ∀ (l : List α) (ds : List (DataW H)), l.length = ds.length → (∀ (i : Nat) a d, l[i]? = some a → ds[i]? = some d → ms a ≤ bk d) → (l.map ms).sum ≤ bkAll ds
  | [], _, _, _ => by simp
  | a :: l, [], h, _ => by simp at h
  | a :: l, d :: ds, h, hk => by
    have h0 := hk 0 a d rfl rfl
    have := bkAll_ge ms l ds (by simpa using h) (fun i a d h1 h2 => hk (i + 1) a d (by simpa using h1) (by simpa using h2))
    simp only [List.map_cons, List.sum_cons, bkAll]; omega
theorem RM_flat {W : World} {α : Type} {en : α → List D} {sz : Nat} : ∀ (l : List α) (ad : Addr), (∀ a ∈ l, (en a).length = sz) → (∀ (i : Nat) a, l[i]? = some a → RM (oldT W) W (en a) (ad.add (i * sz))) → RM (oldT W) W (l.flatMap en) ad
  | [], ad, _, _ => by simp [RM]
  | a :: l, ad, hl, h => by
    simp only [List.flatMap_cons]
    have h0 := h 0 a rfl
    rw [Nat.zero_mul, addr_add_zero] at h0
    refine RM_append _ _ _ h0 ?_
    rw [hl a (by simp)]
    refine RM_flat l _ (fun b hb => hl b (by simp [hb])) fun i b hb => ?_
    have := h (i + 1) b (by simpa using hb)
    rw [addr_add_add]
    rwa [Nat.succ_mul, Nat.add_comm] at this
theorem RM_of_RL {W : World} {ds : List D} {vs : List Value} {ad : Addr} {n : Nat} (h : RL (oldT W) W ds vs) (hc : W.cells? 0 ad n = some vs) : RM (oldT W) W ds ad := by
  obtain ⟨_, hlen, hget⟩ := World.cells?_some hc
  have hl := RL_length _ _ h
  refine RM_of_get _ _ fun j d hd => ?_
  have hj : j < n := by have := (List.getElem?_eq_some_iff.1 hd).1; omega
  obtain ⟨v, hv, h1, h2⟩ := RL_get _ _ h j d hd
  have hcell := (hget j hj).trans hv
  have hold := old_cell hcell
  rw [addr_add_off, addr_add_block] at hold
  exact ⟨hold, v, hcell, h1, h2⟩
theorem weightsAll_mem {H : Type} {P : Program} {e : TypeId} : ∀ {l : List (DataW H)} {d : DataW H}, d ∈ l → ∀ n ∈ d.weights P e, n ∈ DataW.weightsAll P e l
  | y :: l, d, hd, n, hn => by
    simp only [DataW.weightsAll, List.mem_append]
    simp only [List.mem_cons] at hd
    rcases hd with rfl | hd
    · exact .inl hn
    · exact .inr (weightsAll_mem hd n hn)
theorem sum_const {α : Type} {f : α → Nat} {sz : Nat} : ∀ (l : List α), (∀ a ∈ l, f a = sz) → (l.map f).sum = l.length * sz
  | [], _ => by simp
  | a :: l, h => by
    simp only [List.map_cons, List.sum_cons, h a (by simp), sum_const l (fun b hb => h b (by simp [hb])), List.length_cons, Nat.succ_mul]
    omega
theorem opens_slice {P : Program} {t e : TypeId} {α : Type} {en : α → List D} {ms : α → Nat} {ok : α → Prop} {sz by_ : Nat} (ht : P.underlying t = some (.slice e)) (hsz : P.cellsOf e = sz) (hby : P.bytesOf e = by_) (hen : ∀ a, ok a → (en a).length = sz) (h : Opens P e en ms ok) :
    Opens P t (fun l : List α => [.sl sz l.length (l.flatMap en)]) (fun l => (l.map ms).sum + 1) (fun l => l.length * by_ ≤ reachBytes ∧ ∀ a ∈ l, ok a) := by
  intro H enc W fuel cs x hx hw
  rcases Deep.open_slice ht hx with ⟨rfl, rfl⟩ | ⟨a, len, cap, m, n, Dx, Pl, rfl, _, hlc, hcap, hm, rfl, hel⟩
  · refine ⟨[], ⟨by simp, by simp⟩, ?_, by simp [bk]⟩
    simp only [RL, RD]
    exact ⟨_, _, rfl, rfl, ⟨by simp, none, 0, rfl, by simp, .inl (by simp)⟩, rfl⟩
  · simp only [if_true] at hm
    have hm2 : m = cap := hm
    subst hm2
    have hwa : ∀ i, i < len → ∀ k ∈ (Dx i).weights P e, k ≤ reachBytes := fun i hi k hk => by
      refine hw k ?_
      simp only [DataW.weights, ht, List.mem_cons, List.mem_append]
      exact .inr (.inl (weightsAll_mem (List.mem_map.2 ⟨i, List.mem_range.2 hi, rfl⟩) k hk))
    have each : ∀ i, i < len → ∃ b, ok b ∧ ms b ≤ bk (Dx i) ∧ RM (oldT W) W (en b) (a.add (i * sz)) := fun i hi => by
      obtain ⟨cs', hc, hd⟩ := hel i (by omega)
      obtain ⟨b, h1, h2, h3⟩ := h H enc W n cs' _ hd (hwa i hi)
      rw [hsz] at hc
      exact ⟨b, h1, h3, RM_of_RL h2 hc⟩
    have hlist : ∀ k, k ≤ len → ∃ l : List α, l.length = k ∧ ∀ i b, l[i]? = some b → ok b ∧ ms b ≤ bk (Dx i) ∧ RM (oldT W) W (en b) (a.add (i * sz)) := by
      intro k
      induction k with
      | zero => exact fun _ => ⟨[], rfl, fun i b hb => by simp at hb⟩
      | succ k ih =>
        intro hk
        obtain ⟨l, hl, hall⟩ := ih (by omega)
        obtain ⟨b, hb⟩ := each k (by omega)
        refine ⟨l ++ [b], by simp [hl], fun i c hc => ?_⟩
        by_cases hi : i < l.length
        · rw [List.getElem?_append_left hi] at hc; exact hall i c hc
        · have hi2 : i < (l ++ [b]).length := (List.getElem?_eq_some_iff.1 hc).1
          have : i = k := by simp at hi2; omega
          subst this
          rw [← hl, List.getElem?_append_right (Nat.le_refl _)] at hc
          simp at hc; subst hc; exact hb
    obtain ⟨l, hl, hall⟩ := hlist len (Nat.le_refl _)
    have hok : ∀ b ∈ l, ok b := fun b hb => by obtain ⟨i, hi⟩ := List.mem_iff_getElem?.1 hb; exact (hall i b hi).1
    have hfl : (l.flatMap en).length = l.length * sz := by rw [List.length_flatMap]; exact sum_const l (fun b hb => hen b (hok b hb))
    refine ⟨l, ⟨?_, hok⟩, ?_, ?_⟩
    · have := hw ((len + (m - len)) * P.bytesOf e) (by simp [DataW.weights, ht])
      rw [hby] at this
      exact Nat.le_trans (Nat.mul_le_mul_right _ (by omega)) this
    · simp only [RL, RD]
      refine ⟨_, _, rfl, rfl, ⟨hfl, some a, m, by rw [hl], by omega, .inr ⟨a, rfl, RM_flat l a (fun b hb => hen b (hok b hb)) fun i b hb => (hall i b hb).2.2⟩⟩, rfl⟩
    · have := bkAll_ge (H := H) ms l ((List.range len).map Dx) (by simp [hl]) (fun i b d hb hd => by
        have hi : i < len := by have := (List.getElem?_eq_some_iff.1 hb).1; omega
        simp [hi] at hd
        subst hd
        exact (hall i b hb).2.1)
      simp only [bk]
      omega
/-- A slice of elements of one cell. -/
theorem opens_slice1 {P : Program} {t e : TypeId} {α : Type} {f : α → D} {ms : α → Nat} {ok : α → Prop} {by_ : Nat} (ht : P.underlying t = some (.slice e)) (hsz : P.cellsOf e = 1) (hby : P.bytesOf e = by_) (h : Opens P e (fun a => [f a]) ms ok) :
    Opens P t (fun l : List α => [.sl 1 l.length (l.map f)]) (fun l => (l.map ms).sum + 1) (fun l => l.length * by_ ≤ reachBytes ∧ ∀ a ∈ l, ok a) := by
  refine (opens_slice ht hsz hby (fun _ _ => rfl) h).mono id (fun l _ => ?_) (fun l _ => Nat.le_refl _) (fun l hl => hl)
  have : ∀ l : List α, l.flatMap (fun a => [f a]) = l.map f := by
    intro l; induction l with
    | nil => rfl
    | cons a l ih => simp [ih]
  simp only [id, this]
theorem flat_bD (l : List UInt8) : (l.flatMap fun b => [D.c (.int .u8 (b.toNat : Int))]) = bD l := by
  unfold bD
  induction l with
  | nil => rfl
  | cons a l ih => simp [ih]
/-- Bytes. -/
theorem opens_bytes {P : Program} {t e : TypeId} (ht : P.underlying t = some (.slice e)) (he : P.underlying e = some (.int .u8)) (hsz : P.cellsOf e = 1) (hby : P.bytesOf e = 1) :
    Opens P t (fun l : List UInt8 => [.sl 1 l.length (bD l)]) (fun l => l.length + 1) (fun l => l.length ≤ reachBytes) := by
  have hb : Opens P e (fun b : UInt8 => [.c (.int .u8 (b.toNat : Int))]) (fun _ => 1) (fun _ => True) := by
    refine (opens_int he).mono (fun n => UInt8.ofNat n.toNat) (fun n hn => ?_) (fun _ _ => Nat.le_refl _) (fun _ _ => trivial)
    have h0 : (0 : Int) ≤ n := hn.1
    have h1 : n ≤ 255 := hn.2
    rw [u8_toNat, Nat.mod_eq_of_lt (by omega), Int.toNat_of_nonneg h0]
  refine (opens_slice ht hsz hby (fun _ _ => rfl) hb).mono id (fun l _ => ?_) (fun l _ => ?_) (fun l hl => ?_)
  · simp only [id, flat_bD]
  · have := sum_const (f := fun _ => 1) (sz := 1) l (fun _ _ => rfl)
    simp only [id]; omega
  · have := hl.1; simp only [id]; omega

/-! ### The arguments -/
def isOne : TypeDesc → Bool
  | .int _ => true
  | .bool => true
  | .string => true
  | .slice _ => true
  | .pointer _ => true
  | _ => false
theorem okWide_one {P : Program} {w : World} {r : Reach} {b0 : Nat} {t : TypeId} {d : TypeDesc} {v : Value} (ht : P.underlying t = some d) (hd : isOne d = true) (h : Value.okWide P w r b0 t v) : v.cells.toList = [v] := by
  cases d <;> simp only [isOne, Bool.false_eq_true] at hd
  all_goals
    simp only [Value.okWide, ht, Cell.okWide] at h
    cases v <;> simp_all [Cell.ok, Value.cells]
/-- One argument of one cell. -/
theorem arg_one {H : Type} {enc : TypeId × Value → H} {P : Program} {W : World} {r : Reach} {b0 : Nat} {t : TypeId} {dd : TypeDesc} {v : Value} {α : Type} {f : α → D} {ms : α → Nat} {ok : α → Prop} {d : DataW H} {p : List MemPlace} (ht : P.underlying t = some dd) (hd : isOne dd = true)
    (h : Opens P t (fun a => [f a]) ms ok) (hv : Value.okWide P W r b0 t v) (hw : ∀ n ∈ d.weights P t, n ≤ reachBytes) (hx : DataW.Trod enc P W 0 (fun _ => true) true t v d p) : ∃ a, ok a ∧ RA (env0 W) [] W (.d (f a)) v ∧ ms a ≤ bk d := by
  obtain ⟨n, hn⟩ := hx
  obtain ⟨a, h1, h2, h3⟩ := h H enc W n _ _ hn hw
  rw [okWide_one ht hd hv] at h2
  simp only [RL, List.cons.injEq] at h2
  obtain ⟨u, rest, ⟨rfl, rfl⟩, _, h4, _⟩ := h2
  exact ⟨a, h1, by simp only [RA]; exact h4, h3⟩
/-- One argument that is a struct or an array. -/
theorem arg_agg {H : Type} {enc : TypeId × Value → H} {P : Program} {W : World} {r : Reach} {b0 : Nat} {t : TypeId} {dd : TypeDesc} {v : Value} {α : Type} {en : α → List D} {ms : α → Nat} {ok : α → Prop} {d : DataW H} {p : List MemPlace} (ht : P.underlying t = some dd) (hd : isAggD dd = true)
    (h : Opens P t en ms ok) (hv : Value.okWide P W r b0 t v) (hw : ∀ n ∈ d.weights P t, n ≤ reachBytes) (hx : DataW.Trod enc P W 0 (fun _ => true) true t v d p) : ∃ a, ok a ∧ RA (env0 W) [] W (.d (.agg (en a))) v ∧ ms a ≤ bk d := by
  obtain ⟨n, hn⟩ := hx
  obtain ⟨a, h1, h2, h3⟩ := h H enc W n _ _ hn hw
  have : ∃ cs, v = .agg cs := by
    cases dd <;> simp only [isAggD, Bool.false_eq_true] at hd
    all_goals
      simp only [Value.okWide, ht] at hv
      obtain ⟨cs, rfl, _⟩ := hv
      exact ⟨cs, rfl⟩
  obtain ⟨cs, rfl⟩ := this
  exact ⟨a, h1, by simp only [RA, RD]; exact ⟨cs, rfl, h2⟩, h3⟩
theorem weights_of {H : Type} {P : Program} {ts : List TypeId} {ds : List (DataW H)} (h : (DataW.weightsEach P ts ds).all (· ≤ reachBytes) = true) (j : Nat) {t : TypeId} {d : DataW H} (ht : ts[j]? = some t) (hd : ds[j]? = some d) : ∀ n ∈ d.weights P t, n ≤ reachBytes := by
  intro n hn
  have := List.all_eq_true.1 h n (DataW.weights_mem_each ht hd n hn)
  simpa using this
end Go.Proofs.YtdbicadncccpoaaDoor
