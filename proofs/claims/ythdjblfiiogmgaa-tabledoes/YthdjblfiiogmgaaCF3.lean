/- The frame of these proofs: an abstract interpreter, proved sound once. -/
import Derived.Test.YthdjblfiiogmgaaCF2
import Derived.Orders
/- The frame of these proofs, part W: the rules for memory. -/
set_option linter.unusedVariables false
set_option linter.unusedSimpArgs false
namespace Go.Proofs.Ythdjblfiiogmgaa
open Go
section
variable {ti : Ti} {r r' : Rs} {t u s d e : TypeId} {k k' j : IntKind} {a b n m i : Int} {A B : ByteArray} {sz sz' q p off o f : Nat} {xs ys : List D} {l : List AV} {x y : AV} {mo : Mo} {mo' : Option Mo}

/-! ### Types -/
theorem szOf_eq : szOf ti t = match tK ti t with | .sl e => if tI ti e = true then some (tS ti e) else none | _ => none := by
  unfold szOf tK tI tS
  cases ti t with
  | none => rfl
  | some i =>
    obtain ⟨u, _, _, _⟩ := i
    cases u <;> simp [tkOf]
    rename_i e
    cases ti e <;> rfl

/-! ### Indexing -/
def ixStr : TK → ByteArray → Int → Option AV
  | .str, s, n => chk (0 ≤ n ∧ n < s.size) (some (.d (.c (.int .u8 (sB s n.toNat)))))
  | _, _, _ => none
theorem ixStr_str : ixStr .str A n = chk (0 ≤ n ∧ n < A.size) (some (.d (.c (.int .u8 (sB A n.toNat))))) := rfl
theorem ix_str : evIndex ti t (.d (.c (.string A))) n = ixStr (tK ti t) A n := by
  unfold evIndex tK ixStr
  cases ti t with
  | none => rfl
  | some i => obtain ⟨u, _, _, _⟩ := i; cases u <;> rfl
def ixGd : Bool → Bool → Nat → Nat → Int → List D → Option AV
  | true, true, sz, n, i, xs => chk (0 ≤ i ∧ i < n) (chk (i.toNat * sz + sz ≤ xs.length) (some (.d (.agg ((xs.drop (i.toNat * sz)).take sz)))))
  | true, false, sz, n, i, xs => chk (0 ≤ i ∧ i < n) ((xs[i.toNat * sz]?).map .d)
  | false, _, _, _, _, _ => none
theorem ixGd_agg : ixGd true true sz q n xs = chk (0 ≤ n ∧ n < q) (chk (n.toNat * sz + sz ≤ xs.length) (some (.d (.agg ((xs.drop (n.toNat * sz)).take sz))))) := rfl
theorem ixGd_one : ixGd true false sz q n xs = chk (0 ≤ n ∧ n < q) ((xs[n.toNat * sz]?).map .d) := rfl
def ixG (ti : Ti) : TK → Int → List D → Option AV
  | .arr n e, i, xs => ixGd (tI ti e) (tG ti e) (tS ti e) n i xs
  | _, _, _ => none
theorem ixG_arr : ixG ti (.arr q e) n xs = ixGd (tI ti e) (tG ti e) (tS ti e) q n xs := rfl
theorem ix_dagg : evIndex ti t (.d (.agg xs)) n = ixG ti (tK ti t) n xs := by
  unfold evIndex tK ixG
  cases ti t with
  | none => rfl
  | some i =>
    obtain ⟨u, _, _, _⟩ := i
    cases u <;> try rfl
    rename_i e
    simp only [tkOf]
    unfold ixGd tI tG tS
    cases ti e with
    | none => rfl
    | some ie => simp only [Option.isSome_some]; cases isAggD ie.u <;> simp
def ixAd : Bool → Bool → Nat → Nat → Int → List AV → Option AV
  | true, true, sz, n, i, l => chk (0 ≤ i ∧ i < n) (chk (i.toNat * sz + sz ≤ l.length) (some (mkAgg ((l.drop (i.toNat * sz)).take sz))))
  | true, false, sz, n, i, l => chk (0 ≤ i ∧ i < n) (l[i.toNat * sz]?)
  | false, _, _, _, _, _ => none
theorem ixAd_agg : ixAd true true sz q n l = chk (0 ≤ n ∧ n < q) (chk (n.toNat * sz + sz ≤ l.length) (some (mkAgg ((l.drop (n.toNat * sz)).take sz)))) := rfl
theorem ixAd_one : ixAd true false sz q n l = chk (0 ≤ n ∧ n < q) (l[n.toNat * sz]?) := rfl
def ixA (ti : Ti) : TK → Int → List AV → Option AV
  | .arr n e, i, l => ixAd (tI ti e) (tG ti e) (tS ti e) n i l
  | _, _, _ => none
theorem ixA_arr : ixA ti (.arr q e) n l = ixAd (tI ti e) (tG ti e) (tS ti e) q n l := rfl
theorem ix_agg : evIndex ti t (.agg l) n = ixA ti (tK ti t) n l := by
  unfold evIndex tK ixA
  cases ti t with
  | none => rfl
  | some i =>
    obtain ⟨u, _, _, _⟩ := i
    cases u <;> try rfl
    rename_i e
    simp only [tkOf]
    unfold ixAd tI tG tS
    cases ti e with
    | none => rfl
    | some ie => simp only [Option.isSome_some]; cases isAggD ie.u <;> simp
def ixD : Option Nat → Nat → Nat → List D → Int → Option AV
  | some sz', sz, n, xs, i => if sz' = sz then chk (0 ≤ i ∧ i < n ∧ 0 < sz) (some (.el (xs.drop (i.toNat * sz)))) else none
  | none, _, _, _, _ => none
theorem ixD_some : ixD (some sz') sz q xs i = if sz' = sz then chk (0 ≤ i ∧ i < q ∧ 0 < sz) (some (.el (xs.drop (i.toNat * sz)))) else none := rfl
theorem ixa_dsl : evIndexAddr ti r t (.d (.sl sz q xs)) i = ixD (szOf ti t) sz q xs i := by
  unfold evIndexAddr ixD slOf
  cases szOf ti t with
  | none => rfl
  | some sz' =>
    simp only
    by_cases h : sz = sz'
    · subst h; simp
    · simp [h, Ne.symm h]
theorem ixa_sl : evIndexAddr ti r t (.sl mo sz q xs) i = ixD (szOf ti t) sz q xs i := by
  unfold evIndexAddr ixD slOf
  cases szOf ti t with
  | none => rfl
  | some sz' =>
    simp only
    by_cases h : sz = sz'
    · subst h; simp
    · simp [h, Ne.symm h]
def ixP (ti : Ti) : TK → Option (List AV) → Nat → Nat → Int → Option AV
  | .arr n e, some _, o, off, i => if tI ti e = true then chk (0 ≤ i ∧ i < n) (some (.ptr o (off + i.toNat * tS ti e))) else none
  | _, _, _, _, _ => none
theorem ixP_arr : ixP ti (.arr q e) (some l) o off i = if tI ti e = true then chk (0 ≤ i ∧ i < q) (some (.ptr o (off + i.toNat * tS ti e))) else none := rfl
theorem ixa_ptr : evIndexAddr ti r t (.ptr o off) i = ixP ti (tK ti t) (objOf r o) o off i := by
  unfold evIndexAddr tK ixP tI tS
  dsimp only
  cases ti t with
  | none => rfl
  | some i' =>
    obtain ⟨u, _, _, _⟩ := i'
    cases u <;> cases objOf r o <;> simp [tkOf]
    rename_i e _
    cases ti e <;> rfl
def ixE (ti : Ti) : TK → List D → Int → Option AV
  | .arr n e, xs, i => if tI ti e = true then chk (0 ≤ i ∧ i < n) (some (.el (xs.drop (i.toNat * tS ti e)))) else none
  | _, _, _ => none
theorem ixE_arr : ixE ti (.arr q e) xs i = if tI ti e = true then chk (0 ≤ i ∧ i < q) (some (.el (xs.drop (i.toNat * tS ti e)))) else none := rfl
theorem ixa_el : evIndexAddr ti r t (.el xs) i = ixE ti (tK ti t) xs i := by
  unfold evIndexAddr tK ixE tI tS
  cases ti t with
  | none => rfl
  | some i' =>
    obtain ⟨u, _, _, _⟩ := i'
    cases u <;> simp [tkOf]
    rename_i e
    cases ti e <;> rfl
def ixO : Option Nat → Option (List AV) → Nat → Nat → Nat → Nat → Int → Option AV
  | some sz', some _, o, off, sz, n, i => if sz' = sz then chk (0 ≤ i ∧ i < n) (some (.ptr o (off + i.toNat * sz))) else none
  | _, _, _, _, _, _, _ => none
theorem ixO_some : ixO (some sz') (some l) o off sz q i = if sz' = sz then chk (0 ≤ i ∧ i < q) (some (.ptr o (off + i.toNat * sz))) else none := rfl
theorem ixa_osl : evIndexAddr ti r t (.osl o off sz q) i = ixO (szOf ti t) (objOf r o) o off sz q i := by
  unfold evIndexAddr ixO
  dsimp only
  cases objOf r o with
  | none => cases szOf ti t <;> rfl
  | some l =>
    cases szOf ti t with
    | none => simp [chk]
    | some sz' =>
      by_cases h : sz' = sz
      · subst h; simp [chk]
      · simp [chk, h]

/-! ### Fields -/
def fdP (ti : Ti) : Option (Nat × TypeId) → Option (List AV) → Nat → Nat → Option AV
  | some (fo, ft), some _, o, off => if tI ti ft = true then chk (tS ti ft ≠ 0) (some (.ptr o (off + fo))) else none
  | _, _, _, _ => none
theorem fdP_some {fo : Nat} {ft : TypeId} : fdP ti (some (fo, ft)) (some l) o off = if tI ti ft = true then chk (tS ti ft ≠ 0) (some (.ptr o (off + fo))) else none := rfl
theorem fda_ptr : evFieldAddr ti r t (.ptr o off) f = fdP ti (fieldOf ti t f) (objOf r o) o off := by
  unfold evFieldAddr fdP tI tS
  dsimp only
  cases fieldOf ti t f with
  | none => rfl
  | some p =>
    obtain ⟨fo, ft⟩ := p
    simp only
    generalize objOf r o = w
    cases w with
    | none => cases ti ft <;> rfl
    | some i => dsimp only; cases ti ft <;> rfl
def fdE (ti : Ti) : Option (Nat × TypeId) → List D → Option AV
  | some (fo, ft), xs => if tI ti ft = true then chk (tS ti ft ≠ 0) (some (.el (xs.drop fo))) else none
  | _, _ => none
theorem fdE_some {fo : Nat} {ft : TypeId} : fdE ti (some (fo, ft)) xs = if tI ti ft = true then chk (tS ti ft ≠ 0) (some (.el (xs.drop fo))) else none := rfl
theorem fda_el : evFieldAddr ti r t (.el xs) f = fdE ti (fieldOf ti t f) xs := by
  unfold evFieldAddr fdE tI tS
  cases fieldOf ti t f with
  | none => rfl
  | some p =>
    obtain ⟨fo, ft⟩ := p
    simp only
    cases ti ft <;> rfl
def fdA (ti : Ti) : Option (Nat × TypeId) → List D → Option AV
  | some (fo, ft), xs => if tI ti ft = true then (if tG ti ft = true then chk (fo + tS ti ft ≤ xs.length) (some (.d (.agg ((xs.drop fo).take (tS ti ft))))) else (xs[fo]?).map .d) else none
  | _, _ => none
theorem fdA_some {fo : Nat} {ft : TypeId} : fdA ti (some (fo, ft)) xs = if tI ti ft = true then (if tG ti ft = true then chk (fo + tS ti ft ≤ xs.length) (some (.d (.agg ((xs.drop fo).take (tS ti ft))))) else (xs[fo]?).map .d) else none := rfl
theorem fd_dagg : evField ti t (.d (.agg xs)) f = fdA ti (fieldOf ti t f) xs := by
  unfold evField fdA tI tS tG
  cases fieldOf ti t f with
  | none => rfl
  | some p =>
    obtain ⟨fo, ft⟩ := p
    simp only
    cases ti ft with
    | none => rfl
    | some i =>
      simp only [Option.isSome_some, if_true]
      cases isAggD i.u
      · simp
      · simp only [if_true]
        unfold chk; split <;> rfl
def fdG (ti : Ti) : Option (Nat × TypeId) → List AV → Option AV
  | some (fo, ft), l => if tI ti ft = true then (if tG ti ft = true then chk (fo + tS ti ft ≤ l.length) (some (mkAgg ((l.drop fo).take (tS ti ft)))) else l[fo]?) else none
  | _, _ => none
theorem fdG_some {fo : Nat} {ft : TypeId} : fdG ti (some (fo, ft)) l = if tI ti ft = true then (if tG ti ft = true then chk (fo + tS ti ft ≤ l.length) (some (mkAgg ((l.drop fo).take (tS ti ft)))) else l[fo]?) else none := rfl
theorem fd_agg : evField ti t (.agg l) f = fdG ti (fieldOf ti t f) l := by
  unfold evField fdG tI tS tG
  cases fieldOf ti t f with
  | none => rfl
  | some p =>
    obtain ⟨fo, ft⟩ := p
    simp only
    cases ti ft <;> rfl

/-! ### Loads -/
def ldE : Bool → Bool → Nat → List D → Option AV
  | true, true, s, xs => chk (s ≤ xs.length) (some (.d (.agg (xs.take s))))
  | true, false, _, xs => (xs[0]?).map .d
  | false, _, _, _ => none
theorem ldE_agg : ldE true true q xs = chk (q ≤ xs.length) (some (.d (.agg (xs.take q)))) := rfl
theorem ldE_one : ldE true false q xs = (xs[0]?).map .d := rfl
theorem ld_el : evLoad ti r t (.el xs) = ldE (tI ti t) (tG ti t) (tS ti t) xs := by
  unfold evLoad ldE tI tG tS
  cases ti t with
  | none => rfl
  | some i => simp only [Option.isSome_some]; cases isAggD i.u <;> rfl
def ldP : Bool → Bool → Nat → Option (List AV) → Nat → Option AV
  | true, true, s, some l, off => chk (off + s ≤ l.length) (some (mkAgg ((l.drop off).take s)))
  | true, false, _, some l, off => l[off]?
  | _, _, _, _, _ => none
theorem ldP_agg : ldP true true q (some l) off = chk (off + q ≤ l.length) (some (mkAgg ((l.drop off).take q))) := rfl
theorem ldP_one : ldP true false q (some l) off = l[off]? := rfl
theorem ld_ptr : evLoad ti r t (.ptr o off) = ldP (tI ti t) (tG ti t) (tS ti t) (objOf r o) off := by
  unfold evLoad ldP tI tG tS
  cases ti t with
  | none => cases objOf r o <;> rfl
  | some i => simp only [Option.isSome_some]; cases objOf r o <;> cases isAggD i.u <;> rfl

/-! ### Data out of what stands in slots -/
def cons2 : Option D → Option (List D) → Option (List D)
  | some d, some ds => some (d :: ds)
  | _, _ => none
theorem cons2_some {d : D} {ds : List D} : cons2 (some d) (some ds) = some (d :: ds) := rfl
theorem cons2_none {ds : Option (List D)} : cons2 none ds = none := rfl
theorem cons2_none2 {d : Option D} : cons2 d none = none := by cases d <;> rfl
theorem allD_nil : allD [] = some [] := rfl
theorem allD_cons : allD (x :: l) = cons2 (toD x) (allD l) := by
  rw [allD]; unfold cons2; cases toD x <;> cases allD l <;> rfl
theorem toD_d {z : D} : toD (.d z) = some z := rfl
theorem toD_sl : toD (.sl mo sz q xs) = some (.sl sz q xs) := rfl
theorem toD_agg : toD (.agg l) = (allD l).map .agg := rfl
theorem toD_el : toD (.el xs) = some (.p xs) := rfl
theorem toD_ptr : toD (.ptr o off) = none := rfl
theorem toD_osl : toD (.osl o off sz q) = none := rfl
theorem toD_mp : toD (.mp o) = none := rfl
theorem toD_fn {g : Fn} {v w : List AV} : toD (.fn g v w) = none := rfl
def mk2 : Option (List D) → List AV → AV
  | some ds, _ => .d (.agg ds)
  | none, l => .agg l
theorem mk2_some : mk2 (some xs) l = .d (.agg xs) := rfl
theorem mk2_none : mk2 none l = .agg l := rfl
theorem mkAgg_eq : mkAgg l = mk2 (allD l) l := by unfold mkAgg mk2; cases allD l <;> rfl
theorem ca_dagg : cellsAV (.d (.agg xs)) = some (xs.map .d) := rfl
theorem ca_agg : cellsAV (.agg l) = some l := rfl
theorem ca_c {v : Value} : cellsAV (.d (.c v)) = some [.d (.c v)] := rfl
theorem ca_dsl : cellsAV (.d (.sl sz q xs)) = some [.d (.sl sz q xs)] := rfl
theorem ca_dp : cellsAV (.d (.p xs)) = some [.d (.p xs)] := rfl
theorem ca_sl : cellsAV (.sl mo sz q xs) = some [.sl mo sz q xs] := rfl
theorem ca_ptr : cellsAV (.ptr o off) = some [.ptr o off] := rfl
theorem ca_mp : cellsAV (.mp o) = some [.mp o] := rfl
theorem ca_fn {g : Fn} {v w : List AV} : cellsAV (.fn g v w) = some [.fn g v w] := rfl
theorem ca_osl : cellsAV (.osl o off sz q) = some [.osl o off sz q] := rfl
theorem ca_el : cellsAV (.el xs) = some [.el xs] := rfl
theorem lv_d {z : D} : liveAV r (.d z) = true := rfl
theorem lv_sl : liveAV r (.sl mo sz q xs) = true := rfl
theorem lv_agg : liveAV r (.agg l) = true := rfl
theorem lv_mp {i : Nat} : liveAV r (.mp i) = (mapOf r i).isSome := by
  simp only [liveAV, mapOf]
  generalize r[i]? = q
  rcases q with _ | _ | x <;> first | rfl | (cases x <;> first | rfl | (rename_i y; cases y <;> rfl))
theorem lv_fn {g : Fn} {v w : List AV} : liveAV r (.fn g v w) = true := rfl
theorem lv_el : liveAV r (.el xs) = true := rfl
theorem lv_osl : liveAV r (.osl o off sz q) = true := rfl
theorem lv_ptr : liveAV r (.ptr o off) = (objOf r o).isSome := by
  unfold liveAV objOf
  dsimp only
  cases h : r[o]? with
  | none => rfl
  | some x => cases x with
    | none => rfl
    | some x => cases x <;> rfl

/-! ### Structs and arrays of the call's own -/
def bx : Option (List AV) → Bool → Rs → Option (AV × Rs)
  | some cs, true, r => some (.ptr r.length 0, r ++ [some (.obj cs)])
  | _, _, _ => none
theorem bx_some : bx (some l) true r = some (.ptr r.length 0, r ++ [some (.obj l)]) := rfl
theorem box_eq : evBox r x = bx (cellsAV x) (liveAV r x) r := by
  unfold evBox bx
  cases cellsAV x with
  | none => rfl
  | some cs => cases liveAV r x <;> rfl
theorem alc_some : evAlc r (some l) = some (.ptr r.length 0, r ++ [some (.obj l)]) := rfl
def sto : Bool → Nat → Option (List AV) → Option (List AV) → Bool → Rs → Nat → Nat → Option (AV × Rs)
  | true, s, some cs, some l, true, r, o, off => chk (cs.length = s ∧ off + cs.length ≤ l.length) (some (.top, r.set o (some (.obj (splice l off cs)))))
  | _, _, _, _, _, _, _, _ => none
theorem sto_some {cs : List AV} : sto true q (some cs) (some l) true r o off = chk (cs.length = q ∧ off + cs.length ≤ l.length) (some (.top, r.set o (some (.obj (splice l off cs))))) := rfl
theorem st_ptr : evStore ti r t (.ptr o off) x = sto (tI ti t) (tS ti t) (cellsAV x) (objOf r o) (liveAV r x) r o off := by
  unfold evStore sto tI tS
  cases ti t with
  | none => rfl
  | some i =>
    simp only [Option.isSome_some]
    cases cellsAV x with
    | none => rfl
    | some cs =>
      simp only
      cases objOf r o with
      | none => rfl
      | some l => cases liveAV r x <;> rfl
theorem splice_one : splice l off [x] = l.set off x := rfl
theorem splice_two {cs : List AV} : splice l off (x :: y :: cs) = l.take off ++ (x :: y :: cs) ++ l.drop (off + (x :: y :: cs).length) := rfl

/-! ### Slices and structs made of parts -/
def bs0 : Option Nat → Rs → Option (AV × Rs)
  | some sz, r => some (.sl .full sz 0 [], r)
  | none, _ => none
theorem bs0_some : bs0 (some sz) r = some (.sl .full sz 0 [], r) := rfl
theorem bs_zero : evBS ti r t 0 [] = bs0 (szOf ti t) r := by
  unfold evBS szOf bs0
  cases ti t with
  | none => rfl
  | some i =>
    obtain ⟨u, _, _, _⟩ := i
    cases u <;> try rfl
    rename_i e
    simp only
    cases ti e with
    | none => rfl
    | some ie => simp
def fl (place : Nat → Option (Nat × Nat)) : Option (Nat × Nat) → Option (List AV) → List AV → List (Nat × AV) → Option (List AV)
  | some (off, size), some cs, cells, rest => if cs.length = size ∧ off + size ≤ cells.length then fillA place (splice cells off cs) rest else none
  | _, _, _, _ => none
theorem fl_some {place : Nat → Option (Nat × Nat)} {cs cells : List AV} {rest : List (Nat × AV)} : fl place (some (off, sz)) (some cs) cells rest = if cs.length = sz ∧ off + sz ≤ cells.length then fillA place (splice cells off cs) rest else none := rfl
theorem fill_nil {place : Nat → Option (Nat × Nat)} : fillA place l [] = some l := rfl
theorem fill_cons {place : Nat → Option (Nat × Nat)} {rest : List (Nat × AV)} : fillA place l ((q, x) :: rest) = fl place (place q) (cellsAV x) l rest := by
  rw [fillA]
  unfold fl
  cases place q with
  | none => rfl
  | some p =>
    obtain ⟨off, size⟩ := p
    cases cellsAV x with
    | none => rfl
    | some cs =>
      simp only
      split
      · rename_i h
        rw [splice_eq (by omega), h.1]
      · rfl
def bs4 : Option (List D) → List AV → Nat → Nat → Rs → Option (AV × Rs)
  | some ds, _, s, n, r => some (.sl .full s n ds, r)
  | none, out, s, n, r => some (.osl r.length 0 s n, r ++ [some (.obj out)])
theorem bs4_some : bs4 (some xs) l sz q r = some (.sl .full sz q xs, r) := rfl
theorem bs4_none : bs4 none l sz q r = some (.osl r.length 0 sz q, r ++ [some (.obj l)]) := rfl
theorem litO_f {o : Option (List D)} : litO false o = o := rfl
theorem litO_t {o : Option (List D)} : litO true o = none := rfl
def bs3 (li : Bool) : Option (List AV) → Nat → Nat → Rs → Option (AV × Rs)
  | some out, s, n, r => bs4 (litO li (allD out)) out s n r
  | none, _, _, _ => none
theorem bs3_some {li : Bool} : bs3 li (some l) sz q r = bs4 (litO li (allD l)) l sz q r := rfl
def bs2 (li : Bool) : Option (List AV) → Nat → Bool → Nat → List (Nat × AV) → Rs → Option (AV × Rs)
  | some zl, s, true, n, parts, r => if 0 < s ∧ n * s ≤ 16777216 then bs3 li (fillA (fun i => some (i * s, s)) (repA zl n) parts) s n r else none
  | _, _, _, _, _, _ => none
theorem bs2_some {li : Bool} {zl : List AV} {parts : List (Nat × AV)} : bs2 li (some zl) sz true q parts r = if 0 < sz ∧ q * sz ≤ 16777216 then bs3 li (fillA (fun i => some (i * sz, sz)) (repA zl q) parts) sz q r else none := rfl
def bs1 (ti : Ti) : TK → Bool → Nat → List (Nat × AV) → Rs → Option (AV × Rs)
  | .sl e, q, n, parts, r => if tI ti e = true then bs2 ti.lit (tZ ti e) (tS ti e) q n parts r else none
  | _, _, _, _, _ => none
theorem bs1_sl {parts : List (Nat × AV)} {z : Bool} : bs1 ti (.sl e) z q parts r = if tI ti e = true then bs2 ti.lit (tZ ti e) (tS ti e) z q parts r else none := rfl
theorem bs_succ {parts : List (Nat × AV)} : evBS ti r t (q + 1) parts = bs1 ti (tK ti t) (parts.all fun p => liveAV r p.2) (q + 1) parts r := by
  unfold evBS bs1 tK
  cases ti t with
  | none => rfl
  | some i =>
    obtain ⟨u, _, _, _⟩ := i
    cases u <;> try rfl
    rename_i e
    simp only [tkOf]
    unfold tI tZ tS bs2
    cases ti e with
    | none => rfl
    | some ie =>
      simp only [Option.isSome_some, if_true]
      cases zeroA ie.zero with
      | none => rfl
      | some zl =>
        simp only
        cases parts.all fun p => liveAV r p.2 with
        | false => simp
        | true =>
          simp only [true_and]
          split
          · unfold bs3
            cases fillA (fun i => some (i * ie.size, ie.size)) (repA zl (q + 1)) parts with
            | none => rfl
            | some out => simp only; unfold bs4; cases litO ti.lit (allD out) <;> rfl
          · rfl
theorem rep_zero {zl : List AV} : repA zl 0 = [] := rfl
theorem rep_succ {zl : List AV} : repA zl (q + 1) = zl ++ repA zl q := rfl
def bd2 : Option (List (Nat × Nat)) → Option (List AV) → Bool → List (Nat × AV) → Option AV
  | some pl, some zl, true, parts => (fillA (fun i => pl[i]?) zl parts).map mkAgg
  | _, _, _, _ => none
theorem bd2_some {pl : List (Nat × Nat)} {zl : List AV} {parts : List (Nat × AV)} : bd2 (some pl) (some zl) true parts = (fillA (fun i => pl[i]?) zl parts).map mkAgg := rfl
def bd3 (ti : Ti) : Option (List AV) → Bool → TypeId → List (Nat × AV) → Option AV
  | some zl, true, e, parts => if tI ti e = true then (fillA (fun i => some (i * tS ti e, tS ti e)) zl parts).map mkAgg else none
  | _, _, _, _ => none
theorem bd3_some {zl : List AV} {parts : List (Nat × AV)} : bd3 ti (some zl) true e parts = if tI ti e = true then (fillA (fun i => some (i * tS ti e, tS ti e)) zl parts).map mkAgg else none := rfl
def bd1 (ti : Ti) (t : TypeId) : TK → Bool → List (Nat × AV) → Option AV
  | .st, q, parts => bd2 (tP ti t) (tZ ti t) q parts
  | .arr _ e, q, parts => bd3 ti (tZ ti t) q e parts
  | _, _, _ => none
theorem bd1_st {z : Bool} {parts : List (Nat × AV)} : bd1 ti t .st z parts = bd2 (tP ti t) (tZ ti t) z parts := rfl
theorem bd1_arr {z : Bool} {parts : List (Nat × AV)} : bd1 ti t (.arr q e) z parts = bd3 ti (tZ ti t) z e parts := rfl
theorem bd_eq {parts : List (Nat × AV)} : evBuild ti r t parts = bd1 ti t (tK ti t) (parts.all fun p => liveAV r p.2) parts := by
  unfold evBuild bd1 tK
  cases hall : parts.all fun p => liveAV r p.2 with
  | false =>
    simp only [Bool.false_eq_true, if_false]
    cases ti t with
    | none => rfl
    | some i => obtain ⟨u, _, _, _⟩ := i; cases u <;> simp [tkOf, bd2, bd3]
  | true =>
    simp only [if_true]
    unfold bd2 bd3 tP tZ tI tS
    cases ti t with
    | none => rfl
    | some i =>
      obtain ⟨u, _, _, z⟩ := i
      cases u <;> try rfl
      · rename_i n e
        simp only [tkOf]
        generalize zeroA z = w
        cases w with
        | none => cases ti e <;> rfl
        | some ie => dsimp only; cases ti e <;> rfl
      · rename_i fs
        simp only [tkOf]
        cases placesA ti fs.toList <;> cases zeroA z <;> rfl

/-! ### Appending -/
theorem slOf_dsl : slOf sz (.d (.sl sz' q xs)) = if sz' = sz then some (none, q, xs) else none := rfl
theorem slOf_nil : slOf sz (.d (.c (.slice none 0 0))) = some (some .full, 0, []) := rfl
theorem slOf_cs {a : Addr} {c : Nat} : slOf sz (.d (.c (.slice (some a) 0 c))) = some (none, 0, []) := rfl
theorem slOf_sl : slOf sz (.sl mo sz' q xs) = if sz' = sz then some (some mo, q, xs) else none := rfl
theorem srcOf_str : srcOf r sz (.d (.c (.string A))) = if sz = 1 then some (A.size, bD A.toList) else none := rfl
theorem srcOf_dsl : srcOf r sz (.d (.sl sz' q xs)) = if sz' = sz then some (q, xs) else none := by
  unfold srcOf; simp only [slOf_dsl]; by_cases h : sz' = sz <;> simp [h]
theorem srcOf_sl : srcOf r sz (.sl mo sz' q xs) = if sz' = sz then some (q, xs) else none := by
  unfold srcOf; simp only [slOf_sl]; by_cases h : sz' = sz <;> simp [h]
theorem srcOf_cs {a : Addr} {c : Nat} : srcOf r sz (.d (.c (.slice (some a) 0 c))) = some (0, []) := rfl
theorem srcOf_nil : srcOf r sz (.d (.c (.slice none 0 0))) = some (0, []) := rfl
def srO (o : Option (List AV)) (off sz sz' n : Nat) : Option (Nat × List D) := match o with
  | some l => if sz' = sz ∧ 0 < n then (allD ((l.drop off).take (n * sz))).map fun ds => (n, ds) else none
  | none => none
theorem srO_some {sz sz' n : Nat} : srO (some l) off sz sz' n = if sz' = sz ∧ 0 < n then (allD ((l.drop off).take (n * sz))).map fun ds => (n, ds) else none := rfl
theorem srcOf_osl {n : Nat} : srcOf r sz (.osl o off sz' n) = srO (objOf r o) off sz sz' n := by
  unfold srcOf srO
  simp only
  cases objOf r o <;> split <;> simp_all
theorem srcOf_csl {n c : Nat} : srcOf r sz (.csl o off sz' n c) = srO (objOf r o) off sz sz' n := by
  unfold srcOf srO
  simp only
  cases objOf r o <;> split <;> simp_all
def arX : Option (Option Res) → Rs → Nat → Nat → Nat → Option (Nat × Rs)
  | some (some (.tok k)), r, lx, ly, i => chk (k = lx) (some (i, r.set i (some (.tok (lx + ly)))))
  | _, _, _, _, _ => none
theorem arX_tok {k lx ly : Nat} : arX (some (some (.tok k))) r lx ly o = chk (k = lx) (some (o, r.set o (some (.tok (lx + ly))))) := rfl
theorem app_full {lx ly : Nat} : appRes r lx ly .full = some (r.length, r ++ [some (.tok (lx + ly))]) := rfl
theorem app_own {lx ly : Nat} : appRes r lx ly (.own o) = arX (r[o]?) r lx ly o := by
  unfold appRes arX chk
  dsimp only
  cases r[o]? with
  | none => rfl
  | some x => cases x with
    | none => rfl
    | some x => cases x <;> rfl
def isSrc : TK → Bool
  | .sl _ => true
  | .str => true
  | _ => false
theorem isSrc_sl : isSrc (.sl e) = true := rfl
theorem isSrc_str : isSrc .str = true := rfl
def ap2 : Option (Nat × Rs) → Nat → Nat → Nat → Nat → List D → List D → Option (AV × Rs)
  | some (i, r'), sz, by_, n, m, xs, ys => chk (0 < sz ∧ n + m ≤ 9223372036854775807 ∧ (n + m) * by_ ≤ 140737488355328) (some (.sl (.own i) sz (n + m) (xs ++ ys), r'))
  | none, _, _, _, _, _, _ => none
theorem ap2_some {by_ n m : Nat} : ap2 (some (o, r')) sz by_ n m xs ys = chk (0 < sz ∧ n + m ≤ 9223372036854775807 ∧ (n + m) * by_ ≤ 140737488355328) (some (.sl (.own o) sz (n + m) (xs ++ ys), r')) := rfl
def ap1 (r : Rs) : Option (Option Mo × Nat × List D) → Option (Nat × List D) → Bool → Nat → Nat → Option (AV × Rs)
  | some (some mo, n, xs), some (m, ys), true, sz, by_ => ap2 (appRes r xs.length ys.length mo) sz by_ n m xs ys
  | _, _, _, _, _ => none
theorem ap1_some {by_ n m : Nat} : ap1 r (some (some mo, n, xs)) (some (m, ys)) true sz by_ = ap2 (appRes r xs.length ys.length mo) sz by_ n m xs ys := rfl
def ap0 (ti : Ti) (r : Rs) : TK → TK → AV → AV → Option (AV × Rs)
  | .sl e, u, s, x => if tI ti e = true then ap1 r (slOf (tS ti e) s) (srcOf r (tS ti e) x) (isSrc u) (tS ti e) (tB ti e) else none
  | _, _, _, _ => none
theorem ap0_sl {k : TK} : ap0 ti r (.sl e) k x y = if tI ti e = true then ap1 r (slOf (tS ti e) x) (srcOf r (tS ti e) y) (isSrc k) (tS ti e) (tB ti e) else none := rfl
theorem ap_eq : evApp ti r t u x y = ap0 ti r (tK ti t) (tK ti u) x y := by
  unfold evApp ap0 tK
  cases ti t with
  | none => cases ti u <;> rfl
  | some i =>
    obtain ⟨ut, _, _, _⟩ := i
    cases ti u with
    | none =>
      cases ut <;> try rfl
      rename_i e
      simp only [tkOf, isSrc]
      unfold tI tS tB ap1
      cases ti e with
      | none => rfl
      | some ie => simp
    | some iu =>
      obtain ⟨uu, _, _, _⟩ := iu
      cases ut <;> try rfl
      rename_i e
      simp only [tkOf]
      unfold tI tS tB ap1
      cases ti e with
      | none => rfl
      | some ie =>
        simp only [Option.isSome_some, if_true]
        cases hs : slOf ie.size x with
        | none => simp
        | some q =>
          obtain ⟨q1, q2, q3⟩ := q
          cases q1 with
          | none => simp
          | some mo =>
            cases hx : srcOf r ie.size y with
            | none => simp
            | some p =>
              obtain ⟨p1, p2⟩ := p
              dsimp only
              cases uu <;> dsimp only [isSrc, ap2] <;> (try (cases appRes r q3.length p2.length mo <;> rfl))
def mk1 (ti : Ti) (r : Rs) : TK → Int → Int → Option (AV × Rs)
  | .sl e, n, k => if tI ti e = true then chk (n = 0 ∧ 0 ≤ k ∧ (tB ti e : Int) * k ≤ 281474976710656 ∧ k ≤ 9223372036854775807) (some (.sl (.own r.length) (tS ti e) 0 [], r ++ [some (.tok 0)])) else none
  | _, _, _ => none
theorem mk1_sl : mk1 ti r (.sl e) n m = if tI ti e = true then chk (n = 0 ∧ 0 ≤ m ∧ (tB ti e : Int) * m ≤ 281474976710656 ∧ m ≤ 9223372036854775807) (some (.sl (.own r.length) (tS ti e) 0 [], r ++ [some (.tok 0)])) else none := rfl
theorem mk_eq : evMk ti r t (.d (.c (.int k n))) (.d (.c (.int j m))) = mk1 ti r (tK ti t) n m := by
  unfold evMk mk1 tK
  cases ti t with
  | none => rfl
  | some i =>
    obtain ⟨ut, _, _, _⟩ := i
    cases ut <;> try rfl
    rename_i e
    simp only [tkOf, intOfA]
    unfold tI tS tB
    cases ti e <;> rfl

/-! ### Lengths -/
def lnS : TK → Int → Option Int
  | .str, n => some n
  | _, _ => none
theorem lnS_str : lnS .str n = some n := rfl
def lnL : TK → Int → Option Int
  | .sl _, n => some n
  | _, _ => none
theorem lnL_sl : lnL (.sl e) n = some n := rfl
theorem len_str : lenAV ti r t (.d (.c (.string A))) = lnS (tK ti t) A.size := by
  unfold lenAV lnS tK
  cases ti t with
  | none => rfl
  | some i => obtain ⟨u, _, _, _⟩ := i; cases u <;> rfl
theorem len_dsl : lenAV ti r t (.d (.sl sz q xs)) = lnL (tK ti t) q := by
  unfold lenAV lnL tK
  cases ti t with
  | none => rfl
  | some i => obtain ⟨u, _, _, _⟩ := i; cases u <;> rfl
theorem len_sl : lenAV ti r t (.sl mo sz q xs) = lnL (tK ti t) q := by
  unfold lenAV lnL tK
  cases ti t with
  | none => rfl
  | some i => obtain ⟨u, _, _, _⟩ := i; cases u <;> rfl
theorem len_osl : lenAV ti r t (.osl o off sz q) = lnL (tK ti t) q := by
  unfold lenAV lnL tK
  cases ti t with
  | none => rfl
  | some i => obtain ⟨u, _, _, _⟩ := i; cases u <;> rfl
theorem len_nil : lenAV ti r t (.d (.c (.slice none 0 0))) = lnL (tK ti t) 0 := by
  unfold lenAV lnL tK
  cases ti t with
  | none => rfl
  | some i => obtain ⟨u, _, _, _⟩ := i; cases u <;> rfl
theorem lenV_some : lenV (some n) = some (.d (.c (.int .i64 n))) := rfl
theorem min_int : minAV false (.d (.c (.int k a))) (.d (.c (.int k b))) = some (.d (.c (.int k (if b < a then b else a)))) := by simp [minAV]
theorem max_int : minAV true (.d (.c (.int k a))) (.d (.c (.int k b))) = some (.d (.c (.int k (if b > a then b else a)))) := by simp [minAV]

/-! ### Slicing -/
theorem optI_none : optI none = some none := rfl
theorem optI_int : optI (some (.d (.c (.int k n)))) = some (some n) := rfl
theorem sl3_some {lo hi mx : Option Int} : sl3 ti r t x (some lo) (some hi) (some mx) = evSlice ti r t x lo hi mx := rfl
def ssS : TK → ByteArray → Int → Int → Option AV
  | .str, s, l, h => chk (0 ≤ l ∧ l ≤ h ∧ h ≤ s.size) (some (.d (.c (.string (s.extract l.toNat h.toNat)))))
  | _, _, _, _ => none
theorem ssS_str : ssS .str A n m = chk (0 ≤ n ∧ n ≤ m ∧ m ≤ A.size) (some (.d (.c (.string (A.extract n.toNat m.toNat))))) := rfl
theorem ss_str {lo hi : Option Int} : evSlice ti r t (.d (.c (.string A))) lo hi none = ssS (tK ti t) A (lo.getD 0) (hi.getD A.size) := by
  unfold evSlice ssS tK
  cases ti t with
  | none => rfl
  | some i => obtain ⟨u, _, _, _⟩ := i; cases u <;> rfl
def ssD : Option Nat → Nat → Option Mo → Nat → List D → Option Int → Option Int → Option Int → Option AV
  | some sz', sz, m, n, xs, lo, hi, mx => if sz' = sz then cutSl sz m n xs lo hi mx else none
  | none, _, _, _, _, _, _, _ => none
theorem ssD_some {lo hi mx : Option Int} : ssD (some sz') sz mo' q xs lo hi mx = if sz' = sz then cutSl sz mo' q xs lo hi mx else none := rfl
theorem ss_dsl {lo hi mx : Option Int} : evSlice ti r t (.d (.sl sz q xs)) lo hi mx = ssD (szOf ti t) sz none q xs lo hi mx := by
  unfold evSlice ssD
  cases szOf ti t with
  | none => rfl
  | some sz' =>
    simp only [slOf_dsl]
    by_cases h : sz = sz'
    · subst h; simp
    · simp [h, Ne.symm h]
theorem ss_sl {lo hi mx : Option Int} : evSlice ti r t (.sl mo sz q xs) lo hi mx = ssD (szOf ti t) sz (some mo) q xs lo hi mx := by
  unfold evSlice ssD
  cases szOf ti t with
  | none => rfl
  | some sz' =>
    simp only [slOf_sl]
    by_cases h : sz = sz'
    · subst h; simp
    · simp [h, Ne.symm h]
theorem ss_nil {lo hi mx : Option Int} : evSlice ti r t (.d (.c (.slice none 0 0))) lo hi mx = (match szOf ti t with | some sz => cutSl sz (some .full) 0 [] lo hi mx | none => none) := by
  unfold evSlice
  cases szOf ti t with
  | none => rfl
  | some sz' => simp only [slOf_nil]
theorem cut_3 {lo : Option Int} {h k : Int} : cutSl sz mo' q xs lo (some h) (some k) = chk (0 ≤ lo.getD 0 ∧ lo.getD 0 ≤ h ∧ h ≤ q ∧ k = h) (some (.sl .full sz (h.toNat - (lo.getD 0).toNat) ((xs.drop ((lo.getD 0).toNat * sz)).take ((h.toNat - (lo.getD 0).toNat) * sz)))) := rfl
theorem cut_full {lo : Option Int} : cutSl sz (some .full) q xs lo none none = chk (0 ≤ lo.getD 0 ∧ lo.getD 0 ≤ q) (some (.sl .full sz (q - (lo.getD 0).toNat) (xs.drop ((lo.getD 0).toNat * sz)))) := rfl
theorem cut_own {lo : Option Int} : cutSl sz (some (.own o)) q xs lo none none = chk (0 ≤ lo.getD 0 ∧ lo.getD 0 ≤ q) (some (.d (.sl sz (q - (lo.getD 0).toNat) (xs.drop ((lo.getD 0).toNat * sz))))) := rfl
theorem cut_none {lo : Option Int} : cutSl sz none q xs lo none none = chk (0 ≤ lo.getD 0 ∧ lo.getD 0 ≤ q) (some (.d (.sl sz (q - (lo.getD 0).toNat) (xs.drop ((lo.getD 0).toNat * sz))))) := rfl
theorem cut_hi {lo : Option Int} {h : Int} : cutSl sz none q xs lo (some h) none = chk (0 ≤ lo.getD 0 ∧ lo.getD 0 ≤ h ∧ h ≤ q) (some (.d (.sl sz (h.toNat - (lo.getD 0).toNat) ((xs.drop ((lo.getD 0).toNat * sz)).take ((h.toNat - (lo.getD 0).toNat) * sz))))) := rfl
theorem cut_hi_full {lo : Option Int} {h : Int} : cutSl sz (some .full) q xs lo (some h) none = chk (0 ≤ lo.getD 0 ∧ lo.getD 0 ≤ h ∧ h ≤ q) (some (.d (.sl sz (h.toNat - (lo.getD 0).toNat) ((xs.drop ((lo.getD 0).toNat * sz)).take ((h.toNat - (lo.getD 0).toNat) * sz))))) := rfl
theorem cut_hi_own {lo : Option Int} {h : Int} : cutSl sz (some (.own o)) q xs lo (some h) none = chk (0 ≤ lo.getD 0 ∧ lo.getD 0 ≤ h ∧ h ≤ q) (some (.sl (.sp (xs.drop (h.toNat * sz))) sz (h.toNat - (lo.getD 0).toNat) ((xs.drop ((lo.getD 0).toNat * sz)).take ((h.toNat - (lo.getD 0).toNat) * sz)))) := rfl
theorem cut_hi_sp {lo : Option Int} {h : Int} {zs : List D} : cutSl sz (some (.sp zs)) q xs lo (some h) none = chk (0 ≤ lo.getD 0 ∧ lo.getD 0 ≤ h ∧ (h.toNat - q) * sz ≤ zs.length ∧ 0 < sz) (some (.d (.sl sz (h.toNat - (lo.getD 0).toNat) (((xs ++ zs).drop ((lo.getD 0).toNat * sz)).take ((h.toNat - (lo.getD 0).toNat) * sz))))) := rfl
theorem cut_sp {lo : Option Int} {zs : List D} : cutSl sz (some (.sp zs)) q xs lo none none = chk (0 ≤ lo.getD 0 ∧ lo.getD 0 ≤ q) (some (.d (.sl sz (q - (lo.getD 0).toNat) (xs.drop ((lo.getD 0).toNat * sz))))) := rfl
theorem len_csl {qc : Nat} : lenAV ti r t (.csl o off sz q qc) = lnL (tK ti t) q := by
  unfold lenAV lnL tK
  cases ti t with
  | none => rfl
  | some i => obtain ⟨u, _, _, _⟩ := i; cases u <;> rfl
def ssC : Option Nat → Nat → Nat → Nat → Nat → Int → Int → Option AV
  | some sz', i, off, sz, c, l, h => if sz' = sz then chk (0 ≤ l ∧ l ≤ h ∧ h ≤ c) (some (.csl i (off + l.toNat * sz) sz (h.toNat - l.toNat) (c - l.toNat))) else none
  | none, _, _, _, _, _, _ => none
theorem ssC_some : ssC (some sz') o off sz q n m = if sz' = sz then chk (0 ≤ n ∧ n ≤ m ∧ m ≤ q) (some (.csl o (off + n.toNat * sz) sz (m.toNat - n.toNat) (q - n.toNat))) else none := rfl
theorem ss_csl {lo hi : Option Int} {qc : Nat} : evSlice ti r t (.csl o off sz q qc) lo hi none = ssC (szOf ti t) o off sz qc (lo.getD 0) (hi.getD q) := by
  unfold evSlice ssC
  dsimp only
  cases szOf ti t with
  | none => simp [chk]
  | some sz' =>
    by_cases h : sz' = sz
    · subst h; simp [chk]
    · simp [chk, h]
def ssC3 : Option Nat → Nat → Nat → Nat → Nat → Int → Int → Int → Option AV
  | some sz', i, off, sz, c, l, h, m => if sz' = sz then chk (0 ≤ l ∧ l ≤ h ∧ h ≤ m ∧ m ≤ c) (some (.csl i (off + l.toNat * sz) sz (h.toNat - l.toNat) (m.toNat - l.toNat))) else none
  | none, _, _, _, _, _, _, _ => none
theorem ssC3_some {p : Int} : ssC3 (some sz') o off sz q n m p = if sz' = sz then chk (0 ≤ n ∧ n ≤ m ∧ m ≤ p ∧ p ≤ q) (some (.csl o (off + n.toNat * sz) sz (m.toNat - n.toNat) (p.toNat - n.toNat))) else none := rfl
theorem ss_csl3 {lo : Option Int} {h m : Int} {qc : Nat} : evSlice ti r t (.csl o off sz q qc) lo (some h) (some m) = ssC3 (szOf ti t) o off sz qc (lo.getD 0) h m := by
  unfold evSlice ssC3
  dsimp only
  cases szOf ti t with
  | none => simp [chk]
  | some sz' =>
    by_cases h : sz' = sz
    · subst h; simp [chk]
    · simp [chk, h]
def ssO : Option Nat → Nat → Nat → Nat → Nat → Int → Int → Option AV
  | some sz', i, off, sz, n, l, h => if sz' = sz then chk (0 ≤ l ∧ l ≤ h ∧ h ≤ n) (some (.osl i (off + l.toNat * sz) sz (h.toNat - l.toNat))) else none
  | none, _, _, _, _, _, _ => none
theorem ssO_some : ssO (some sz') o off sz q n m = if sz' = sz then chk (0 ≤ n ∧ n ≤ m ∧ m ≤ q) (some (.osl o (off + n.toNat * sz) sz (m.toNat - n.toNat))) else none := rfl
theorem ss_osl {lo hi : Option Int} : evSlice ti r t (.osl o off sz q) lo hi none = ssO (szOf ti t) o off sz q (lo.getD 0) (hi.getD q) := by
  unfold evSlice ssO
  dsimp only
  cases szOf ti t with
  | none => simp [chk]
  | some sz' =>
    by_cases h : sz' = sz
    · subst h; simp [chk]
    · simp [chk, h]
def ssP (ti : Ti) : TK → Option (List AV) → Nat → Nat → Option Int → Option Int → Option AV
  | .arr n e, some l, i, off, lo, hi => if tI ti e = true then chk (off + n * tS ti e ≤ l.length ∧ 0 ≤ lo.getD 0 ∧ lo.getD 0 ≤ hi.getD n ∧ hi.getD n ≤ n) (some (.osl i (off + (lo.getD 0).toNat * tS ti e) (tS ti e) ((hi.getD n).toNat - (lo.getD 0).toNat))) else none
  | _, _, _, _, _, _ => none
theorem ssP_arr {lo hi : Option Int} : ssP ti (.arr q e) (some l) o off lo hi = if tI ti e = true then chk (off + q * tS ti e ≤ l.length ∧ 0 ≤ lo.getD 0 ∧ lo.getD 0 ≤ hi.getD q ∧ hi.getD q ≤ q) (some (.osl o (off + (lo.getD 0).toNat * tS ti e) (tS ti e) ((hi.getD q).toNat - (lo.getD 0).toNat))) else none := rfl
theorem ss_ptr {lo hi : Option Int} : evSlice ti r t (.ptr o off) lo hi none = ssP ti (tK ti t) (objOf r o) o off lo hi := by
  unfold evSlice ssP tK
  dsimp only
  cases ti t with
  | none => cases objOf r o <;> rfl
  | some i =>
    obtain ⟨u, _, _, _⟩ := i
    cases u <;> cases objOf r o <;> try rfl
    rename_i n e l
    simp only [tkOf]
    unfold tI tS
    cases ti e <;> rfl
def ssE (ti : Ti) : TK → List D → Option Int → Option Int → Option AV
  | .arr n e, xs, lo, hi => if tI ti e = true then chk (n * tS ti e ≤ xs.length ∧ 0 ≤ lo.getD 0 ∧ lo.getD 0 ≤ hi.getD n ∧ hi.getD n ≤ n) (some (.d (.sl (tS ti e) ((hi.getD n).toNat - (lo.getD 0).toNat) ((xs.drop ((lo.getD 0).toNat * tS ti e)).take (((hi.getD n).toNat - (lo.getD 0).toNat) * tS ti e))))) else none
  | _, _, _, _ => none
theorem ssE_arr {lo hi : Option Int} : ssE ti (.arr q e) xs lo hi = if tI ti e = true then chk (q * tS ti e ≤ xs.length ∧ 0 ≤ lo.getD 0 ∧ lo.getD 0 ≤ hi.getD q ∧ hi.getD q ≤ q) (some (.d (.sl (tS ti e) ((hi.getD q).toNat - (lo.getD 0).toNat) ((xs.drop ((lo.getD 0).toNat * tS ti e)).take (((hi.getD q).toNat - (lo.getD 0).toNat) * tS ti e))))) else none := rfl
theorem ss_el {lo hi : Option Int} : evSlice ti r t (.el xs) lo hi none = ssE ti (tK ti t) xs lo hi := by
  unfold evSlice ssE tK
  cases ti t with
  | none => rfl
  | some i =>
    obtain ⟨u, _, _, _⟩ := i
    cases u <;> try rfl
    rename_i n e
    simp only [tkOf]
    unfold tI tS
    cases ti e <;> rfl
end
end Go.Proofs.Ythdjblfiiogmgaa
/- The frame of these proofs, part X: loops and calls. -/
set_option linter.unusedVariables false
set_option linter.unusedSimpArgs false
namespace Go.Proofs.Ythdjblfiiogmgaa
open Go
section
variable {P : Program} {ti : Ti} {G : GR} {N : Nat}

/-- The state says no less than the form. -/
def Fit (σ : St) (st : List (Nat × AV)) (re : Rs) : Prop := WkL σ st ∧ wfSt re.length st = true ∧ WeakR σ.r re ∧ wfRs re.length re = true
theorem Rel.fit0 {E : Env} {σ : St} {a : Act} {w : World} {st : List (Nat × AV)} {re : Rs} (h : Rel G N E σ a w) (hf : Fit σ st re) : Rel G N E ⟨fun _ => .top, st, re⟩ a w := by
  obtain ⟨wk, wf, rs, wfr⟩ := hf
  refine ⟨h.size, fun i => ?_, h.good.weak rs wfr, h.defers.weak rs⟩
  show RA E re w (lk st (fun _ => .top) i) _
  rcases lk_cases st (fun _ => AV.top) i with ⟨v, hv, he⟩ | ⟨_, he⟩
  · rw [he]
    exact RA_weak rs v _ (wfSt_mem wf hv) ((WkL_mem wk hv).sound (h.slot i))
  · rw [he]; simp [RA]
theorem HC_loop {body : Code} {K : KD} {σ : St} {ι : Type} (st : ι → List (Nat × AV)) (re : ι → Rs) (p : ι → Prop) (μ : ι → Nat) (i0 : ι) (h0 : p i0)
    (hre : ∀ i, (re i).length = σ.r.length) (hf : Fit σ (st i0) (re i0))
    (round : ∀ i, p i → HC P ti G N body (.loop (fun σ' => ∃ j, p j ∧ μ j < μ i ∧ Fit σ' (st j) (re j)) K) ⟨fun _ => .top, st i, re i⟩) : HC P ti G N (.loop body) K σ := by
  intro E0 r0 w0 E a w hR hS
  refine wp_loop_g (fun m a' w' => ∃ i E', p i ∧ μ i = m ∧ Rel G N E' ⟨fun _ => .top, st i, re i⟩ a' w' ∧ Step E0 r0 w0 E' (re i) w') (n0 := μ i0)
    ⟨i0, E, h0, rfl, hR.fit0 hf, hS.weak hf.2.2.1 (by rw [hre]; exact hS.names.len)⟩ ?_
  intro m a w hI
  obtain ⟨i, E', hp, hm, hR', hS'⟩ := hI
  subst hm
  refine wpIn_mono (round i hp E0 r0 w0 E' a w hR' hS') fun e a1 w1 hq => ?_
  obtain ⟨σ1, E1, hk, hR1, hS1⟩ := hq
  cases e with
  | normal =>
    obtain ⟨j, hpj, hlt, hfit⟩ := hk
    refine ⟨μ j, hlt, j, E1, hpj, rfl, hR1.fit0 hfit, hS1.weak hfit.2.2.1 ?_⟩
    rw [hre, ← hre i]
    exact hS'.names.len
  | _ => exact ⟨σ1, E1, hk, hR1, hS1⟩
theorem HC_fit {c : Code} {K : KD} {σ : St} (st : List (Nat × AV)) (re : Rs) (hre : re.length = σ.r.length) (hf : Fit σ st re) (h : HC P ti G N c K ⟨fun _ => .top, st, re⟩) : HC P ti G N c K σ := by
  intro E0 r0 w0 E a w hR hS
  exact h E0 r0 w0 E a w (hR.fit0 hf) (hS.weak hf.2.2.1 (by rw [hre]; exact hS.names.len))
theorem HC_token {c : Code} {K : KD} {σ : St} (k : Nat) {sz n : Nat} {xs : List D} (hg : WeakA (σ.get k) (.sl .full sz n xs)) (h : HC P ti G N c K (σ.putR (some k) (.sl (.own σ.r.length) sz n xs) (σ.r ++ [some (.tok xs.length)]))) : HC P ti G N c K σ := Holds_token hg h
theorem HO_callP (hti : TiOK P ti) {ops : Array Oper} {o : Oper} {rest : List Oper} {K : KD} {σ : St} {f : FuncId} {as args : List AV} {r : Rs} {O : AV → Rs → Prop} {c : Call} (ts : List Nat) (h : AC P G f args r O) (ho : o.op = .call c)
    (hg : gd ops σ o = some true) (hc : calleeOf (σ.ev G) c = some (f, as)) (hd : (o :: rest).all (dstOK N) = true) (hnd : ts.Nodup)
    (hs : (∀ t ∈ ts, t < σ.r.length) ∧ WkAs as (renL (nm ts σ.r.length) args) ∧ wfL r.length args = true ∧ HandOK (nm ts σ.r.length) σ.r r ts ∧ wfRs r.length r = true)
    (hk : ∀ v r', O v r' → r.length ≤ r'.length → EV P ti G N ops rest (.plain K) (σ.putR o.dst (ren (nm ts σ.r.length) v) (putAll (nm ts σ.r.length) σ.r ts r'))) : HO P ti G N ops (o :: rest) (.plain K) σ := by
  simp only [List.all_cons, Bool.and_eq_true] at hd
  exact HL_call ts h hd.1 hg ho hc hnd hs.1 hs.2.1 hs.2.2.1 hs.2.2.2.1 hs.2.2.2.2 fun v r' h1 h2 => HO_of_EV hti hd.2 (hk v r' h1 h2)
/-- A datum needs nothing of the call's own. -/
theorem AC.pure {f : FuncId} {args : List AV} {O : AV → Prop} (h : AC P G f args [] fun v _ => O v) (hw : ∀ v, O v → wfA 0 v = true) : AC P G f args [] (fun v r' => O v ∧ r' = []) := by
  refine ⟨h.1, fun E w vals hG hA => (h.2 E w vals hG hA).mono fun e w' ⟨v, x, r', E', he, ho, h1, h2, h3⟩ => ?_⟩
  have hW : WeakR r' [] := ⟨by simp, fun i x h => by simp at h⟩
  exact ⟨v, x, [], E', he, ⟨ho, rfl⟩, RA_weak hW v x (hw v ho) h1, h2.weak hW rfl, h3.weak hW (by simp)⟩
theorem nm_zero {t : Nat} {ts : List Nat} {n : Nat} : nm (t :: ts) n 0 = t := by simp [nm]
theorem nm_succ {t : Nat} {ts : List Nat} {n j : Nat} : nm (t :: ts) n (j + 1) = nm ts n j := by
  simp only [nm, List.getD_cons_succ, List.length_cons]
  congr 1
  omega
theorem nm_nil {n j : Nat} : nm [] n j = n + j := by simp [nm]
theorem putAll_nil {g : Nat → Nat} {rc : Rs} : putAll g rc [] [] = rc := by simp [putAll]
theorem AC.dat {f : FuncId} {args : List AV} {y : D} (h : AC P G f args [] fun v _ => toD v = some y) : AC P G f args [] (fun v r' => v = .d y ∧ r' = []) := by
  refine ⟨h.1, fun E w vals hG hA => (h.2 E w vals hG hA).mono fun e w' ⟨v, x, r', E', he, ho, h1, h2, h3⟩ => ?_⟩
  have hW : WeakR r' [] := ⟨by simp, fun i x h => by simp at h⟩
  exact ⟨.d y, x, [], E', he, ⟨rfl, rfl⟩, RA_weak hW _ x rfl ((WeakA.toD ho).sound h1), h2.weak hW rfl, h3.weak hW (by simp)⟩
/-- A slice without cells is nil, or lies somewhere. -/
theorem AC.empty {f : FuncId} {sz : Nat} {r : Rs} {O : AV → Rs → Prop} (h : ∀ A c, AC P G f [.d (.c (.slice A 0 c))] r O) : AC P G f [.d (.sl sz 0 [])] r O := by
  refine ⟨(h none 0).1, fun E w vals hG hA => ?_⟩
  simp only [RAL, RA, RD] at hA
  obtain ⟨v, rest, hv, ⟨_, A, c, rfl, _⟩, hr⟩ := hA
  refine (h A c).2 E w vals hG ?_
  simp only [RAL, RA, RD]
  exact ⟨_, _, hv, ⟨rfl, rfl⟩, hr⟩
/-- A result's parts, each of which says no more. -/
def WkT : List AV → List AV → Prop
  | [], [] => True
  | a :: ta, b :: tb => WeakA a b ∧ WkT ta tb
  | _, _ => False
theorem WkT.sound {E : Env} {r : Rs} {w : World} : ∀ (l l0 : List AV) (vs : List Value), WkT l l0 → RAL E r w l vs → RAL E r w l0 vs
  | [], [], vs, _, h => h
  | a :: ta, b :: tb, vs, hk, h => by
    simp only [RAL] at h ⊢
    obtain ⟨v, rest, h1, h2, h3⟩ := h
    exact ⟨v, rest, h1, hk.1.sound h2, WkT.sound ta tb rest hk.2 h3⟩
  | [], _ :: _, _, hk, _ => absurd hk (by simp [WkT])
  | _ :: _, [], _, hk, _ => absurd hk (by simp [WkT])
def WkV (v v0 : AV) : Prop := WeakA v v0 ∨ ∃ l l0, v = .tup l ∧ v0 = .tup l0 ∧ WkT l l0
theorem wkv_tup {l l0 : List AV} (h : WkT l l0) : WkV (.tup l) (.tup l0) := .inr ⟨l, l0, rfl, rfl, h⟩
theorem WkV.sound {E : Env} {r : Rs} {w : World} {v v0 : AV} {x : Value} (h : WkV v v0) (hr : RA E r w v x) : RA E r w v0 x := by
  rcases h with h | ⟨l, l0, rfl, rfl, h⟩
  · exact h.sound hr
  · simp only [RA] at hr ⊢
    obtain ⟨vs, h1, h2⟩ := hr
    exact ⟨vs, h1, WkT.sound l l0 _ h h2⟩
/-- A result that says no more, and owns nothing. -/
theorem AC.wk {f : FuncId} {args : List AV} {v0 : AV} (h : AC P G f args [] fun v _ => WkV v v0) (hw : wfA 0 v0 = true) : AC P G f args [] (fun v r' => v = v0 ∧ r' = []) := by
  refine ⟨h.1, fun E w vals hG hA => (h.2 E w vals hG hA).mono fun e w' ⟨v, x, r', E', he, ho, h1, h2, h3⟩ => ?_⟩
  have hW : WeakR r' [] := ⟨by simp, fun i x h => by simp at h⟩
  exact ⟨v0, x, [], E', he, ⟨rfl, rfl⟩, RA_weak hW v0 x hw (ho.sound h1), h2.weak hW rfl, h3.weak hW (by simp)⟩
theorem wk_refl {a : AV} : WeakA a a = True := eq_true (.refl a)
theorem wk_top {a : AV} : WeakA a .top = True := eq_true (.top a)
theorem wk_eq {a b : AV} (h : a = b) : WeakA a b := h ▸ .refl a
theorem wk_sl {m : Mo} {sz n : Nat} {xs : List D} : WeakA (.sl m sz n xs) (.d (.sl sz n xs)) = True := eq_true (.toD rfl)
theorem wk_nilFull {sz : Nat} : WeakA (.d (.c (.slice none 0 0))) (.sl .full sz 0 []) = True := eq_true (.nilFull sz)
theorem wk_nilD {sz : Nat} : WeakA (.d (.c (.slice none 0 0))) (.d (.sl sz 0 [])) = True := eq_true (.nilD sz)
theorem wkr_refl {r : Rs} : WeakR r r = True := eq_true (.refl r)
end
end Go.Proofs.Ythdjblfiiogmgaa
/- The frame of these proofs, part Y: sums on machine words. -/
set_option linter.unusedVariables false
set_option linter.unusedSimpArgs false
namespace Go.Proofs.Ythdjblfiiogmgaa
open Go
section
variable {a b : Int}
theorem of64 (h0 : 0 ≤ a) (h1 : a < 18446744073709551616) : (BitVec.ofInt 64 a).toNat = a.toNat := by
  rw [BitVec.toNat_ofInt]; omega
theorem of8 (h0 : 0 ≤ a) (h1 : a < 256) : (BitVec.ofInt 8 a).toNat = a.toNat := by
  rw [BitVec.toNat_ofInt]; omega
theorem or64 (h0 : 0 ≤ a) (h1 : a < 18446744073709551616) (h2 : 0 ≤ b) (h3 : b < 18446744073709551616) : ibits .or .u64 a b = ((a.toNat ||| b.toNat : Nat) : Int) := by
  have : ibits .or .u64 a b = IntKind.u64.wrap ((BitVec.ofInt 64 a ||| BitVec.ofInt 64 b).toNat : Int) := rfl
  rw [this, BitVec.toNat_or, of64 h0 h1, of64 h2 h3, w_u64 (by omega)]
  have : a.toNat ||| b.toNat < 2 ^ 64 := Nat.or_lt_two_pow (by omega) (by omega)
  omega
theorem and64 (h0 : 0 ≤ a) (h1 : a < 18446744073709551616) (h2 : 0 ≤ b) (h3 : b < 18446744073709551616) : ibits .and .u64 a b = ((a.toNat &&& b.toNat : Nat) : Int) := by
  have : ibits .and .u64 a b = IntKind.u64.wrap ((BitVec.ofInt 64 a &&& BitVec.ofInt 64 b).toNat : Int) := rfl
  rw [this, BitVec.toNat_and, of64 h0 h1, of64 h2 h3, w_u64 (by omega)]
  have : a.toNat &&& b.toNat < 2 ^ 64 := Nat.and_lt_two_pow _ (by omega)
  omega
theorem and64_1 (h0 : 0 ≤ a) (h1 : a < 18446744073709551616) : ibits .and .u64 a 1 = a % 2 := by
  rw [and64 h0 h1 (by omega) (by omega)]
  have : a.toNat &&& 1 = a.toNat % 2 := Nat.and_one_is_mod _
  show ((a.toNat &&& 1 : Nat) : Int) = _
  rw [this]; omega
theorem xor64 (h0 : 0 ≤ a) (h1 : a < 18446744073709551616) : ibits .xor .u64 (if IntKind.u64.signed = true then -1 else IntKind.u64.max) a = 18446744073709551615 - a := by
  have : ibits .xor .u64 (if IntKind.u64.signed = true then -1 else IntKind.u64.max) a = IntKind.u64.wrap ((BitVec.allOnes 64 ^^^ BitVec.ofInt 64 a).toNat : Int) := rfl
  rw [this, BitVec.allOnes_xor, BitVec.toNat_not, of64 h0 h1, w_u64 (by omega) (by omega)]
  omega
theorem xori64 (h0 : -9223372036854775808 ≤ a) (h1 : a ≤ 9223372036854775807) : ibits .xor .i64 (if IntKind.i64.signed = true then -1 else IntKind.i64.max) a = -1 - a := by
  have : ibits .xor .i64 (if IntKind.i64.signed = true then -1 else IntKind.i64.max) a = IntKind.i64.wrap ((BitVec.allOnes 64 ^^^ BitVec.ofInt 64 a).toNat : Int) := rfl
  rw [this, BitVec.allOnes_xor, BitVec.toNat_not, BitVec.toNat_ofInt, IntKind.wrap_i64]
  omega
theorem or8_128 (h0 : 0 ≤ a) (h1 : a < 256) : ibits .or .u8 a 128 = a % 128 + 128 := by
  have : ∀ k : Fin 256, ibits .or .u8 (k.val : Int) 128 = (k.val : Int) % 128 + 128 := by decide +kernel
  have := this ⟨a.toNat, by omega⟩
  simp only at this
  rw [Int.toNat_of_nonneg h0] at this
  exact this
theorem and8_127 (h0 : 0 ≤ a) (h1 : a < 256) : ibits .and .u8 a 127 = a % 128 := by
  have : ∀ k : Fin 256, ibits .and .u8 (k.val : Int) 127 = (k.val : Int) % 128 := by decide +kernel
  have := this ⟨a.toNat, by omega⟩
  simp only at this
  rw [Int.toNat_of_nonneg h0] at this
  exact this
theorem and8_15 (h0 : 0 ≤ a) (h1 : a < 256) : ibits .and .u8 a 15 = a % 16 := by
  have : ∀ k : Fin 256, ibits .and .u8 (k.val : Int) 15 = (k.val : Int) % 16 := by decide +kernel
  have := this ⟨a.toNat, by omega⟩
  simp only at this
  rw [Int.toNat_of_nonneg h0] at this
  exact this
theorem shl64_1 : ishl .u64 a 1 = (a * 2) % 18446744073709551616 := by
  have : ishl .u64 a 1 = IntKind.u64.wrap (a * 2) := rfl
  rw [this, wrap_u64]
theorem shr64_1 (h : 0 ≤ a) : ishr .u64 a 1 = a / 2 := by
  have : ishr .u64 a 1 = a.fdiv 2 := rfl
  rw [this, Int.fdiv_eq_ediv_of_nonneg _ (by omega)]
theorem shr64_7 (h : 0 ≤ a) : ishr .u64 a 7 = a / 128 := by
  have : ishr .u64 a 7 = a.fdiv 128 := rfl
  rw [this, Int.fdiv_eq_ediv_of_nonneg _ (by omega)]
theorem shr8_4 (h : 0 ≤ a) : ishr .u8 a 4 = a / 16 := by
  have : ishr .u8 a 4 = a.fdiv 16 := rfl
  rw [this, Int.fdiv_eq_ediv_of_nonneg _ (by omega)]
theorem shl64 (h0 : 0 ≤ a) (h1 : 0 ≤ b) (h2 : b ≤ 64) (h3 : a * 2 ^ b.toNat < 18446744073709551616) : ishl .u64 a b = a * 2 ^ b.toNat := by
  have : ishl .u64 a b = IntKind.u64.wrap (a * 2 ^ (min b.toNat 64)) := rfl
  rw [this, Nat.min_eq_left (by omega), w_u64]
  · exact Int.mul_nonneg h0 (Int.pow_nonneg (by decide))
  · omega
end
theorem tmod_nn {a b : Int} (h : 0 ≤ a) : a.tmod b = a % b := Int.tmod_eq_emod_of_nonneg h
theorem tdiv_nn {a b : Int} (h : 0 ≤ a) : a.tdiv b = a / b := Int.tdiv_eq_ediv_of_nonneg h
theorem dec_lt_t {a b : Int} (h : a < b) : decide (a < b) = true := decide_eq_true h
theorem dec_lt_f {a b : Int} (h : b ≤ a) : decide (a < b) = false := decide_eq_false (Int.not_lt.2 h)
theorem dec_le_t {a b : Int} (h : a ≤ b) : decide (a ≤ b) = true := decide_eq_true h
theorem dec_le_f {a b : Int} (h : b < a) : decide (a ≤ b) = false := decide_eq_false (Int.not_le.2 h)
theorem dec_eq_t {a b : Int} (h : a = b) : decide (a = b) = true := decide_eq_true h
theorem dec_eq_f {a b : Int} (h : a ≠ b) : decide (a = b) = false := decide_eq_false h
/-! ### Bytes -/
theorem u8_wrap (n : Nat) : ((UInt8.ofNat n).toNat : Int) = (n % 256 : Nat) := by simp
theorem u8_toNat (n : Nat) : (UInt8.ofNat n).toNat = n % 256 := by simp
theorem bD_one (n : Nat) (h : n < 256) : [D.c (.int .u8 (n : Int))] = bD [UInt8.ofNat n] := by
  simp only [bD, List.map_cons, List.map_nil, u8_toNat, Nat.mod_eq_of_lt h]
theorem bD_single {x : Int} (h0 : 0 ≤ x) (h1 : x < 256) : [D.c (.int .u8 x)] = bD [UInt8.ofNat x.toNat] := by
  simp only [bD, List.map_cons, List.map_nil, u8_toNat]
  rw [Nat.mod_eq_of_lt (by omega), Int.toNat_of_nonneg h0]
theorem bD_consx {x : Int} {l : List UInt8} (h0 : 0 ≤ x) (h1 : x < 256) : D.c (.int .u8 x) :: bD l = bD (UInt8.ofNat x.toNat :: l) := by
  simp only [bD, List.map_cons, u8_toNat]
  rw [Nat.mod_eq_of_lt (by omega), Int.toNat_of_nonneg h0]
theorem bD_u {u : UInt8} : [D.c (.int .u8 (u.toNat : Int))] = bD [u] := rfl
theorem bD_z : bD [] = [] := rfl
theorem u8_congr {a b : Nat} (h : a % 256 = b % 256) : UInt8.ofNat a = UInt8.ofNat b := by
  apply UInt8.toNat_inj.1; rw [u8_toNat, u8_toNat, h]
end Go.Proofs.Ythdjblfiiogmgaa
/- The frame of these proofs, part Z: regions that draw their order. -/
set_option linter.unusedVariables false
set_option linter.unusedSimpArgs false
namespace Go.Proofs.Ythdjblfiiogmgaa
open Go

theorem tK_int {ti : Ti} {t : TypeId} {k : IntKind} (h : tK ti t = .int k) : ∃ s b z, ti t = some ⟨.int k, s, b, z⟩ := by
  unfold tK at h
  split at h
  · rename_i i hi
    obtain ⟨u, s, b, z⟩ := i
    cases u <;> simp [tkOf] at h
    subst h
    exact ⟨s, b, z, hi⟩
  · cases h
theorem tK_bool {ti : Ti} {t : TypeId} (h : tK ti t = .bool) : ∃ s b z, ti t = some ⟨.bool, s, b, z⟩ := by
  unfold tK at h
  split at h
  · rename_i i hi
    obtain ⟨u, s, b, z⟩ := i
    cases u <;> simp [tkOf] at h
    exact ⟨s, b, z, hi⟩
  · cases h
theorem tK_str {ti : Ti} {t : TypeId} (h : tK ti t = .str) : ∃ s b z, ti t = some ⟨.string, s, b, z⟩ := by
  unfold tK at h
  split at h
  · rename_i i hi
    obtain ⟨u, s, b, z⟩ := i
    cases u <;> simp [tkOf] at h
    exact ⟨s, b, z, hi⟩
  · cases h
theorem tK_arr {ti : Ti} {t e : TypeId} {n : Nat} (h : tK ti t = .arr n e) : ∃ u s b z, ti t = some ⟨u, s, b, z⟩ ∧ kdOf u = none := by
  unfold tK at h
  split at h
  · rename_i i hi
    obtain ⟨u, s, b, z⟩ := i
    cases u <;> simp [tkOf] at h
    exact ⟨_, s, b, z, hi, rfl⟩
  · cases h
theorem tK_st {ti : Ti} {t : TypeId} (h : tK ti t = .st) : ∃ u s b z, ti t = some ⟨u, s, b, z⟩ ∧ kdOf u = none := by
  unfold tK at h
  split at h
  · rename_i i hi
    obtain ⟨u, s, b, z⟩ := i
    cases u <;> simp [tkOf] at h
    exact ⟨_, s, b, z, hi, rfl⟩
  · cases h
theorem tK_sl {ti : Ti} {t e : TypeId} (h : tK ti t = .sl e) : ∃ s b z, ti t = some ⟨.slice e, s, b, z⟩ := by
  unfold tK at h
  split at h
  · rename_i i hi
    obtain ⟨u, s, b, z⟩ := i
    cases u <;> simp [tkOf] at h
    subst h
    exact ⟨s, b, z, hi⟩
  · cases h
theorem RA_const {E E' : Env} {r r' : Rs} {w w' : World} {y x : Value} (h : RA E r w (.d (.c y)) x) : RA E' r' w' (.d (.c y)) x := by
  simpa only [RA, RD] using h
theorem evNil_no {ti : Ti} {r : Rs} {t : TypeId} {neg : Bool} {x y : AV} {i : TI} (hi : ti t = some i) (hk : kdOf i.u = none) : evNil ti r t neg x y = none := by
  unfold evNil
  split
  · rename_i i' k c k' h1 _ _
    rw [hi] at h1; injection h1 with h1; subst h1; rw [hk]; simp
  · rfl
theorem pure_free {P : Program} {ti : Ti} (hti : TiOK P ti) {G : GR} {E : Env} {r : Rs} {w : World} (hG : Good G E r w) {ρ : Operand → AV} {α : Operand → Value} (hev : ∀ x, RA E r w (ρ x) (α x))
    {o : Oper} {v : AV} (hp : pureOp ti o.op = true) (e : evP ti ρ r o.op = some v) : ∃ z, (∀ w', (execOp α o).run P w' = .ok (.value z) w') ∧ RA E r w v z := by
  cases ho : o.op <;> rw [ho] at e hp <;> simp only [pureOp, reduceCtorEq, Bool.false_eq_true] at hp <;> simp only [evP, reduceCtorEq] at e
  case move x => injection e with e; subst e; exact ⟨_, fun w' => by simp [execOp, ho], hev x⟩
  case assign x => injection e with e; subst e; exact ⟨_, fun w' => by simp [execOp, ho], hev x⟩
  case pick c a b =>
    unfold evPick at e
    split at e
    · rename_i t ht
      injection e with e; subst e
      have hc := hev c
      rw [ht] at hc
      simp only [RA, RD] at hc
      refine ⟨if t = true then α a else α b, fun w' => by simp [execOp, ho, hc.1, asBool], ?_⟩
      cases t
      · simpa using hev b
      · simpa using hev a
    · cases e
  case extract t i =>
    unfold evExt at e
    split at e
    · rename_i l hl
      have ht := hev t
      rw [hl] at ht
      simp only [RA] at ht
      obtain ⟨vs, hp, hr⟩ := ht
      obtain ⟨z, hz, hzr⟩ := RAL_get l _ hr i v e
      have hz' : vs[i]? = some z := by simpa using hz
      exact ⟨z, fun w' => by simp [execOp, ho, hp, Instr.extract, hz'], hzr⟩
    · cases e
  case unOp op t x =>
    unfold evUn at e
    split at e
    · rename_i v' hv'
      simp only [Option.bind_eq_some_iff] at e
      obtain ⟨u, hu, e⟩ := e
      obtain ⟨h1, e⟩ := chk_some e
      injection e with e; subst e
      have hx := hev x
      rw [hv'] at hx
      simp only [RA, RD] at hx
      exact ⟨u, fun w' => by simp [execOp, ho, hx.1, vUn_run hu w'], by simp [RA, RD, h1]⟩
    · cases e
  case binOp op t x y ty =>
    have hno : ∀ neg a b, evNil ti r t neg a b = none := by
      intro neg a b
      split at hp
      · rename_i k hk; obtain ⟨s, bb, z, h⟩ := tK_int hk; exact evNil_no h rfl
      · rename_i hk; obtain ⟨s, bb, z, h⟩ := tK_bool hk; exact evNil_no h rfl
      · rename_i hk; obtain ⟨s, bb, z, h⟩ := tK_str hk; exact evNil_no h rfl
      · rename_i hk; obtain ⟨u, s, bb, z, h, hu⟩ := tK_arr hk; exact evNil_no h hu
      · rename_i hk; obtain ⟨u, s, bb, z, h, hu⟩ := tK_st hk; exact evNil_no h hu
      · cases hp
    have hno2 : ∀ a b, RA E r w a (α x) → RA E r w b (α y) → evNilOp ti r op t a b = some v → ∃ z, (∀ w', (execOp α o).run P w' = .ok (.value z) w') ∧ RA E r w v z := by
      intro a b ha hb h
      have both : ∀ q : Bool, op = (if q then .neq else .eql) → evEqA ti t q a b = some v → ∃ z, (∀ w', (execOp α o).run P w' = .ok (.value z) w') ∧ RA E r w v z := by
        intro q hop h
        obtain ⟨u, rfl, hu⟩ := evEqA_sound hti ha hb h x y
        subst hop
        exact ⟨.bool u, fun w' => by simp [execOp, ho, (hu w').1, (hu w').2], by simp [RA, RD, Value.oneCell']⟩
      cases op <;> simp only [evNilOp, hno, Option.none_or, reduceCtorEq] at h
      · exact both false rfl h
      · exact both true rfl h
    have hx := hev x
    have hy := hev y
    unfold evBin at e
    split at e
    · rename_i va vb h1 h2
      rw [h1] at hx; rw [h2] at hy
      split at e
      · rename_i u hu
        obtain ⟨h1, e⟩ := chk_some e
        injection e with e; subst e
        simp only [RA, RD] at hx hy
        exact ⟨u, fun w' => by simp [execOp, ho, hx.1, hy.1, vBin_guard hu x y w', vBin_run (fun h => isBool_sound hti h) hu w'], by simp [RA, RD, h1]⟩
      · exact hno2 _ _ (by rw [← h1]; exact hev x) (by rw [← h2]; exact hev y) e
    · exact hno2 _ _ (hev x) (hev y) e
  case convert s d x =>
    split at hp
    · rename_i k hk
      obtain ⟨sz, bb, z, h⟩ := tK_int hk
      have hx := hev x
      unfold evConv at e
      split at e
      · rename_i si t' hs ht'
        rw [h] at ht'; injection ht' with ht'; subst ht'
        simp only at e
        split at e
        · rename_i k2 kk n hxx hku
          injection hxx with hxx; subst hxx
          injection e with e; subst e
          rw [hku] at hx
          simp only [RA, RD] at hx
          obtain ⟨hx, _⟩ := hx
          exact ⟨.int k (k.wrap n), fun w' => by simp [execOp, ho, hx, convert, run_underlying (ti_u hti hs), run_underlying (ti_u hti h), Conv.intToInt], by simp [RA, RD, Value.oneCell']⟩
        all_goals first | (cases e; done) | (rename_i hq _; cases hq; done) | (rename_i hq; cases hq; done) | skip
      · cases e
    · cases hp
  case slice t x lo hi mx =>
    split at e
    · rename_i l h m hl hh hm
      obtain ⟨z, h1, h2⟩ := evSlice_sound hti hG (hev x) (optI_sound' hev hl) (optI_sound' hev hh) (optI_sound' hev hm) e
      exact ⟨z, fun w' => by simp [execOp, ho, h1], h2⟩
    · cases e
  case indexAddr t x i =>
    split at e
    · rename_i n hn
      obtain ⟨k, hk⟩ := intOfA_sound (hev i) hn
      obtain ⟨z, h1, h2⟩ := evIndexAddr_sound (P := P) hti (kd := k) (hev x) e
      exact ⟨z, fun w' => by simp [execOp, ho, hk, h1], h2⟩
    · cases e
  case fieldAddr t x f =>
    obtain ⟨z, h1, h2⟩ := evFieldAddr_sound (P := P) hti (hev x) e
    exact ⟨z, fun w' => by simp [execOp, ho, h1], h2⟩
  case field t x f =>
    obtain ⟨z, h1, h2⟩ := evField_sound (P := P) hti (hev x) e
    exact ⟨z, fun w' => by simp [execOp, ho, h1], h2⟩
  case makeFunc f a b =>
    injection e with e; subst e
    refine ⟨.func f (a.map α) (b.map α), fun w' => by simp [execOp, ho, Instr.makeFunc], ?_⟩
    simp only [RA]
    exact ⟨_, _, rfl, by simpa using RAL_ev hev a.toList, by simpa using RAL_ev hev b.toList⟩
  case nilCheck x =>
    unfold evNC at e
    have hx := hev x
    split at e
    · rename_i i off hio
      simp only [Option.map_eq_some_iff] at e
      obtain ⟨l, hl, rfl⟩ := e
      rw [hio] at hx
      have hx' := hx
      simp only [RA] at hx'
      obtain ⟨b, hb, hp⟩ := hx'.2 l (objOf_some hl)
      exact ⟨α x, fun w' => by simp [execOp, ho, hp], hx⟩
    · rename_i xs hxs
      injection e with e; subst e
      rw [hxs] at hx
      have hx' := hx
      simp only [RA] at hx'
      obtain ⟨ad, hp, _⟩ := hx'
      exact ⟨α x, fun w' => by simp [execOp, ho, hp], hx⟩
    · rename_i xs hxs
      injection e with e; subst e
      rw [hxs] at hx
      simp only [RA, RD] at hx
      obtain ⟨ad, hp, hm⟩ := hx
      exact ⟨α x, fun w' => by simp [execOp, ho, hp], by simp only [RA]; exact ⟨ad, hp, hm⟩⟩
    · rename_i f a b hf
      injection e with e; subst e
      rw [hf] at hx
      have hx' := hx
      simp only [RA] at hx'
      obtain ⟨vs, us, hp, _⟩ := hx'
      exact ⟨α x, fun w' => by simp [execOp, ho, hp], hx⟩
    · cases e
  case index t x i =>
    split at hp
    · rename_i hk
      obtain ⟨sz, bb, z, h⟩ := tK_str hk
      split at e
      · rename_i n hn
        obtain ⟨k, hk⟩ := intOfA_sound (hev i) hn
        have hx := hev x
        have hc : ∃ s u, ρ x = .d (.c (.string s)) ∧ v = .d (.c u) := by
          unfold evIndex at e
          rw [h] at e
          generalize ρ x = q at e
          split at e
          all_goals first
            | (rename_i hq; cases hq; done)
            | (cases e; done)
            | skip
          rename_i s _
          obtain ⟨_, e⟩ := chk_some e
          injection e with e
          exact ⟨s, _, rfl, e.symm⟩
        obtain ⟨s, u, hs, rfl⟩ := hc
        rw [hs] at hx e
        obtain ⟨z, h1, h2⟩ := evIndex_sound (P := P) hti (kd := k) hx e
        refine ⟨z, fun w' => ?_, h2⟩
        obtain ⟨z', h1', h2'⟩ := evIndex_sound (P := P) hti (kd := k) (RA_const (E' := E) (r' := r) (w' := w') hx) e
        simp only [RA, RD] at h2 h2'
        rw [h2.1, ← h2'.1]
        simp [execOp, ho, hk, h1']
      · cases e
    · cases hp
  case call c =>
    split at hp
    · rename_i t hc hts
      unfold evCall at e
      rw [hc] at e
      simp only at e
      split at e
      · rename_i x t' hxl htl
        rw [hts] at htl
        injection htl with htl; subst htl
        simp only [Option.map_eq_some_iff] at e
        obtain ⟨n, hn, rfl⟩ := e
        refine ⟨.int .i64 n, fun w' => ?_, by simp [RA, RD, Value.oneCell']⟩
        have hx := hev x
        have key : (Builtin.len_ #[t] o.type #[α x]).run P w' = .ok (.int .i64 n) w' := by
          have hsplit : (∃ sz b z, ti t = some ⟨.string, sz, b, z⟩) ∨ (∃ e sz b z, ti t = some ⟨.slice e, sz, b, z⟩) := by
            split at hp
            · rename_i hk; exact .inl (tK_str hk)
            · rename_i e hk; obtain ⟨a, b, c, h⟩ := tK_sl hk; exact .inr ⟨e, a, b, c, h⟩
            · cases hp
          generalize α x = ax at hx
          generalize ρ x = q at hn hx
          unfold lenAV at hn
          rcases hsplit with ⟨sz, b, z, h⟩ | ⟨e, sz, b, z, h⟩
          · rw [h] at hn
            have hut := ti_run hti h w'
            split at hn
            all_goals first
              | (cases hn; done)
              | (rename_i hq; cases hq; done)
              | skip
            injection hn with hn; subst hn
            simp only [RA, RD] at hx; obtain ⟨rfl, _⟩ := hx
            simp [Builtin.len_, hut, goInt]
          · rw [h] at hn
            have hut := ti_run hti h w'
            split at hn
            all_goals first
              | (cases hn; done)
              | (rename_i hq; cases hq; done)
              | skip
            all_goals (injection hn with hn; subst hn; simp only [RA, RD] at hx)
            all_goals first
              | (obtain ⟨rfl, _⟩ := hx; simp [Builtin.len_, hut, goInt]; done)
              | (obtain ⟨_, A, rfl, _⟩ := hx; simp [Builtin.len_, hut, goInt]; done)
              | (obtain ⟨_, A, c, rfl, _⟩ := hx; simp [Builtin.len_, hut, goInt]; done)
        simp [execOp, ho, resolve, hc, toList_one hxl, toList_one hts, invoke, builtin, key]
      · cases e
    · cases hp

section
variable {P : Program} {ti : Ti} {G : GR} {N : Nat}
theorem wpOp_mono' {ops : Array Oper} {Q Q' : Exit → Act → World → Prop} (hq : ∀ e a w, Q e a w → Q' e a w) {i : Nat} {K K' : Act → World → Prop} (hk : ∀ a w, K a w → K' a w) {a : Act} {w : World} (h : wpOp P ops Q i K a w) : wpOp P ops Q' i K' a w := by
  unfold wpOp at h ⊢
  split at h
  · exact hk _ _ h
  · rename_i o _
    split at h
    · rename_i hw
      rw [if_pos hw]
      have hlo : LetsOut Q → LetsOut Q' := fun ⟨a, w, h⟩ => ⟨a, w, hq _ _ _ h⟩
      rcases h with h | h
      · left
        unfold Oper.wp at h ⊢
        generalize (execOp a.eval o).run P w = res at h ⊢
        cases res with
        | ok n w' =>
          cases n <;> simp only [Oper.upon] at h ⊢ <;> first
            | exact hk _ _ h
            | exact Calls.mono h (fun e w'' he => by cases e <;> first | exact hk _ _ he | exact hq _ _ _ he | exact hlo he)
            | exact Rows.mono h (fun _ _ he => hk _ _ he)
        | halt x w' => cases x <;> simp only [Oper.upon] at h ⊢ <;> first | exact h | exact hq _ _ _ h
      · right
        exact ⟨h.1, hlo h.2⟩
    · rename_i hw
      rw [if_neg hw]
      exact hk _ _ h
theorem wpAny_mono' {ops : Array Oper} {md : Region.Mode} {Q Q' : Exit → Act → World → Prop} (hq : ∀ e a w, Q e a w → Q' e a w) : ∀ (fuel : Nat) (listed : Array Bool) (a : Act) (w : World), wpAny P md ops Q fuel listed a w → wpAny P md ops Q' fuel listed a w
  | 0, _, _, _, h => ⟨h.1, hq _ _ _ h.2⟩
  | fuel + 1, _, _, _, h => ⟨fun h0 => hq _ _ _ (h.1 h0), fun i hi => wpOp_mono' hq (fun a w h => wpAny_mono' hq fuel _ a w h) (h.2 i hi)⟩
theorem evA_pure {ti : Ti} {ρ : Operand → AV} {r r' : Rs} {op : Op} {v : AV} (hp : pureOp ti op = true) (e : evA ti ρ r op = some (v, r')) : evP ti ρ r op = some v ∧ r' = r := by
  cases op <;> simp only [pureOp, reduceCtorEq, Bool.false_eq_true] at hp
  case convert s d x =>
    split at hp
    · rename_i k hk
      obtain ⟨sz, b, z, h⟩ := tK_int hk
      simp only [evA] at e
      split at e
      · rename_i u hu
        simp only [Option.some.injEq, Prod.mk.injEq] at e
        obtain ⟨rfl, rfl⟩ := e
        exact ⟨hu, rfl⟩
      · simp only [evR] at e
        exact absurd e (evCB_no (by rw [h]; intro el s b z he; cases he))
    · cases hp
  case call c =>
    simp only [evA] at e
    split at hp
    · rename_i t hc hts
      rw [hc] at e
      simp only [Option.map_eq_some_iff, Prod.mk.injEq] at e
      obtain ⟨u, hu, rfl, rfl⟩ := e
      exact ⟨hu, rfl⟩
    · cases hp
  all_goals
    simp only [evA, Option.map_eq_some_iff, Prod.mk.injEq] at e
    obtain ⟨u, hu, rfl, rfl⟩ := e
    exact ⟨hu, rfl⟩
end
end Go.Proofs.Ythdjblfiiogmgaa
/- The frame of these proofs, part ZB: a region that draws its order is reckoned in one order: the others come to the same. -/
set_option linter.unusedVariables false
set_option linter.unusedSimpArgs false
namespace Go.Proofs.Ythdjblfiiogmgaa
open Go
section
variable {P : Program} {ti : Ti} {ops : Array Oper} {w : World}
theorem yat_same {o : Oper} {x : Value} {a a' : Act} (hy : yat P ops w o x a) (he : execOp a'.eval o = execOp a.eval o) (hw : Region.wanted o (yielded ops a'.tmps) = Region.wanted o (yielded ops a.tmps)) : yat P ops w o x a' := by
  unfold yat at *
  rw [he, hw]
  exact hy
theorem yatS_same {o : Oper} {x : Value} {a a' : Act} (hy : yatS P ti ops w o x a) (he : execOp a'.eval o = execOp a.eval o) (hw : Region.wanted o (yielded ops a'.tmps) = Region.wanted o (yielded ops a.tmps)) : yatS P ti ops w o x a' :=
  fun w' h => yat_same (hy w' h) he hw
theorem chainS_move (hs : Region.noSelect ops = true) {e : Ent} {r2 : List Ent} (he : ops[e.1]? = some e.2.1) : ∀ (r1 : List Ent) (a : Act), (∀ f ∈ r1, f.2.1.apart ops e.2.1 = true) → (∀ f ∈ r1, ops[f.1]? = some f.2.1) → chainS P ti ops w (r1 ++ e :: r2) a →
    yatS P ti ops w e.2.1 e.2.2 a ∧ chainS P ti ops w (r1 ++ r2) (a.put e.2.1.dst e.2.2) ∧ puts (r1 ++ e :: r2) a = puts (r1 ++ r2) (a.put e.2.1.dst e.2.2)
  | [], a, _, _, h => ⟨h.1, h.2, rfl⟩
  | f :: r1, a, hap, hop, h => by
    obtain ⟨h1, h2, h3⟩ := Oper.apart_spec (hap f (by simp))
    have hsel := Region.noSelect_spec hs
    obtain ⟨hy, hc, hp⟩ := chainS_move hs he r1 (a.put f.2.1.dst f.2.2) (fun g hg => hap g (by simp [hg])) (fun g hg => hop g (by simp [hg])) h.2
    have hcomm : (a.put e.2.1.dst e.2.2).put f.2.1.dst f.2.2 = (a.put f.2.1.dst f.2.2).put e.2.1.dst e.2.2 := (Act.put_comm a f.2.2 e.2.2 h2).symm
    refine ⟨yatS_same hy (execOp_put e.2.1 (hsel _ _ · · he) a _ _ h1).symm (wanted_put e.2.1 a _ _ h1).symm, ⟨yatS_same h.1 (execOp_put f.2.1 (hsel _ _ · · (hop f (by simp))) a _ _ h3) (wanted_put f.2.1 a _ _ h3), ?_⟩, ?_⟩
    · rw [hcomm]; exact hc
    · show puts (r1 ++ e :: r2) (a.put f.2.1.dst f.2.2) = puts (r1 ++ r2) ((a.put e.2.1.dst e.2.2).put f.2.1.dst f.2.2)
      rw [hcomm]; exact hp
theorem chainS_front (hs : Region.noSelect ops = true) {i : Nat} {o : Oper} (ho : ops[i]? = some o) : ∀ (rem : List Ent) (a : Act), (∀ f ∈ rem, f.2.1.apart ops o = true) → (∀ f ∈ rem, ops[f.1]? = some f.2.1) → chainS P ti ops w rem a →
    execOp (puts rem a).eval o = execOp a.eval o ∧ Region.wanted o (yielded ops (puts rem a).tmps) = Region.wanted o (yielded ops a.tmps) ∧ (∀ x, puts rem (a.put o.dst x) = (puts rem a).put o.dst x) ∧ ∀ x w', (∀ f ∈ rem, pureOp ti f.2.1.op = true ∨ (stOp ti f.2.1.op = true ∧ Keeps w w')) → chainS P ti ops w' rem (a.put o.dst x)
  | [], a, _, _, _ => ⟨rfl, rfl, fun _ => rfl, fun _ _ _ => trivial⟩
  | f :: rem, a, hap, hop, h => by
    obtain ⟨h1, h2, h3⟩ := Oper.apart_spec (hap f (by simp))
    have hsel := Region.noSelect_spec hs
    obtain ⟨k1, k2, k3, k4⟩ := chainS_front hs ho rem (a.put f.2.1.dst f.2.2) (fun g hg => hap g (by simp [hg])) (fun g hg => hop g (by simp [hg])) h.2
    have hcomm : ∀ x, (a.put o.dst x).put f.2.1.dst f.2.2 = (a.put f.2.1.dst f.2.2).put o.dst x := fun x => (Act.put_comm a f.2.2 x h2).symm
    refine ⟨k1.trans (execOp_put o (hsel _ _ · · ho) a _ _ h1), k2.trans (wanted_put o a _ _ h1), fun x => ?_, fun x w' hpu => ⟨fun w'' hw'' => ?_, ?_⟩⟩
    · show puts rem ((a.put o.dst x).put f.2.1.dst f.2.2) = _
      rw [hcomm]; exact k3 x
    · refine yat_same (h.1 w'' ?_) (execOp_put f.2.1 (hsel _ _ · · (hop f (by simp))) a _ _ h3) (wanted_put f.2.1 a _ _ h3)
      rcases hpu f (by simp) with h4 | ⟨h4, h5⟩
      · exact .inl h4
      · rcases hw'' with h6 | ⟨_, h6⟩ | rfl
        · exact .inl h6
        · exact .inr (.inl ⟨h4, h5.trans h6⟩)
        · exact .inr (.inl ⟨h4, h5⟩)
    · rw [hcomm]; exact k4 x w' (fun g hg => hpu g (by simp [hg]))
theorem chainS_snoc {e : Ent} : ∀ (rem : List Ent) (a : Act), chainS P ti ops w rem a → yatS P ti ops w e.2.1 e.2.2 (puts rem a) → chainS P ti ops w (rem ++ [e]) a ∧ puts (rem ++ [e]) a = (puts rem a).put e.2.1.dst e.2.2
  | [], a, _, hy => ⟨⟨hy, trivial⟩, rfl⟩
  | f :: rem, a, h, hy => by
    obtain ⟨h1, h2⟩ := chainS_snoc rem _ h.2 hy
    exact ⟨⟨h.1, h1⟩, h2⟩

/-! ### What waits for what -/
theorem shl_bit {i j : Nat} : (1 <<< i : Nat).testBit j = decide (i = j) := by
  rw [Nat.testBit_shiftLeft]
  by_cases h : i = j
  · subst h; simp
  · simp only [h, decide_false]
    by_cases hj : j ≥ i
    · simp only [hj, decide_true, Bool.true_and]
      have : j - i ≠ 0 := by omega
      cases hq : Nat.testBit 1 (j - i) with
      | false => rfl
      | true => rw [Nat.testBit_one_eq_true_iff_self_eq_zero] at hq; omega
    · simp [hj]
theorem fold_wmask {k i : Nat} {L : Nat → Nat} {b : Nat} : ∀ (l : List Edge) (acc : Nat), (l.foldl (fun acc x => if (Region.binds .any x && decide (k ≤ x.on) && decide (x.on < i)) = true then acc ||| (1 <<< (x.on - k) ||| L (x.on - k)) else acc) acc).testBit b = true →
    acc.testBit b = true ∨ ∃ x ∈ l, Region.binds .any x = true ∧ k ≤ x.on ∧ x.on < i ∧ (x.on - k = b ∨ (L (x.on - k)).testBit b = true)
  | [], acc, h => .inl h
  | x :: l, acc, h => by
    simp only [List.foldl_cons] at h
    rcases fold_wmask l _ h with h1 | ⟨y, hy, h2⟩
    · split at h1
      · rename_i hc
        simp only [Bool.and_eq_true, decide_eq_true_eq] at hc
        simp only [Nat.testBit_or, Bool.or_eq_true, shl_bit, decide_eq_true_eq] at h1
        rcases h1 with h1 | h1 | h1
        · exact .inl h1
        · exact .inr ⟨x, by simp, hc.1.1, hc.1.2, hc.2, .inl h1⟩
        · exact .inr ⟨x, by simp, hc.1.1, hc.1.2, hc.2, .inr h1⟩
      · exact .inl h1
    · exact .inr ⟨y, by simp [hy], h2⟩
theorem wmask_spec {k i : Nat} {L : Nat → Nat} {b : Nat} (h : (wmask ops k L i).testBit b = true) : ∃ o, ops[i]? = some o ∧ ∃ x ∈ o.after, Region.binds .any x = true ∧ k ≤ x.on ∧ x.on < i ∧ (x.on - k = b ∨ (L (x.on - k)).testBit b = true) := by
  unfold wmask at h
  split at h
  · rename_i o ho
    rcases fold_wmask _ _ h with h | ⟨x, hx, h⟩
    · simp at h
    · exact ⟨o, ho, x, by simpa using hx, h⟩
  · simp at h
/-- What 'L' tells an operation waits for, it waits for (the rank falls along the way). -/
def rowsOK (ops : Array Oper) (L : Nat → Nat) : Prop := ∃ ρ : Nat → Nat, ∀ i, i < ops.size → ∀ b, (L i).testBit b = true → ∃ o, ops[i]? = some o ∧ ∃ x ∈ o.after, Region.binds .any x = true ∧ x.on < ops.size ∧ ρ x.on < ρ i ∧ (x.on = b ∨ (L x.on).testBit b = true)
theorem sub_bit {a c : Nat} (h : (a ||| c) = c) {b : Nat} (hb : a.testBit b = true) : c.testBit b = true := by
  rw [← h, Nat.testBit_or, hb, Bool.true_or]
theorem and_bit {a c : Nat} (h : (a &&& c) = a) {b : Nat} (hb : a.testBit b = true) : c.testBit b = true := by
  rw [← h, Nat.testBit_and, Bool.and_eq_true] at hb
  exact hb.2
/-- What is listed is closed under waiting. -/
theorem need_aux {L : Nat → Nat} (hL : rowsOK ops L) {U : List Nat} (hcl : ∀ i o, i < ops.size → i ∉ U → ops[i]? = some o → ∀ x ∈ o.after, Region.binds .any x = true → x.on ∉ U) (e : Nat) (i : Nat) (hi : i < ops.size) (hiU : i ∉ U) (hb : (L i).testBit e = true) : e ∉ U := by
  obtain ⟨ρ, hρ⟩ := hL
  have go : ∀ (n i : Nat), ρ i = n → i < ops.size → i ∉ U → (L i).testBit e = true → e ∉ U := by
    intro n
    induction n using Nat.strongRecOn with
    | _ n ih =>
      intro i hn hi hiU hb
      obtain ⟨o, ho, x, hx, hbx, hxs, hxi, h⟩ := hρ i hi _ hb
      have hxU := hcl i o hi hiU ho x hx hbx
      rcases h with h | h
      · rw [← h]; exact hxU
      · exact ih (ρ x.on) (by omega) x.on rfl hxs hxU h
  exact go _ i rfl hi hiU hb
theorem need_out {L : Nat → Nat} (hL : rowsOK ops L) {U : List Nat} (hcl : ∀ i o, i < ops.size → i ∉ U → ops[i]? = some o → ∀ x ∈ o.after, Region.binds .any x = true → x.on ∉ U) {e i : Nat} {o : Oper} (ho : ops[i]? = some o) (hdep : ∀ x ∈ o.after, Region.binds .any x = true → x.on ∉ U)
    (hb : (L i).testBit e = true) : e ∉ U := by
  have hi := (Array.getElem?_eq_some_iff.1 ho).1
  obtain ⟨ρ, hρ⟩ := hL
  obtain ⟨o', ho', x, hx, hbx, hxs, hxi, h⟩ := hρ i hi _ hb
  rw [ho] at ho'; injection ho' with ho'; subst ho'
  have hxU := hdep x hx hbx
  rcases h with h | h
  · rw [← h]; exact hxU
  · exact need_aux ⟨ρ, hρ⟩ hcl e x.on hxs hxU h

/-! ### The plan -/
structure Plan (ti : Ti) (N : Nat) (ops : Array Oper) (π kp : List Nat) (L : Nat → Nat) : Prop where
  hs : Region.noSelect ops = true
  dst : ∀ o ∈ ops.toList, dstOK N o = true
  nodup : π.Nodup
  all : ∀ i, i < ops.size → i ∈ π
  rows : rowsOK ops L
  at_ : ∀ pre i post, π = pre ++ i :: post → ∃ o, ops[i]? = some o ∧ (∀ x ∈ o.after, Region.binds .any x = true → x.on ∈ pre) ∧ (∀ f ∈ pre, ∀ of, ops[f]? = some of → isEff ti of = true → (L i).testBit f = true) ∧
    (isEff ti o = true → ∀ f ∈ pre, ∀ of, ops[f]? = some of → (pureOp ti of.op = true ∨ (isKeep kp i o = true ∧ stOp ti of.op = true)) ∨ (L i).testBit f = true) ∧ (∀ f ∈ pre, ∀ of, ops[f]? = some of → (L i).testBit f = true ∨ of.apart ops o = true)
theorem scan_sound {kp : List Nat} {L : Nat → Nat} : ∀ (post bef : List Nat) (seen eff np ns : Nat), (∀ f, seen.testBit f = true ↔ f ∈ bef) → (∀ f ∈ bef, ∀ of, ops[f]? = some of → isEff ti of = true → eff.testBit f = true) → (∀ f ∈ bef, ∀ of, ops[f]? = some of → pureOp ti of.op = false → np.testBit f = true) →
    (∀ f ∈ bef, ∀ of, ops[f]? = some of → stOp ti of.op = false → ns.testBit f = true) → scanP ti ops kp L post bef seen eff np ns = true → (post.Nodup ∧ ∀ i ∈ post, i ∉ bef) ∧ ∀ pre i post', post = pre ++ i :: post' → ∃ o, ops[i]? = some o ∧ (∀ x ∈ o.after, Region.binds .any x = true → x.on ∈ bef ∨ x.on ∈ pre) ∧ (∀ f, (f ∈ bef ∨ f ∈ pre) → ∀ of, ops[f]? = some of → isEff ti of = true → (L i).testBit f = true) ∧
    (isEff ti o = true → ∀ f, (f ∈ bef ∨ f ∈ pre) → ∀ of, ops[f]? = some of → (pureOp ti of.op = true ∨ (isKeep kp i o = true ∧ stOp ti of.op = true)) ∨ (L i).testBit f = true) ∧ (∀ f, (f ∈ bef ∨ f ∈ pre) → ∀ of, ops[f]? = some of → (L i).testBit f = true ∨ of.apart ops o = true)
  | [], bef, seen, eff, np, ns, _, _, _, _, _ => ⟨⟨List.nodup_nil, fun i hi => by simp at hi⟩, fun pre i post' h => by simp at h⟩
  | j :: post, bef, seen, eff, np, ns, h1, h2, h3, h3s, h => by
    unfold scanP at h
    cases ho : ops[j]? with
    | none => rw [ho] at h; cases h
    | some o =>
      rw [ho] at h
      simp only [force_eq, Bool.and_eq_true, Bool.or_eq_true, Bool.not_eq_true', beq_iff_eq, List.all_eq_true] at h
      obtain ⟨⟨⟨⟨⟨c1, c2⟩, c3⟩, c4⟩, c5⟩, c6⟩ := h
      have hjb : j ∉ bef := fun hm => by have := (h1 j).2 hm; rw [c1] at this; cases this
      obtain ⟨⟨hn, hd⟩, ih⟩ := scan_sound post (j :: bef) _ _ _ _ (fun f => by
          rw [Nat.testBit_or, shl_bit, Bool.or_eq_true, h1, decide_eq_true_eq, List.mem_cons]
          exact ⟨fun h => h.elim .inr fun h => .inl h.symm, fun h => h.elim (fun h => .inr h.symm) .inl⟩)
        (fun f hf of hof hef => by
          simp only [List.mem_cons] at hf
          rcases hf with rfl | hf
          · rw [ho] at hof; injection hof with hof; subst hof
            rw [if_pos hef, Nat.testBit_or, shl_bit]; simp
          · have := h2 f hf of hof hef
            split
            · rw [Nat.testBit_or, this, Bool.true_or]
            · exact this)
        (fun f hf of hof hpf => by
          simp only [List.mem_cons] at hf
          rcases hf with rfl | hf
          · rw [ho] at hof; injection hof with hof; subst hof
            rw [if_neg (by rw [hpf]; simp), Nat.testBit_or, shl_bit]; simp
          · have := h3 f hf of hof hpf
            split
            · exact this
            · rw [Nat.testBit_or, this, Bool.true_or])
        (fun f hf of hof hpf => by
          simp only [List.mem_cons] at hf
          rcases hf with rfl | hf
          · rw [ho] at hof; injection hof with hof; subst hof
            rw [if_neg (by rw [hpf]; simp), Nat.testBit_or, shl_bit]; simp
          · have := h3s f hf of hof hpf
            split
            · exact this
            · rw [Nat.testBit_or, this, Bool.true_or]) c6
      refine ⟨⟨List.nodup_cons.2 ⟨fun hm => hd j hm (by simp), hn⟩, fun i hi => ?_⟩, fun pre i post' hp => ?_⟩
      · simp only [List.mem_cons] at hi
        rcases hi with rfl | hi
        · exact hjb
        · exact fun hb => hd i hi (by simp [hb])
      · cases pre with
        | nil =>
          simp only [List.nil_append, List.cons.injEq] at hp
          obtain ⟨rfl, rfl⟩ := hp
          refine ⟨o, ho, fun x hx hb => ?_, fun f hf of hof hef => ?_, fun he f hf of hof => ?_, fun f hf of hof => ?_⟩
          · have := c2 x (by simpa using hx)
            rw [hb] at this
            simp only [Bool.true_eq_false, false_or] at this
            exact .inl ((h1 _).1 this)
          · have hf' : f ∈ bef := by simpa using hf
            exact and_bit c3 (h2 f hf' of hof hef)
          · have hf' : f ∈ bef := by simpa using hf
            rcases c4 with c4 | c4
            · rw [he] at c4; cases c4
            · split at c4
              · rename_i hkp
                cases hq : stOp ti of.op with
                | true => exact .inl (.inr ⟨hkp, rfl⟩)
                | false => exact .inr (and_bit (eq_of_beq c4) (h3s f hf' of hof hq))
              · cases hq : pureOp ti of.op with
                | true => exact .inl (.inl rfl)
                | false => exact .inr (and_bit (eq_of_beq c4) (h3 f hf' of hof hq))
          · have hf' : f ∈ bef := by simpa using hf
            have := c5 f hf'
            rw [hof] at this
            exact this
        | cons q pre =>
          simp only [List.cons_append, List.cons.injEq] at hp
          obtain ⟨rfl, rfl⟩ := hp
          obtain ⟨o', k1, k2, k3, k4, k5⟩ := ih pre i post' rfl
          have conv : ∀ f, (f ∈ bef ∨ f ∈ j :: pre) → (f ∈ j :: bef ∨ f ∈ pre) := fun f hf => by
            simp only [List.mem_cons] at hf ⊢
            rcases hf with h | h | h
            · exact .inl (.inr h)
            · exact .inl (.inl h)
            · exact .inr h
          refine ⟨o', k1, fun x hx hb => ?_, fun f hf => k3 f (conv f hf), fun he f hf => k4 he f (conv f hf), fun f hf => k5 f (conv f hf)⟩
          have := k2 x hx hb
          simp only [List.mem_cons] at this ⊢
          rcases this with (h | h) | h
          · exact .inr (.inl h)
          · exact .inl h
          · exact .inr (.inr h)
theorem planT_of {N : Nat} {π kp : List Nat} (h : planT ti N ops π kp = true) : ∃ L, Plan ti N ops π kp L := by
  simp only [planT, force_eq, Bool.and_eq_true, List.all_eq_true, beq_iff_eq, List.mem_range] at h
  obtain ⟨⟨⟨h1, h2⟩, h3⟩, h4, h5⟩ := h
  generalize rowOf ops.size _ = L at h4 h5
  obtain ⟨⟨hn, _⟩, hat⟩ := scan_sound π [] 0 0 0 0 (fun f => by simp) (fun f hf => by simp at hf) (fun f hf => by simp at hf) (fun f hf => by simp at hf) h5
  refine ⟨L, h1, h2, hn, fun i hi => ?_, ⟨id, fun i hi b hb => ?_⟩, fun pre i post hp => ?_⟩
  · simpa using h3 i hi
  · obtain ⟨o, ho, x, hx, hbx, _, hxi, h⟩ := wmask_spec (sub_bit (h4 i hi) hb)
    rw [Nat.sub_zero] at h
    exact ⟨o, ho, x, hx, hbx, by omega, hxi, h⟩
  · obtain ⟨o, k1, k2, k3, k4, k5⟩ := hat pre i post hp
    exact ⟨o, k1, fun x hx hb => by simpa using k2 x hx hb, fun f hf => k3 f (.inr hf), fun he f hf => k4 he f (.inr hf), fun f hf => k5 f (.inr hf)⟩

theorem fold_wmaskS {seen : Nat} {L : Nat → Nat} {b : Nat} : ∀ (l : List Edge) (acc : Nat), (l.foldl (fun acc x => if (Region.binds .any x && seen.testBit x.on) = true then acc ||| (1 <<< x.on ||| L x.on) else acc) acc).testBit b = true →
    acc.testBit b = true ∨ ∃ x ∈ l, Region.binds .any x = true ∧ seen.testBit x.on = true ∧ (x.on = b ∨ (L x.on).testBit b = true)
  | [], acc, h => .inl h
  | x :: l, acc, h => by
    simp only [List.foldl_cons] at h
    rcases fold_wmaskS l _ h with h1 | ⟨y, hy, h2⟩
    · split at h1
      · rename_i hc
        simp only [Bool.and_eq_true] at hc
        simp only [Nat.testBit_or, Bool.or_eq_true, shl_bit, decide_eq_true_eq] at h1
        rcases h1 with h1 | h1 | h1
        · exact .inl h1
        · exact .inr ⟨x, by simp, hc.1, hc.2, .inl h1⟩
        · exact .inr ⟨x, by simp, hc.1, hc.2, .inr h1⟩
      · exact .inl h1
    · exact .inr ⟨y, by simp [hy], h2⟩
theorem wmaskS_spec {seen i : Nat} {L : Nat → Nat} {b : Nat} (h : (wmaskS ops seen L i).testBit b = true) : ∃ o, ops[i]? = some o ∧ ∃ x ∈ o.after, Region.binds .any x = true ∧ seen.testBit x.on = true ∧ (x.on = b ∨ (L x.on).testBit b = true) := by
  unfold wmaskS at h
  split at h
  · rename_i o ho
    rcases fold_wmaskS _ _ h with h | ⟨x, hx, h⟩
    · simp at h
    · exact ⟨o, ho, x, by simpa using hx, h⟩
  · simp at h
theorem rowsP_sound {L : Nat → Nat} {π : List Nat} (hn : π.Nodup) : ∀ (post bef : List Nat) (seen : Nat), π = bef ++ post → (∀ f, seen.testBit f = true ↔ f ∈ bef) → rowsP ops L post seen = true →
    ∀ i ∈ post, ∀ b, (L i).testBit b = true → ∃ o, ops[i]? = some o ∧ ∃ x ∈ o.after, Region.binds .any x = true ∧ x.on ∈ π ∧ π.idxOf x.on < π.idxOf i ∧ (x.on = b ∨ (L x.on).testBit b = true)
  | [], _, _, _, _, _, i, hi, _, _ => by cases hi
  | j :: post, bef, seen, hp, hs, h, i, hi, b, hb => by
    simp only [rowsP, force_eq, Bool.and_eq_true, beq_iff_eq] at h
    obtain ⟨h1, h2⟩ := h
    rcases List.mem_cons.1 hi with rfl | hi
    · obtain ⟨o, ho, x, hx, hbx, hsx, hxb⟩ := wmaskS_spec (sub_bit h1 hb)
      have hm := (hs _).1 hsx
      refine ⟨o, ho, x, hx, hbx, by rw [hp]; exact List.mem_append_left _ hm, ?_, hxb⟩
      have hni : i ∉ bef := by
        rw [hp] at hn
        exact fun hc => (List.nodup_append.1 hn).2.2 i hc i (by simp) rfl
      rw [hp, List.idxOf_append, List.idxOf_append, if_pos hm, if_neg hni]
      have := List.idxOf_lt_length_of_mem hm
      omega
    · refine rowsP_sound hn post (bef ++ [j]) (seen ||| 1 <<< j) (by simp [hp]) (fun f => ?_) h2 i hi b hb
      rw [Nat.testBit_or, Bool.or_eq_true, hs, List.mem_append, List.mem_singleton]
      simp only [shl_bit, decide_eq_true_eq]
      exact ⟨fun h => h.imp id Eq.symm, fun h => h.imp id Eq.symm⟩
theorem planP_of {N : Nat} {π kp : List Nat} (h : planP ti N ops π kp = true) : ∃ L, Plan ti N ops π kp L := by
  simp only [planP, force_eq, Bool.and_eq_true, List.all_eq_true, List.mem_range] at h
  obtain ⟨⟨⟨h1, h2⟩, h3⟩, h4, h5⟩ := h
  generalize rowOf ops.size _ = L at h4 h5
  obtain ⟨⟨hn, _⟩, hat⟩ := scan_sound π [] 0 0 0 0 (fun f => by simp) (fun f hf => by simp at hf) (fun f hf => by simp at hf) (fun f hf => by simp at hf) h5
  have hall : ∀ i, i < ops.size → i ∈ π := fun i hi => by simpa using h3 i hi
  have hlt : ∀ i ∈ π, i < ops.size := fun i hi => by
    obtain ⟨s, t, hst⟩ := List.append_of_mem hi
    obtain ⟨o, ho, _⟩ := hat s i t hst
    exact (Array.getElem?_eq_some_iff.1 ho).1
  refine ⟨L, h1, h2, hn, hall, ⟨fun i => π.idxOf i, fun i hi b hb => ?_⟩, fun pre i post hp => ?_⟩
  · obtain ⟨o, ho, x, hx, hbx, hxs, hxi, h⟩ := rowsP_sound hn π [] 0 rfl (fun f => by simp) h4 i (hall i hi) b hb
    exact ⟨o, ho, x, hx, hbx, hlt _ hxs, hxi, h⟩
  · obtain ⟨o, k1, k2, k3, k4, k5⟩ := hat pre i post hp
    exact ⟨o, k1, fun x hx hb => by simpa using k2 x hx hb, fun f hf => k3 f (.inr hf), fun he f hf => k4 he f (.inr hf), fun f hf => k5 f (.inr hf)⟩
theorem plan_of {N : Nat} {π kp : List Nat} (h : planOK ti N ops π kp = true) : ∃ L, Plan ti N ops π kp L := by
  unfold planOK at h
  rw [Bool.or_eq_true] at h
  rcases h with h | h
  · exact planT_of h
  · exact planP_of h

/-! ### What can come -/
theorem lstU_get {U : List Nat} {i : Nat} (d : Bool) (h : i < ops.size) : (lstU ops U).getD i d = !U.contains i := by simp [lstU, h]
theorem lstU_out {U : List Nat} {i : Nat} (d : Bool) (h : ¬ i < ops.size) : (lstU ops U).getD i d = d := by simp [lstU, h]
theorem lstU_set {j : Nat} {r1 r2 : List Nat} (hn : j ∉ r1 ∧ j ∉ r2) : (lstU ops (r1 ++ j :: r2)).setIfInBounds j true = lstU ops (r1 ++ r2) := by
  apply Array.ext
  · simp [lstU]
  · intro i h1 h2
    have hi : i < ops.size := by simpa [lstU] using h2
    by_cases hik : j = i
    · subst hik
      simp [lstU, hn.1, hn.2]
    · rw [Array.getElem_setIfInBounds_ne _ hik]
      · simp [lstU, Ne.symm hik]
      · simpa [lstU] using hi
theorem ready_U {U : List Nat} {j : Nat} : j ∈ Region.ready .any ops (lstU ops U) ↔ j ∈ U ∧ ∃ o, ops[j]? = some o ∧ ∀ x ∈ o.after, Region.binds .any x = true → x.on < ops.size ∧ x.on ∉ U := by
  rw [mem_ready]
  constructor
  · rintro ⟨h1, o, ho, hall⟩
    have hj := (Array.getElem?_eq_some_iff.1 ho).1
    rw [lstU_get _ hj] at h1
    refine ⟨by simpa using h1, o, ho, fun x hx hb => ?_⟩
    have := hall x hx hb
    by_cases hsz : x.on < ops.size
    · rw [lstU_get _ hsz] at this
      exact ⟨hsz, by simpa using this⟩
    · rw [lstU_out _ hsz] at this; cases this
  · rintro ⟨h1, o, ho, hall⟩
    have hj := (Array.getElem?_eq_some_iff.1 ho).1
    refine ⟨by rw [lstU_get _ hj]; simpa using h1, o, ho, fun x hx hb => ?_⟩
    obtain ⟨h2, h3⟩ := hall x hx hb
    rw [lstU_get _ h2]; simpa using h3
variable {N : Nat} {π kp : List Nat} {L : Nat → Nat} {k : Nat} {rem : List Ent} {a : Act}
theorem Plan.lt (pl : Plan ti N ops π kp L) {i : Nat} (hi : i ∈ π) : i < ops.size := by
  obtain ⟨s, t, hst⟩ := List.append_of_mem hi
  obtain ⟨o, ho, _⟩ := pl.at_ s i t hst
  exact (Array.getElem?_eq_some_iff.1 ho).1
theorem Plan.apart_td (pl : Plan ti N ops π kp L) {i : Nat} (h : i ∈ π.take k) : i ∉ π.drop k := by
  have := pl.nodup
  rw [← List.take_append_drop k π] at this
  exact fun hd => (List.nodup_append.1 this).2.2 i h i hd rfl
theorem split_take {i : Nat} (h : i ∈ π.take k) : ∃ p1 p2, π.take k = p1 ++ i :: p2 ∧ π = p1 ++ i :: (p2 ++ π.drop k) := by
  obtain ⟨p1, p2, hp⟩ := List.append_of_mem h
  refine ⟨p1, p2, hp, ?_⟩
  have := List.take_append_drop k π
  rw [hp] at this
  simpa using this.symm
theorem closedU (pl : Plan ti N ops π kp L) (hp : PendOK P ti ops π k rem a w) : ∀ i o, i < ops.size → i ∉ rem.map (·.1) ++ π.drop k → ops[i]? = some o → ∀ x ∈ o.after, Region.binds .any x = true → x.on ∉ rem.map (·.1) ++ π.drop k := by
  intro i o hi hiU ho x hx hb
  simp only [List.mem_append, not_or] at hiU ⊢
  have hit : i ∈ π.take k := by
    have := pl.all i hi
    rw [← List.take_append_drop k π, List.mem_append] at this
    exact this.resolve_right hiU.2
  obtain ⟨p1, p2, h1, h2⟩ := split_take hit
  obtain ⟨o', ho', hdep, _⟩ := pl.at_ p1 i _ h2
  rw [ho] at ho'; injection ho' with ho'; subst ho'
  refine ⟨hp.closed i hit hiU.1 o ho x hx hb, pl.apart_td ?_⟩
  rw [h1]
  simp [hdep x hx hb]
/-- One of those that lag comes. -/
theorem pick_pend (pl : Plan ti N ops π kp L) {e : Ent} {r1 r2 : List Ent} (hp : PendOK P ti ops π k (r1 ++ e :: r2) a w) (hdep : ∀ x ∈ e.2.1.after, Region.binds .any x = true → x.on ∉ (r1 ++ e :: r2).map (·.1) ++ π.drop k) :
    yatS P ti ops w e.2.1 e.2.2 a ∧ PendOK P ti ops π k (r1 ++ r2) (a.put e.2.1.dst e.2.2) w ∧ puts (r1 ++ e :: r2) a = puts (r1 ++ r2) (a.put e.2.1.dst e.2.2) ∧ e.1 ∉ r1.map (·.1) ∧ e.1 ∉ r2.map (·.1) ∧ e.1 ∉ π.drop k := by
  have heo := hp.op e (by simp)
  have hsub := hp.sub
  have hnd : ((r1 ++ e :: r2).map (·.1)).Nodup := hsub.nodup (pl.nodup.sublist (List.take_sublist _ _))
  have hmap : (r1 ++ e :: r2).map (·.1) = r1.map (·.1) ++ e.1 :: r2.map (·.1) := by simp
  rw [hmap] at hsub hnd
  obtain ⟨l1, l2, hl, hs1, hs2⟩ := List.append_sublist_iff.1 hsub
  obtain ⟨q1, q2, hq⟩ := List.append_of_mem (hs2.subset (List.mem_cons_self))
  have hπ : π = (l1 ++ q1) ++ e.1 :: (q2 ++ π.drop k) := by
    have := List.take_append_drop k π
    rw [hl, hq] at this
    simpa using this.symm
  obtain ⟨o', ho', _, _, _, hap⟩ := pl.at_ _ _ _ hπ
  rw [heo] at ho'; injection ho' with ho'; subst ho'
  have hapart : ∀ f ∈ r1, f.2.1.apart ops e.2.1 = true := by
    intro f hf
    have hfm : f.1 ∈ l1 ++ q1 := by
      have := hs1.subset (List.mem_map.2 ⟨f, hf, rfl⟩)
      simp [this]
    rcases hap f.1 hfm f.2.1 (hp.op f (by simp [hf])) with h | h
    · exact absurd (by simp only [List.map_append, List.mem_append]; exact .inl (.inl (List.mem_map.2 ⟨f, hf, rfl⟩))) (need_out pl.rows (closedU pl hp) heo hdep h)
    · exact h
  obtain ⟨hy, hc, hput⟩ := chainS_move pl.hs heo r1 a hapart (fun f hf => hp.op f (by simp [hf])) hp.chain
  simp only [List.nodup_append, List.nodup_cons] at hnd
  have hmem : e.1 ∈ π.take k := hsub.subset (by simp)
  refine ⟨hy, ⟨fun f hf => hp.op f (by simp at hf ⊢; rcases hf with h | h <;> simp [h]), ?_, ?_, fun f hf => hp.eff f (by simp at hf ⊢; rcases hf with h | h <;> simp [h]), hc⟩, hput, fun h => hnd.2.2 e.1 h e.1 (by simp) rfl, hnd.2.1.1, pl.apart_td hmem⟩
  · refine List.Sublist.trans ?_ hp.sub
    rw [hmap, List.map_append]
    exact List.Sublist.append (List.Sublist.refl _) (List.sublist_cons_self _ _)
  · intro i hi hni o hio x hx hb
    have sub : ∀ y, y ∈ (r1 ++ r2).map (·.1) → y ∈ (r1 ++ e :: r2).map (·.1) := fun y hy => by simp only [List.map_append, List.map_cons, List.mem_append, List.mem_cons] at hy ⊢; rcases hy with h | h <;> simp [h]
    by_cases hie : i = e.1
    · subst hie
      rw [heo] at hio; injection hio with hio; subst hio
      exact fun h => hdep x hx hb (by simp only [List.mem_append]; exact .inl (sub _ h))
    · refine fun h => hp.closed i hi (fun h5 => hni ?_) o hio x hx hb (sub _ h)
      simp only [List.map_append, List.map_cons, List.mem_append, List.mem_cons] at h5 ⊢
      rcases h5 with h5 | h5 | h5
      · exact .inl h5
      · exact absurd h5 hie
      · exact .inr h5
/-- Whatever comes: those that lag, or the next one, which has an effect. -/
theorem settle (pl : Plan ti N ops π kp L) {Q : Exit → Act → World → Prop} {B : Act} (heff : ∀ i0 rest o, π.drop k = i0 :: rest → ops[i0]? = some o → isEff ti o = true) (hend : π.drop k = [] → Q .normal B w)
    (hstep : ∀ i0 rest rem a, π.drop k = i0 :: rest → PendOK P ti ops π k rem a w → puts rem a = B → (∀ o, ops[i0]? = some o → ∀ x ∈ o.after, Region.binds .any x = true → x.on ∉ rem.map (·.1) ++ π.drop k) →
      wpOp P ops Q i0 (fun a w => wpAny P .any ops Q (rem.length + (π.length - (k + 1))) (lstU ops (rem.map (·.1) ++ rest)) a w) a w) :
    ∀ (n : Nat) (rem : List Ent) (a : Act), rem.length = n → PendOK P ti ops π k rem a w → puts rem a = B → wpAny P .any ops Q (rem.length + (π.length - k)) (lstU ops (rem.map (·.1) ++ π.drop k)) a w := by
  intro n
  induction n with
  | zero =>
    intro rem a hl hp hB
    have hr : rem = [] := List.eq_nil_of_length_eq_zero hl
    subst hr
    have e0 : List.map (fun x : Ent => x.1) [] = ([] : List Nat) := rfl
    rw [e0]
    cases hd : π.drop k with
    | nil =>
      have : π.length - k = 0 := by have := congrArg List.length hd; simpa using this
      rw [this]
      refine ⟨?_, by rw [← hB] at hend; exact hend hd⟩
      cases hq : Region.ready .any ops (lstU ops (([] : List Nat) ++ [])) with
      | nil => rfl
      | cons j js =>
        have hj : j ∈ Region.ready .any ops (lstU ops (([] : List Nat) ++ [])) := by rw [hq]; simp
        have := (ready_U.1 hj).1
        simp at this
    | cons i0 rest =>
      have hlen : π.length - k = (π.length - (k + 1)) + 1 := by have := congrArg List.length hd; simp at this; omega
      have hπ : π = π.take k ++ i0 :: rest := by rw [← hd, List.take_append_drop]
      obtain ⟨o, ho, hdep, _⟩ := pl.at_ _ _ _ hπ
      have hd2 : ∀ x ∈ o.after, Region.binds .any x = true → x.on < ops.size ∧ x.on ∉ ([] : List Nat) ++ i0 :: rest := fun x hx hb => by
        have hm := hdep x hx hb
        refine ⟨pl.lt (List.mem_of_mem_take hm), ?_⟩
        rw [← hd]
        simpa using pl.apart_td hm
      rw [hlen, List.length_nil, Nat.zero_add]
      refine ⟨fun h0 => ?_, fun j hj => ?_⟩
      · have : i0 ∈ Region.ready .any ops (lstU ops (([] : List Nat) ++ i0 :: rest)) := ready_U.2 ⟨by simp, o, ho, hd2⟩
        rw [h0] at this; cases this
      · obtain ⟨hjU, oj, hoj, hjd⟩ := ready_U.1 hj
        have hcl := closedU pl hp
        rw [hd] at hcl
        have hji : j = i0 := by
          apply Classical.byContradiction
          intro hne
          have hjr : j ∈ rest := by simpa [hne] using hjU
          obtain ⟨s, t, hst⟩ := List.append_of_mem hjr
          have hπ2 : π = (π.take k ++ i0 :: s) ++ j :: t := by rw [List.append_assoc, List.cons_append, ← hst]; exact hπ
          obtain ⟨oj', hoj', _, he, _⟩ := pl.at_ _ _ _ hπ2
          have hb := he i0 (by simp) o ho (heff i0 rest o hd ho)
          exact need_out pl.rows hcl hoj (fun x hx hb => (hjd x hx hb).2) hb (by simp)
        subst hji
        have hnr : j ∉ rest := by
          have := pl.nodup
          rw [hπ, List.nodup_append, List.nodup_cons] at this
          exact this.2.1.1
        rw [lstU_set ⟨by simp, hnr⟩]
        have := hstep j rest [] a hd hp hB (fun o' ho' x hx hb => by rw [ho] at ho'; injection ho' with ho'; subst ho'; rw [hd]; exact (hd2 x hx hb).2)
        rw [List.length_nil, Nat.zero_add] at this
        exact this
  | succ n ih =>
    intro rem a hl hp hB
    have hcl := closedU pl hp
    rw [hl, Nat.succ_add]
    refine ⟨fun h0 => ?_, fun j hj => ?_⟩
    · -- the first of those that lag can come
      cases rem with
      | nil => simp at hl
      | cons e rem' =>
        have heo := hp.op e (by simp)
        have hsub := hp.sub
        have hnd := hsub.nodup (pl.nodup.sublist (List.take_sublist _ _))
        have hmem : e.1 ∈ π.take k := hsub.subset (by simp)
        -- the first place where it stands
        obtain ⟨p1, p2, h1, h2⟩ := split_take hmem
        obtain ⟨o', ho', hdep, _⟩ := pl.at_ _ _ _ h2
        rw [heo] at ho'; injection ho' with ho'; subst ho'
        have hp1 : ∀ y ∈ p1, y ∉ (e :: rem').map (·.1) := by
          intro y hy hm
          have hn1 : (p1 ++ e.1 :: p2).Nodup := by rw [← h1]; exact pl.nodup.sublist (List.take_sublist _ _)
          rw [h1] at hsub
          simp only [List.map_cons] at hsub hm
          have hne : e.1 ∉ p1 := fun h => (List.nodup_append.1 hn1).2.2 e.1 h e.1 (by simp) rfl
          have : (e.1 :: rem'.map (·.1)).Sublist (e.1 :: p2) := by
            rcases List.sublist_append_iff.1 hsub with ⟨u1, u2, hu, hu1, hu2⟩
            cases u1 with
            | nil => simp only [List.nil_append] at hu; rw [hu]; exact hu2
            | cons z u1 =>
              simp only [List.cons_append, List.cons.injEq] at hu
              exact absurd (hu1.subset (by simp [hu.1])) hne
          have hm2 := this.subset hm
          exact (List.nodup_append.1 hn1).2.2 y hy y hm2 rfl
        have : e.1 ∈ Region.ready .any ops (lstU ops ((e :: rem').map (·.1) ++ π.drop k)) := ready_U.2 ⟨by simp, e.2.1, heo, fun x hx hb => by
          have hm := hdep x hx hb
          refine ⟨pl.lt (by rw [h2]; simp [hm]), ?_⟩
          simp only [List.mem_append, not_or]
          exact ⟨hp1 _ hm, pl.apart_td (by rw [h1]; simp [hm])⟩⟩
        rw [h0] at this; cases this
    · obtain ⟨hjU, oj, hoj, hjd⟩ := ready_U.1 hj
      by_cases hjr : j ∈ rem.map (·.1)
      · obtain ⟨e, he, rfl⟩ := List.mem_map.1 hjr
        obtain ⟨r1, r2, rfl⟩ := List.append_of_mem he
        have heo := hp.op e (by simp)
        rw [heo] at hoj; injection hoj with hoj; subst hoj
        obtain ⟨hy, hp', hput, hn1, hn2, hn3⟩ := pick_pend pl hp (fun x hx hb => (hjd x hx hb).2)
        have fin := ih (r1 ++ r2) (a.put e.2.1.dst e.2.2) (by simp at hl ⊢; omega) hp' (by rw [← hput]; exact hB)
        have hset : (lstU ops ((r1 ++ e :: r2).map (·.1) ++ π.drop k)).setIfInBounds e.1 true = lstU ops ((r1 ++ r2).map (·.1) ++ π.drop k) := by
          have := lstU_set (ops := ops) (j := e.1) (r1 := r1.map (·.1)) (r2 := r2.map (·.1) ++ π.drop k) ⟨hn1, by simp only [List.mem_append, not_or]; exact ⟨hn2, hn3⟩⟩
          simpa using this
        rw [hset]
        have hlen2 : (r1 ++ r2).length = n := by simp at hl ⊢; omega
        rw [hlen2] at fin
        unfold wpOp
        rw [heo]
        rcases hy w (.inr (.inr rfl)) with ⟨hw, hrun⟩ | ⟨hw, hx⟩
        · simp only [hw, if_true]
          left
          unfold Oper.wp
          rw [hrun, Oper.upon_value]
          exact fin
        · simp only [hw, Bool.false_eq_true, if_false]
          rw [hx] at fin
          exact fin
      · have hjd2 : j ∈ π.drop k := by
          simp only [List.mem_append] at hjU
          exact hjU.resolve_left hjr
        cases hd : π.drop k with
        | nil => rw [hd] at hjd2; cases hjd2
        | cons i0 rest =>
          have hπ : π = π.take k ++ i0 :: rest := by rw [← hd, List.take_append_drop]
          obtain ⟨o, ho, _⟩ := pl.at_ _ _ _ hπ
          have hji : j = i0 := by
            apply Classical.byContradiction
            intro hne
            have hjr2 : j ∈ rest := by rw [hd] at hjd2; simpa [hne] using hjd2
            obtain ⟨s, t, hst⟩ := List.append_of_mem hjr2
            have hπ2 : π = (π.take k ++ i0 :: s) ++ j :: t := by rw [List.append_assoc, List.cons_append, ← hst]; exact hπ
            obtain ⟨oj', hoj', _, he, _⟩ := pl.at_ _ _ _ hπ2
            have hb := he i0 (by simp) o ho (heff i0 rest o hd ho)
            exact need_out pl.rows hcl hoj (fun x hx hb => (hjd x hx hb).2) hb (by rw [hd]; simp)
          subst hji
          have hnr : j ∉ rest := by
            have := pl.nodup
            rw [hπ, List.nodup_append, List.nodup_cons] at this
            exact this.2.1.1
          rw [lstU_set ⟨hjr, hnr⟩]
          have hlen : π.length - k = (π.length - (k + 1)) + 1 := by have := congrArg List.length hd; simp at this; omega
          have := hstep j rest rem a hd hp hB (fun o' ho' x hx hb => by rw [hoj] at ho'; injection ho' with ho'; subst ho'; exact (hjd x hx hb).2)
          rw [hl] at this
          have e2 : n + (π.length - k) = n + 1 + (π.length - (k + 1)) := by omega
          rw [e2]
          exact this

/-! ### Over what stands in the slots -/
variable {G : GR} {K : KD} {σ : St}
theorem evA_ro {ρ : Operand → AV} {r r' : Rs} {op : Op} {v : AV} (hp : roOp ti op = true) (e : evA ti ρ r op = some (v, r')) : evP ti ρ r op = some v ∧ r' = r := by
  cases op <;> simp only [roOp, reduceCtorEq, Bool.false_eq_true] at hp
  case convert s d x =>
    simp only [evA] at e
    split at e
    · rename_i u hu
      simp only [Option.some.injEq, Prod.mk.injEq] at e
      obtain ⟨rfl, rfl⟩ := e
      exact ⟨hu, rfl⟩
    · simp only [evR] at e
      refine absurd e (evCB_no fun el s b z he => ?_)
      unfold tK at hp
      rw [he] at hp
      simp [tkOf] at hp
  case call c =>
    simp only [evA] at e
    split at hp
    all_goals first
      | (rename_i hc
         rw [hc] at e
         simp only [Option.map_eq_some_iff, Prod.mk.injEq] at e
         obtain ⟨u, hu, rfl, rfl⟩ := e
         exact ⟨hu, rfl⟩)
      | cases hp
  all_goals
    simp only [evA, Option.map_eq_some_iff, Prod.mk.injEq] at e
    obtain ⟨u, hu, rfl, rfl⟩ := e
    exact ⟨hu, rfl⟩
theorem opl_cons (pl : Plan ti N ops π kp L) {o : Oper} {rest : List Oper} (h : o :: rest = opl ops (π.drop k)) : ∃ i0, π.drop k = i0 :: π.drop (k + 1) ∧ ops[i0]? = some o ∧ rest = opl ops (π.drop (k + 1)) ∧ k + 1 ≤ π.length := by
  cases hd : π.drop k with
  | nil => rw [hd] at h; simp [opl] at h
  | cons i0 tl =>
    have hlt := congrArg List.length hd
    simp at hlt
    have htl : π.drop (k + 1) = tl := by
      have := congrArg (List.drop 1) hd
      rw [List.drop_drop] at this
      simpa [Nat.add_comm] using this
    have hπ : π = π.take k ++ i0 :: tl := by rw [← hd, List.take_append_drop]
    obtain ⟨o', ho', _⟩ := pl.at_ _ _ _ hπ
    rw [hd] at h
    simp only [opl, List.filterMap_cons, ho', List.cons.injEq] at h
    exact ⟨i0, by rw [htl], by rw [ho', h.1], by rw [htl]; exact h.2, by omega⟩
theorem opl_nil (pl : Plan ti N ops π kp L) (h : [] = opl ops (π.drop k)) : π.drop k = [] := by
  cases hd : π.drop k with
  | nil => rfl
  | cons i0 tl =>
    have hπ : π = π.take k ++ i0 :: tl := by rw [← hd, List.take_append_drop]
    obtain ⟨o', ho', _⟩ := pl.at_ _ _ _ hπ
    rw [hd] at h
    simp [opl, ho'] at h
theorem pend_next (pl : Plan ti N ops π kp L) {i0 : Nat} {o : Oper} (hd : π.drop k = i0 :: π.drop (k + 1)) (ho : ops[i0]? = some o) (hk : k + 1 ≤ π.length) : π.take (k + 1) = π.take k ++ [i0] ∧ (∀ x ∈ o.after, Region.binds .any x = true → x.on ∈ π.take k) := by
  have hπ : π = π.take k ++ i0 :: π.drop (k + 1) := by rw [← hd, List.take_append_drop]
  obtain ⟨o', ho', hdep, _⟩ := pl.at_ _ _ _ hπ
  rw [ho] at ho'; injection ho' with ho'; subst ho'
  refine ⟨?_, hdep⟩
  have hl : (π.take k).length = k := by simp; omega
  conv => lhs; rw [hπ]
  rw [List.take_append, hl, List.take_of_length_le (by omega)]
  simp
/-- An operation that only reads is taken at once; it may come later. -/
theorem DWp_read (pl : Plan ti N ops π kp L) {i0 : Nat} {o : Oper} (hd : π.drop k = i0 :: π.drop (k + 1)) (ho : ops[i0]? = some o) (hk : k + 1 ≤ π.length) (hne : isEff ti o = false) {σ' : St} (hr : σ'.r = σ.r)
    (hy : ∀ E a w, Rel G N E σ a w → ∃ x, yatS P ti ops w o x a ∧ Rel G N E σ' (a.put o.dst x) w) (h : DWp P ti G N ops π (k + 1) K σ') : DWp P ti G N ops π k K σ := by
  intro E0 r0 w0 E a w rem hp hR hS
  obtain ⟨x, hyx, hR'⟩ := hy E _ w hR
  obtain ⟨ht, hdep⟩ := pend_next pl hd ho hk
  obtain ⟨hc, hput⟩ := chainS_snoc (e := (i0, o, x)) rem a hp.chain hyx
  have hi0 : i0 ∉ π.take k := by
    have := pl.nodup
    rw [← List.take_append_drop k π, hd, List.nodup_append] at this
    exact fun hm => this.2.2 i0 hm i0 (by simp) rfl
  have hp' : PendOK P ti ops π (k + 1) (rem ++ [(i0, o, x)]) a w := by
    refine ⟨fun e he => ?_, ?_, ?_, fun e he => ?_, hc⟩
    · simp only [List.mem_append, List.mem_singleton] at he
      rcases he with he | rfl
      · exact hp.op e he
      · exact ho
    · rw [ht, List.map_append]
      exact List.Sublist.append hp.sub (List.Sublist.refl _)
    · intro i hi hni o' ho' y hy' hb
      simp only [List.map_append, List.map_cons, List.map_nil, List.mem_append, List.mem_singleton, not_or] at hni ⊢
      rw [ht, List.mem_append, List.mem_singleton] at hi
      have hit := hi.resolve_right hni.2
      refine ⟨hp.closed i hit hni.1 o' ho' y hy' hb, fun h => ?_⟩
      obtain ⟨p1, p2, h1, h2⟩ := split_take hit
      obtain ⟨o2, ho2, hd2, _⟩ := pl.at_ _ _ _ h2
      rw [ho'] at ho2; injection ho2 with ho2; subst ho2
      have := hd2 y hy' hb
      rw [h] at this
      exact hi0 (by rw [h1]; simp [this])
    · simp only [List.mem_append, List.mem_singleton] at he
      rcases he with he | rfl
      · exact hp.eff e he
      · exact hne
  have := h E0 r0 w0 E a w _ hp' (by rw [hput]; exact hR') (by rw [hr]; exact hS)
  have e1 : (rem ++ [(i0, o, x)]).length + (π.length - (k + 1)) = rem.length + (π.length - k) := by simp; omega
  have e2 : (rem ++ [(i0, o, x)]).map (·.1) ++ π.drop (k + 1) = rem.map (·.1) ++ π.drop k := by rw [hd]; simp
  rw [e1, e2] at this
  exact this
/-- One with an effect, in its turn. -/
theorem DWp_step (pl : Plan ti N ops π kp L) {i0 : Nat} {o : Oper} (hd : π.drop k = i0 :: π.drop (k + 1)) (ho : ops[i0]? = some o) (hk : k + 1 ≤ π.length) (he : isEff ti o = true)
    (h : ∀ E0 r0 w0 E b w, Rel G N E σ b w → Step E0 r0 w0 E σ.r w → ∀ (a : Act) (C : Act → World → Prop), execOp b.eval o = execOp a.eval o → Region.wanted o (yielded ops b.tmps) = Region.wanted o (yielded ops a.tmps) →
      (∀ x w' E' σ', Rel G N E' σ' (b.put o.dst x) w' → Step E0 r0 w0 E' σ'.r w' → (isKeep kp i0 o = true → Keeps w w') → DWp P ti G N ops π (k + 1) K σ' → C (a.put o.dst x) w') → if Region.wanted o (yielded ops a.tmps) = true then o.wp P a w C (noPanic (lift G N E0 r0 w0 (app P ti G N K))) else C (a.put o.dst undef) w) :
    DWp P ti G N ops π k K σ := by
  intro E0 r0 w0 E a w rem hp hR hS
  obtain ⟨ht, hdep⟩ := pend_next pl hd ho hk
  have hπ : π = π.take k ++ i0 :: π.drop (k + 1) := by rw [← hd, List.take_append_drop]
  obtain ⟨o', ho', _, _, hnp, hap⟩ := pl.at_ _ _ _ hπ
  rw [ho] at ho'; injection ho' with ho'; subst ho'
  refine settle (B := puts rem a) pl (fun i r o' hd' ho' => ?_) (fun h0 => ?_) (fun i0' rest rem' a' hd' hp' hB hdU => ?_) rem.length rem a rfl hp rfl
  · rw [hd] at hd'
    simp only [List.cons.injEq] at hd'
    rw [← hd'.1, ho] at ho'; injection ho' with ho'; subst ho'
    exact he
  · rw [hd] at h0; cases h0
  · rw [hd] at hd'
    simp only [List.cons.injEq] at hd'
    obtain ⟨rfl, rfl⟩ := hd'
    have hdV := hdU o ho
    have hcl := closedU pl hp'
    have hin : ∀ f ∈ rem', f.1 ∈ π.take k := fun f hf => hp'.sub.subset (List.mem_map.2 ⟨f, hf, rfl⟩)
    have hU : ∀ f ∈ rem', f.1 ∈ rem'.map (·.1) ++ π.drop k := fun f hf => by simp only [List.mem_append]; exact .inl (List.mem_map.2 ⟨f, hf, rfl⟩)
    have hpu : ∀ f ∈ rem', pureOp ti f.2.1.op = true ∨ (isKeep kp i0 o = true ∧ stOp ti f.2.1.op = true) := fun f hf => by
      rcases hnp he f.1 (hin f hf) f.2.1 (hp'.op f hf) with h1 | h1
      · exact h1
      · exact absurd (hU f hf) (need_out pl.rows hcl ho hdV h1)
    have hapf : ∀ f ∈ rem', f.2.1.apart ops o = true := fun f hf => by
      rcases hap f.1 (hin f hf) f.2.1 (hp'.op f hf) with h1 | h1
      · exact absurd (hU f hf) (need_out pl.rows hcl ho hdV h1)
      · exact h1
    obtain ⟨k1, k2, k3, k4⟩ := chainS_front pl.hs ho rem' a' hapf hp'.op hp'.chain
    have main := h E0 r0 w0 E (puts rem' a') w (by rw [hB]; exact hR) hS a' (fun a w => wpAny P .any ops (noPanic (lift G N E0 r0 w0 (app P ti G N K))) (rem'.length + (π.length - (k + 1))) (lstU ops (rem'.map (·.1) ++ π.drop (k + 1))) a w) k1 k2
      (fun x w' E' σ' hR' hS' hkp hD => by
        have m1 := k4 x w' fun f hf => (hpu f hf).imp id fun h => ⟨h.2, hkp h.1⟩
        have m2 := k3 x
        refine hD E0 r0 w0 E' _ w' rem' ⟨hp'.op, ?_, ?_, hp'.eff, m1⟩ (by rw [m2]; exact hR') hS'
        · rw [ht]; exact hp'.sub.trans (List.sublist_append_left _ _)
        · intro i hi hni o2 ho2 y hy hb
          rw [ht, List.mem_append, List.mem_singleton] at hi
          rcases hi with hi | rfl
          · exact hp'.closed i hi hni o2 ho2 y hy hb
          · rw [ho] at ho2; injection ho2 with ho2; subst ho2
            have := hdV y hy hb
            simp only [List.mem_append, not_or] at this
            exact this.1)
    unfold wpOp
    rw [ho]
    simp only
    split at main
    · rename_i hw; rw [if_pos hw]; exact .inl main
    · rename_i hw; rw [if_neg hw]; exact main
theorem DWp_end (pl : Plan ti N ops π kp L) (hd : π.drop k = []) (h : app P ti G N K .normal σ) : DWp P ti G N ops π k K σ := by
  intro E0 r0 w0 E a w rem hp hR hS
  exact settle (B := puts rem a) pl (fun i r o' hd' => by rw [hd] at hd'; cases hd') (fun _ => ⟨σ, E, h, hR, hS⟩) (fun i0' rest rem' a' hd' => by rw [hd] at hd'; cases hd') rem.length rem a rfl hp rfl
/-- A new struct or row leaves memory as it was. -/
theorem keep_run (hti : TiOK P ti) {ρ : Operand → AV} {r r' : Rs} {o : Oper} {v : AV} {α : Operand → Value} {x : Value} {w' : World} (hko : keepOp o.op = true) (e : evA ti ρ r o.op = some (v, r')) (h : (execOp α o).run P w = .ok (.value x) w' ∨ ((execOp α o).run P w = .ok .skip w' ∧ x = undef)) : Keeps w w' := by
  cases ho : o.op <;> rw [ho] at hko e <;> simp only [keepOp, Bool.false_eq_true] at hko
  case box t y =>
    have hb : (execOp α o).run P w = .ok (.value (.pointer (some ⟨w.heap.size, 0, none⟩))) (w.alloc (.cells (α y).cells t)) := by
      simp [execOp, ho, Instr.box, newVar, newRow, newObj]; rfl
    rw [hb] at h
    have : w' = w.alloc (.cells (α y).cells t) := by rcases h with h | ⟨h, _⟩ <;> injection h with h1 h2 <;> exact h2.symm
    rw [this]
    exact Keeps.alloc _ _
  case alloc t =>
    simp only [evA, evR] at e
    split at e
    · rename_i i hi
      have hzr := ti_zero (P := P) hti hi w
      have hb : (execOp α o).run P w = .ok (.value (.pointer (some ⟨w.heap.size, 0, none⟩))) (w.alloc (.cells i.zero.cells t)) := by
        simp [execOp, ho, Instr.alloc, hzr, newVar, newRow, newObj]; rfl
      rw [hb] at h
      have : w' = w.alloc (.cells i.zero.cells t) := by rcases h with h | ⟨h, _⟩ <;> injection h with h1 h2 <;> exact h2.symm
      rw [this]
      exact Keeps.alloc _ _
    · cases e
  case buildSlice t n parts =>
    simp only [evA, evR, evBS] at e
    split at e
    · rename_i el _ _ _ hte
      have hut := ti_run (P := P) hti hte w
      split at e
      · rename_i ie hie
        have hsz := ti_size (P := P) hti hie w
        have hzr := ti_zero (P := P) hti hie w
        simp only [execOp, ho, Instr.buildSlice, Sem.run_bind, hut, hsz, Result.andThen_ok] at h
        have hrow : ∀ cells : Array Value, Sem.run P (newRow el cells) w = .ok ⟨w.heap.size, 0, none⟩ (w.alloc (.cells cells el)) := fun cells => by simp [newRow, newObj]; rfl
        have h24 : ¬ n * ie.size > 2 ^ 24 := by
          cases n with
          | zero => simp
          | succ n =>
            simp only at e
            split at e
            · split at e
              · rename_i hc; have := hc.2.2; omega
              · cases e
            · cases e
        have fin : ∀ (q : Option (Array Value)), ((Sem.run P (match q with
            | some cells => do
              let a ← newRow el cells
              pure (Value.slice (some a) n n)
            | _ => stuck "buildSlice: a part of the wrong size") w).andThen fun a w' => Sem.run P (pure (Next.value a)) w') = .ok (.value x) w' ∨ ((Sem.run P (match q with
            | some cells => do
              let a ← newRow el cells
              pure (Value.slice (some a) n n)
            | _ => stuck "buildSlice: a part of the wrong size") w).andThen fun a w' => Sem.run P (pure (Next.value a)) w') = .ok .skip w' ∧ x = undef → Keeps w w' := by
          intro q h
          cases q with
          | some cells =>
            simp only [Sem.run_bind, hrow, Result.andThen_ok, Sem.run_pure] at h
            have : w' = w.alloc (.cells cells el) := by rcases h with h | ⟨h, _⟩ <;> injection h with h1 h2 <;> exact h2.symm
            rw [this]
            exact Keeps.alloc _ _
          | none => simp [stuck] at h
        rw [if_neg h24] at h
        by_cases h0 : n * ie.size = 0
        · rw [if_pos h0] at h
          simp only [Sem.run_bind, Sem.run_pure, Result.andThen_ok] at h
          exact fin _ h
        · rw [if_neg h0] at h
          simp only [Sem.run_bind, Sem.run_pure, hzr, Result.andThen_ok] at h
          exact fin _ h
      · cases e
    · cases e
theorem Good.keeps {E : Env} {r : Rs} {w' : World} (h : Good G E r w) (hk : Keeps w w') : Good G E r w' ∧ Lasts E.T w E.T w' ∧ ShapeLasts w w' := by
  have hL : Lasts E.T w E.T w' := ⟨fun _ => Nat.le_refl _, fun a ha => by
    unfold World.cell?; rw [hk.2 _ (h.pub_lt ha)]⟩
  have hS : ShapeLasts w w' := fun b s hs => by
    unfold World.shape? at hs ⊢
    have hb : b < w.heap.size := by
      rcases Nat.lt_or_ge b w.heap.size with h1 | h1
      · exact h1
      · simp [Array.getElem?_eq_none h1] at hs
    rw [hk.2 b hb]; exact hs
  refine ⟨⟨fun i q b hi hb => ?_, fun i l hi => ?_, fun i l hi => ?_, h.one, fun b hb => h.fresh b (Nat.le_trans hk.1 hb), fun g => RM.lasts hL _ _ (h.glob g)⟩, hL, hS⟩
  · obtain ⟨h1, cur, e, h2, h3⟩ := h.tok i q b hi hb
    exact ⟨h1, cur, e, (hk.2 b (h.lt hi hb)).trans h2, h3⟩
  · obtain ⟨b, hb, h1, vs, e, h2, h3, h4⟩ := h.obj i l hi
    exact ⟨b, hb, h1, vs, e, (hk.2 b (h.lt hi hb)).trans h2, RAL.lasts hL (Names.refl E r) hS _ _ h3, h4⟩
  · obtain ⟨b, hb, h1, h2⟩ := h.map i l hi
    exact ⟨b, hb, h1, h2.lasts (T' := E.T) (hk.2 b (h.lt hi hb)) hL⟩
/-- What is told by a constant is told the same while memory only grows. -/
theorem const_run (hti : TiOK P ti) {E : Env} {r : Rs} {w' : World} (hG : Good G E r w) {ρ : Operand → AV} {α : Operand → Value} (hev : ∀ x, RA E r w (ρ x) (α x)) {o : Oper} {u z : Value} (e : evP ti ρ r o.op = some (.d (.c u))) (hz : (execOp α o).run P w = .ok (.value z) w) (hk : Keeps w w') : (execOp α o).run P w' = .ok (.value z) w' := by
  obtain ⟨hG', hL, hS⟩ := hG.keeps hk
  obtain ⟨z1, h1, h2⟩ := evP_sound (P := P) hti hG hev e
  obtain ⟨z2, h3, h4⟩ := evP_sound (P := P) hti hG' (fun x => RA.lasts hL (Names.refl E r) hS _ _ (hev x)) e
  simp only [RA, RD] at h2 h4
  rw [hz] at h1
  have : z = z1 := by simpa using h1
  rw [h3, h4.1, this, h2.1]
theorem st_run (hti : TiOK P ti) {E : Env} {r : Rs} {w' : World} (hG : Good G E r w) {ρ : Operand → AV} {α : Operand → Value} (hev : ∀ x, RA E r w (ρ x) (α x)) {o : Oper} {v : AV} {z : Value} (hst : stOp ti o.op = true) (hpu : ¬ pureOp ti o.op = true) (e : evP ti ρ r o.op = some v) (hz : (execOp α o).run P w = .ok (.value z) w) (hk : Keeps w w') :
    (execOp α o).run P w' = .ok (.value z) w' := by
  have key : (∃ u, v = .d (.c u)) → (execOp α o).run P w' = .ok (.value z) w' := by
    rintro ⟨u, rfl⟩
    exact const_run hti hG hev e hz hk
  cases ho : o.op <;> rw [ho] at hst hpu e <;> first | exact absurd hst hpu | skip
  case load t x =>
    simp only [evP] at e
    obtain ⟨z1, h1, h2⟩ := evLoad_sound (P := P) hti hG (hev x) e
    have := h1 w (Keeps.refl w)
    simp only [execOp, ho] at hz ⊢
    simp [this] at hz
    subst hz
    simp [h1 w' hk]
  case convert s d x =>
    refine key ?_
    simp only [evP] at e
    unfold evConv at e
    split at e
    · split at e
      · injection e with e; exact ⟨_, e.symm⟩
      · injection e with e; exact ⟨_, e.symm⟩
      · split at e
        · split at e
          · simp only [Option.map_eq_some_iff] at e
            obtain ⟨l, _, e⟩ := e
            exact ⟨_, e.symm⟩
          · cases e
        · cases e
      · cases e
    · cases e
  case binOp op t x y ty =>
    refine key ?_
    simp only [evP] at e
    have hnil : ∀ q a b, evNil ti r t q a b = some v → ∃ u, v = .d (.c u) := by
      intro q a b h
      unfold evNil at h
      split at h
      · split at h
        · injection h with h; exact ⟨_, h.symm⟩
        · cases h
      · cases h
    have hnop : ∀ a b, evNilOp ti r op t a b = some v → ∃ u, v = .d (.c u) := by
      intro a b h
      have both : ∀ q, (evNil ti r t q a b).or (evEqA ti t q a b) = some v → ∃ u, v = .d (.c u) := by
        intro q h
        rw [Option.or_eq_some_iff] at h
        rcases h with h | ⟨_, h⟩
        · exact hnil _ _ _ h
        · exact evEqA_form h
      cases op <;> simp only [evNilOp] at h <;> first | exact both _ h | cases h
    unfold evBin at e
    split at e
    · split at e
      · obtain ⟨_, e⟩ := chk_some e
        injection e with e; exact ⟨_, e.symm⟩
      · exact hnop _ _ e
    · exact hnop _ _ e
  case call c =>
    simp only [stOp] at hst
    split at hst
    · rename_i hc
      refine key ?_
      simp only [evP, evCall, hc] at e
      split at e
      · simp only [Option.map_eq_some_iff] at e
        obtain ⟨n, _, e⟩ := e
        exact ⟨_, e.symm⟩
      · cases e
    · cases hst
theorem ED_sound (hti : TiOK P ti) (pl : Plan ti N ops π kp L) (hok : planOK ti N ops π kp = true) : ∀ (l : List Oper) (k : Nat) (σ : St), k ≤ π.length → l = opl ops (π.drop k) → EV P ti G N ops l (.draw π kp K) σ → DWp P ti G N ops π k K σ
  | [], k, σ, hk, hl, h => DWp_end pl (opl_nil pl hl) h
  | o :: rest, k, σ, hk, hl, h => by
    obtain ⟨i0, hd, ho, hrest, hk1⟩ := opl_cons pl hl
    have hmem : o ∈ ops.toList := by simpa using Array.mem_of_getElem? ho
    have hdst := pl.dst o hmem
    have h0 := h
    unfold EV evk at h
    obtain ⟨t, ht, h1, h2⟩ := bindP_elim h
    by_cases hst : t = true ∧ stp ti o.op = true
    · have := h1 hst.1
      rw [if_pos hst.2] at this
      have hlen : π.length - (o :: rest).length = k := by
        have e1 : (o :: rest).length = π.length - k := by
          rw [hl, opl]
          have : ∀ l : List Nat, (∀ i ∈ l, (ops[i]?).isSome = true) → (l.filterMap fun i => ops[i]?).length = l.length := by
            intro l
            induction l with
            | nil => intro _; rfl
            | cons i l ih =>
              intro hh
              obtain ⟨v, hv⟩ := Option.isSome_iff_exists.1 (hh i (by simp))
              rw [List.filterMap_cons, hv]
              simp [ih (fun j hj => hh j (by simp [hj]))]
          rw [this _ (fun i hi => by rw [Array.getElem?_eq_getElem (pl.lt (List.mem_of_mem_drop hi))]; rfl)]
          simp
        omega
      have h3 : HO P ti G N ops (o :: rest) (.draw π kp K) σ := this
      unfold HO at h3
      simp only at h3
      rw [hlen] at h3
      exact h3 hok hl
    · by_cases he : isEff ti o = true
      · refine DWp_step pl hd ho hk1 he fun E0 r0 w0 E b w hR hS a C heq hwq hC => ?_
        have hgd := gd_sound hR ht
        rw [hwq] at hgd
        cases t with
        | true =>
          rw [if_pos hgd]
          have h1 := h1 rfl
          rw [if_neg (fun hs => hst ⟨rfl, hs⟩)] at h1
          obtain ⟨⟨v, r'⟩, hq, h3⟩ := bindP_elim h1
          obtain ⟨x, w', E', hrun, hra, hgood, hstp⟩ := evA_sound (P := P) hti hR.good (fun y => ev_sound hR y) hq
          have hrel := hR.putO hstp hgood hdst hra
          rw [putR_eq] at hrel
          have hkeep : isKeep kp i0 o = true → Keeps w w' := fun hkp => by
            have hko : keepOp o.op = true := by
              unfold isKeep at hkp
              simp only [Bool.or_eq_true, Bool.and_eq_true] at hkp
              exact hkp.resolve_right fun h => hst ⟨rfl, by simp [stp, h.1]⟩
            exact keep_run hti hko hq hrun
          have fin := hC x w' E' _ hrel (hS.trans hstp) hkeep (ED_sound hti pl hok rest (k + 1) _ hk1 hrest h3)
          rw [heq] at hrun
          unfold Oper.wp
          rcases hrun with hrun | ⟨hrun, rfl⟩
          · rw [hrun, Oper.upon_value]; exact fin
          · rw [hrun, Oper.upon_skip]; exact fin
        | false =>
          rw [if_neg (by rw [hgd]; simp)]
          have hrel := hR.putO (r' := σ.r) (Step.refl _ _ _) hR.good hdst (v := undA) (x := undef) (by simp [RA, RAL, undef])
          rw [putR_eq] at hrel
          exact hC undef w E _ hrel hS (fun _ => Keeps.refl w) (ED_sound hti pl hok rest (k + 1) _ hk1 hrest (h2 rfl))
      · have he' : isEff ti o = false := by simpa using he
        have hro : roOp ti o.op = true ∧ stp ti o.op = false := by
          unfold isEff at he'
          simp only [Bool.or_eq_false_iff, Bool.not_eq_false'] at he'
          refine ⟨he'.1, ?_⟩
          have : isApp o.op = false := by
            have h1 := he'.1
            unfold isApp
            split
            · rename_i c hc
              split
              · rename_i hcc
                rw [hc] at h1
                simp [roOp, hcc] at h1
              · rfl
            · rfl
          simp [stp, he'.2, this]
        cases t with
        | true =>
          have h1 := h1 rfl
          rw [hro.2] at h1
          simp only [Bool.false_eq_true, if_false] at h1
          obtain ⟨⟨v, r'⟩, hq, h3⟩ := bindP_elim h1
          obtain ⟨hq', rfl⟩ := evA_ro hro.1 hq
          refine DWp_read pl hd ho hk1 he' (σ' := σ.putR o.dst v σ.r) rfl (fun E a w hR => ?_) (ED_sound hti pl hok rest (k + 1) _ hk1 hrest h3)
          have hgd := gd_sound hR ht
          obtain ⟨z, hz, hza⟩ := evP_sound (P := P) hti hR.good (fun y => ev_sound hR y) hq'
          have hrel := hR.putO (Step.refl _ _ _) hR.good hdst hza
          rw [putR_eq] at hrel
          by_cases hpu : pureOp ti o.op = true
          · obtain ⟨z2, hz2, hra2⟩ := pure_free (P := P) hti hR.good (fun y => ev_sound hR y) hpu hq'
            have : z = z2 := by have := hz2 w; rw [hz] at this; simpa using this
            subst this
            exact ⟨z, fun w' _ => .inl ⟨hgd, hz2 w'⟩, hrel⟩
          · refine ⟨z, fun w' hw' => ?_, hrel⟩
            rcases hw' with h | ⟨h, hkp⟩ | rfl
            · exact absurd h hpu
            · exact .inl ⟨hgd, st_run hti hR.good (fun y => ev_sound hR y) h hpu hq' hz hkp⟩
            · exact .inl ⟨hgd, hz⟩
        | false =>
          refine DWp_read pl hd ho hk1 he' (σ' := σ.putR o.dst undA σ.r) rfl (fun E a w hR => ?_) (ED_sound hti pl hok rest (k + 1) _ hk1 hrest (h2 rfl))
          have hgd := gd_sound hR ht
          have hrel := hR.putO (r' := σ.r) (Step.refl _ _ _) hR.good hdst (v := undA) (x := undef) (by simp [RA, RAL, undef])
          rw [putR_eq] at hrel
          exact ⟨undef, fun w' _ => .inr ⟨hgd, rfl⟩, hrel⟩
/-- A drawn region, in the text's order. -/
theorem HC_plan (kp : List Nat) (hti : TiOK P ti) (hm : P.follows .mixedOrders = true) {id : Nat} {l : List Oper} (hok : planOK ti N l.toArray (List.range l.length) kp = true) (h : EV P ti G N l.toArray l (.draw (List.range l.length) kp K) σ) (hro : G.ro = none := by rfl) : HC P ti G N (.region id l.toArray true) K σ := by
  intro E0 r0 w0 E a w hR hS
  refine wide_of hro (wp_region_any hm ?_)
  have hrel : Rel G N E σ a w.drew := ⟨hR.size, fun i => (hR.slot i).step (step_drew E σ.r w), good_drew hR.good, hR.defers.step (step_drew E σ.r w)⟩
  obtain ⟨L, pl⟩ := plan_of hok
  have hl : l = opl l.toArray ((List.range l.length).drop 0) := by
    rw [List.drop_zero, opl]
    apply List.ext_getElem?
    intro i
    have : (List.range l.length).filterMap (fun i => l.toArray[i]?) = l := by
      have : ∀ l : List Oper, (List.range l.length).filterMap (fun i => l[i]?) = l := by
        intro l
        induction l with
        | nil => rfl
        | cons a l ih => rw [List.length_cons, List.range_succ_eq_map, List.filterMap_cons]; simp [List.filterMap_map, Function.comp_def, ih]
      simpa using this l
    rw [this]
  have := ED_sound (K := K) hti pl hok l 0 σ (Nat.zero_le _) hl h E0 r0 w0 E a w.drew [] ⟨fun e he => (by simp at he), by simp, fun i hi => by simp at hi, fun e he => (by simp at he), trivial⟩ hrel (hS.trans (step_drew E σ.r w))
  have e1 : lstU l.toArray (([] : List Ent).map (·.1) ++ (List.range l.length).drop 0) = Array.replicate l.toArray.size false := by
    apply Array.ext
    · simp [lstU]
    · intro i h1 h2
      have : i < l.length := by simpa [lstU] using h1
      simp [lstU, this]
  rw [e1] at this
  simp only [List.length_nil, List.length_range, Nat.zero_add, Nat.sub_zero] at this
  refine wpAny_mono' (fun e a w h => ?_) _ _ _ _ this
  cases e <;> first | exact h | exact h.elim
/-- .. in another order. -/
theorem HC_order (kp : List Nat) (hti : TiOK P ti) (hm : P.follows .mixedOrders = true) {id : Nat} {l : List Oper} (π : List Nat) (hok : planOK ti N l.toArray π kp = true) (hlen : π.length = l.length) (l' : List Oper) (hl : l' = opl l.toArray π) (h : EV P ti G N l.toArray l' (.draw π kp K) σ) (hro : G.ro = none := by rfl) : HC P ti G N (.region id l.toArray true) K σ := by
  intro E0 r0 w0 E a w hR hS
  refine wide_of hro (wp_region_any hm ?_)
  have hrel : Rel G N E σ a w.drew := ⟨hR.size, fun i => (hR.slot i).step (step_drew E σ.r w), good_drew hR.good, hR.defers.step (step_drew E σ.r w)⟩
  obtain ⟨L, pl⟩ := plan_of hok
  have := ED_sound (K := K) hti pl hok l' 0 σ (Nat.zero_le _) (by rw [List.drop_zero]; exact hl) h E0 r0 w0 E a w.drew [] ⟨fun e he => (by simp at he), by simp, fun i hi => by simp at hi, fun e he => (by simp at he), trivial⟩ hrel (hS.trans (step_drew E σ.r w))
  have e1 : lstU l.toArray (([] : List Ent).map (·.1) ++ π.drop 0) = Array.replicate l.toArray.size false := by
    apply Array.ext
    · simp [lstU]
    · intro i h1 h2
      have hi : i < l.length := by simpa [lstU] using h1
      have := pl.all i (by simpa using hi)
      simp [lstU, this]
  rw [e1] at this
  have e2 : l.toArray.size = π.length := by simp [hlen]
  simp only [List.length_nil, Nat.zero_add, Nat.sub_zero] at this
  rw [← e2] at this
  refine wpAny_mono' (fun e a w h => ?_) _ _ _ _ this
  cases e <;> first | exact h | exact h.elim
/-! ### Calls, in regions of either kind -/
theorem HO_call (hti : TiOK P ti) {o : Oper} {rest : List Oper} {M : KM} {f : FuncId} {as args : List AV} {r : Rs} {O : AV → Rs → Prop} {c : Call} (ts : List Nat) (h : AC P G f args r O) (ho : o.op = .call c)
    (hg : gd ops σ o = some true) (hc : calleeOf (σ.ev G) c = some (f, as)) (hd : (o :: rest).all (dstOK N) = true) (hnd : ts.Nodup)
    (hs : (∀ t ∈ ts, t < σ.r.length) ∧ WkAs as (renL (nm ts σ.r.length) args) ∧ wfL r.length args = true ∧ HandOK (nm ts σ.r.length) σ.r r ts ∧ wfRs r.length r = true) (hkp : r = [] ∨ kpFree M (o :: rest).length = true)
    (hk : ∀ v r', O v r' → r.length ≤ r'.length → EV P ti G N ops rest M (σ.putR o.dst (ren (nm ts σ.r.length) v) (putAll (nm ts σ.r.length) σ.r ts r'))) : HO P ti G N ops (o :: rest) M σ := by
  cases M with
  | plain K => exact HO_callP hti ts h ho hg hc hd hnd hs hk
  | draw π kp K =>
    intro hok hl
    obtain ⟨L, pl⟩ := plan_of hok
    obtain ⟨i0, hd0, ho0, hrest, hk1⟩ := opl_cons pl hl
    simp only [List.all_cons, Bool.and_eq_true] at hd
    have he : isEff ti o = true := by
      unfold isEff
      have : stops o.op = true := by
        rw [ho]
        unfold calleeOf at hc
        split at hc
        · rename_i x hx; simp [stops, hx]
        · cases hc
      simp [this]
    refine DWp_step pl hd0 ho0 hk1 he fun E0 r0 w0 E b w hR hS a C heq hwq hC => ?_
    have hgd := gd_sound hR hg
    rw [hwq] at hgd
    rw [if_pos hgd]
    obtain ⟨vals, hrun, hral⟩ := callee_run (P := P) (fun x => ev_sound hR x) ho hc h.1
    unfold Oper.wp
    rw [← heq, hrun, Oper.upon_enter]
    obtain ⟨hw, hwf, hh, hwr⟩ := hs.2
    obtain ⟨hl2, hh⟩ := HandOK_at hh
    refine (call_core h hnd hs.1 hR.good (WkAs_sound hw hral) hwf hl2 (fun j x hj => hh j x _ hj (nm_lt (by have := (List.getElem?_eq_some_iff.1 hj).1; omega))) hwr).mono fun e w' hq => ?_
    obtain ⟨v, x, r', E', rfl, hO, hle, hra, hgood, hst, hkeep⟩ := hq
    have hrel := hR.putO hst hgood hd.1 hra
    rw [putR_eq] at hrel
    have hkk : isKeep kp i0 o = true → Keeps w w' := by
      intro hki
      rcases hkp with h | h
      · exact hkeep h
      · exfalso
        have hg0 : π.getD (π.length - (o :: rest).length) 0 = i0 := by
          have h1 : (π.drop (π.length - (o :: rest).length))[0]? = some i0 := by rw [hd0]; rfl
          rw [List.getElem?_drop, Nat.add_zero] at h1
          rw [List.getD_eq_getElem?_getD, h1]; rfl
        unfold kpFree at h
        simp only [hg0, Bool.not_eq_true'] at h
        unfold isKeep at hki
        rw [h, ho] at hki
        simp [keepOp] at hki
    exact hC x w' E' _ hrel (hS.trans hst) hkk (ED_sound hti pl hok rest _ _ hk1 hrest (hk v r' hO hle))
theorem HO_pure (hti : TiOK P ti) {o : Oper} {rest : List Oper} {M : KM} {f : FuncId} {as args : List AV} {v0 : AV} {c : Call} (h : AC P G f args [] (fun v r' => v = v0 ∧ r' = [])) (ho : o.op = .call c)
    (hg : gd ops σ o = some true) (hc : calleeOf (σ.ev G) c = some (f, as)) (hd : (o :: rest).all (dstOK N) = true) (ha : ∀ g, renL g args = args) (hv : ∀ g, ren g v0 = v0) (hwf : wfL 0 args = true) (hw : WkAs as args)
    (hk : EV P ti G N ops rest M (σ.putR o.dst v0 σ.r)) : HO P ti G N ops (o :: rest) M σ := by
  refine HO_call hti [] h ho hg hc hd (by simp) ⟨by simp, by rw [ha]; exact hw, hwf, by simp [HandOK], rfl⟩ (.inl rfl) ?_
  rintro v r' ⟨rfl, rfl⟩ _
  rw [hv, putAll_nil]
  exact hk
end
end Go.Proofs.Ythdjblfiiogmgaa
