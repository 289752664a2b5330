/- The frame of these proofs, part W: the rules for memory. -/
import Derived.Test.YteeknmjjpcbphaaDoorCV
set_option linter.unusedVariables false
set_option linter.unusedSimpArgs false
namespace Go.Proofs.YteeknmjjpcbphaaDoor
open Go
section
variable {ti : Ti} {r r' : Rs} {t u s d e : TypeId} {k k' j : IntKind} {a b n m i : Int} {A B : ByteArray} {sz sz' q p off o f : Nat} {xs ys : List D} {l : List AV} {x y : AV} {mo : Mo} {mo' : Option Mo}

/-! ### Types -/
theorem szOf_eq : szOf ti t = match tK ti t with | .sl e => if tI ti e = true then some (tS ti e) else none | _ => none := by
  unfold szOf tK tI tS
  cases ti t with
  | none => rfl
  | some i =>
    obtain ⟨u, _, _, _⟩ := i
    cases u <;> simp [tkOf]
    rename_i e
    cases ti e <;> rfl

/-! ### Indexing -/
def ixStr : TK → ByteArray → Int → Option AV
  | .str, s, n => chk (0 ≤ n ∧ n < s.size) (some (.d (.c (.int .u8 (sB s n.toNat)))))
  | _, _, _ => none
theorem ixStr_str : ixStr .str A n = chk (0 ≤ n ∧ n < A.size) (some (.d (.c (.int .u8 (sB A n.toNat))))) := rfl
theorem ix_str : evIndex ti t (.d (.c (.string A))) n = ixStr (tK ti t) A n := by
  unfold evIndex tK ixStr
  cases ti t with
  | none => rfl
  | some i => obtain ⟨u, _, _, _⟩ := i; cases u <;> rfl
def ixGd : Bool → Bool → Nat → Nat → Int → List D → Option AV
  | true, true, sz, n, i, xs => chk (0 ≤ i ∧ i < n) (chk (i.toNat * sz + sz ≤ xs.length) (some (.d (.agg ((xs.drop (i.toNat * sz)).take sz)))))
  | true, false, sz, n, i, xs => chk (0 ≤ i ∧ i < n) ((xs[i.toNat * sz]?).map .d)
  | false, _, _, _, _, _ => none
theorem ixGd_agg : ixGd true true sz q n xs = chk (0 ≤ n ∧ n < q) (chk (n.toNat * sz + sz ≤ xs.length) (some (.d (.agg ((xs.drop (n.toNat * sz)).take sz))))) := rfl
theorem ixGd_one : ixGd true false sz q n xs = chk (0 ≤ n ∧ n < q) ((xs[n.toNat * sz]?).map .d) := rfl
def ixG (ti : Ti) : TK → Int → List D → Option AV
  | .arr n e, i, xs => ixGd (tI ti e) (tG ti e) (tS ti e) n i xs
  | _, _, _ => none
theorem ixG_arr : ixG ti (.arr q e) n xs = ixGd (tI ti e) (tG ti e) (tS ti e) q n xs := rfl
theorem ix_dagg : evIndex ti t (.d (.agg xs)) n = ixG ti (tK ti t) n xs := by
  unfold evIndex tK ixG
  cases ti t with
  | none => rfl
  | some i =>
    obtain ⟨u, _, _, _⟩ := i
    cases u <;> try rfl
    rename_i e
    simp only [tkOf]
    unfold ixGd tI tG tS
    cases ti e with
    | none => rfl
    | some ie => simp only [Option.isSome_some]; cases isAggD ie.u <;> simp
def ixAd : Bool → Bool → Nat → Nat → Int → List AV → Option AV
  | true, true, sz, n, i, l => chk (0 ≤ i ∧ i < n) (chk (i.toNat * sz + sz ≤ l.length) (some (mkAgg ((l.drop (i.toNat * sz)).take sz))))
  | true, false, sz, n, i, l => chk (0 ≤ i ∧ i < n) (l[i.toNat * sz]?)
  | false, _, _, _, _, _ => none
theorem ixAd_agg : ixAd true true sz q n l = chk (0 ≤ n ∧ n < q) (chk (n.toNat * sz + sz ≤ l.length) (some (mkAgg ((l.drop (n.toNat * sz)).take sz)))) := rfl
theorem ixAd_one : ixAd true false sz q n l = chk (0 ≤ n ∧ n < q) (l[n.toNat * sz]?) := rfl
def ixA (ti : Ti) : TK → Int → List AV → Option AV
  | .arr n e, i, l => ixAd (tI ti e) (tG ti e) (tS ti e) n i l
  | _, _, _ => none
theorem ixA_arr : ixA ti (.arr q e) n l = ixAd (tI ti e) (tG ti e) (tS ti e) q n l := rfl
theorem ix_agg : evIndex ti t (.agg l) n = ixA ti (tK ti t) n l := by
  unfold evIndex tK ixA
  cases ti t with
  | none => rfl
  | some i =>
    obtain ⟨u, _, _, _⟩ := i
    cases u <;> try rfl
    rename_i e
    simp only [tkOf]
    unfold ixAd tI tG tS
    cases ti e with
    | none => rfl
    | some ie => simp only [Option.isSome_some]; cases isAggD ie.u <;> simp
def ixD : Option Nat → Nat → Nat → List D → Int → Option AV
  | some sz', sz, n, xs, i => if sz' = sz then chk (0 ≤ i ∧ i < n ∧ 0 < sz) (some (.el (xs.drop (i.toNat * sz)))) else none
  | none, _, _, _, _ => none
theorem ixD_some : ixD (some sz') sz q xs i = if sz' = sz then chk (0 ≤ i ∧ i < q ∧ 0 < sz) (some (.el (xs.drop (i.toNat * sz)))) else none := rfl
theorem ixa_dsl : evIndexAddr ti r t (.d (.sl sz q xs)) i = ixD (szOf ti t) sz q xs i := by
  unfold evIndexAddr ixD slOf
  cases szOf ti t with
  | none => rfl
  | some sz' =>
    simp only
    by_cases h : sz = sz'
    · subst h; simp
    · simp [h, Ne.symm h]
theorem ixa_sl : evIndexAddr ti r t (.sl mo sz q xs) i = ixD (szOf ti t) sz q xs i := by
  unfold evIndexAddr ixD slOf
  cases szOf ti t with
  | none => rfl
  | some sz' =>
    simp only
    by_cases h : sz = sz'
    · subst h; simp
    · simp [h, Ne.symm h]
def ixP (ti : Ti) : TK → Option (List AV) → Nat → Nat → Int → Option AV
  | .arr n e, some _, o, off, i => if tI ti e = true then chk (0 ≤ i ∧ i < n) (some (.ptr o (off + i.toNat * tS ti e))) else none
  | _, _, _, _, _ => none
theorem ixP_arr : ixP ti (.arr q e) (some l) o off i = if tI ti e = true then chk (0 ≤ i ∧ i < q) (some (.ptr o (off + i.toNat * tS ti e))) else none := rfl
theorem ixa_ptr : evIndexAddr ti r t (.ptr o off) i = ixP ti (tK ti t) (objOf r o) o off i := by
  unfold evIndexAddr tK ixP tI tS
  dsimp only
  cases ti t with
  | none => rfl
  | some i' =>
    obtain ⟨u, _, _, _⟩ := i'
    cases u <;> cases objOf r o <;> simp [tkOf]
    rename_i e _
    cases ti e <;> rfl
def ixE (ti : Ti) : TK → List D → Int → Option AV
  | .arr n e, xs, i => if tI ti e = true then chk (0 ≤ i ∧ i < n) (some (.el (xs.drop (i.toNat * tS ti e)))) else none
  | _, _, _ => none
theorem ixE_arr : ixE ti (.arr q e) xs i = if tI ti e = true then chk (0 ≤ i ∧ i < q) (some (.el (xs.drop (i.toNat * tS ti e)))) else none := rfl
theorem ixa_el : evIndexAddr ti r t (.el xs) i = ixE ti (tK ti t) xs i := by
  unfold evIndexAddr tK ixE tI tS
  cases ti t with
  | none => rfl
  | some i' =>
    obtain ⟨u, _, _, _⟩ := i'
    cases u <;> simp [tkOf]
    rename_i e
    cases ti e <;> rfl
def ixO : Option Nat → Option (List AV) → Nat → Nat → Nat → Nat → Int → Option AV
  | some sz', some _, o, off, sz, n, i => if sz' = sz then chk (0 ≤ i ∧ i < n) (some (.ptr o (off + i.toNat * sz))) else none
  | _, _, _, _, _, _, _ => none
theorem ixO_some : ixO (some sz') (some l) o off sz q i = if sz' = sz then chk (0 ≤ i ∧ i < q) (some (.ptr o (off + i.toNat * sz))) else none := rfl
theorem ixa_osl : evIndexAddr ti r t (.osl o off sz q) i = ixO (szOf ti t) (objOf r o) o off sz q i := by
  unfold evIndexAddr ixO
  dsimp only
  cases objOf r o with
  | none => cases szOf ti t <;> rfl
  | some l =>
    cases szOf ti t with
    | none => simp [chk]
    | some sz' =>
      by_cases h : sz' = sz
      · subst h; simp [chk]
      · simp [chk, h]

/-! ### Fields -/
def fdP (ti : Ti) : Option (Nat × TypeId) → Option (List AV) → Nat → Nat → Option AV
  | some (fo, ft), some _, o, off => if tI ti ft = true then chk (tS ti ft ≠ 0) (some (.ptr o (off + fo))) else none
  | _, _, _, _ => none
theorem fdP_some {fo : Nat} {ft : TypeId} : fdP ti (some (fo, ft)) (some l) o off = if tI ti ft = true then chk (tS ti ft ≠ 0) (some (.ptr o (off + fo))) else none := rfl
theorem fda_ptr : evFieldAddr ti r t (.ptr o off) f = fdP ti (fieldOf ti t f) (objOf r o) o off := by
  unfold evFieldAddr fdP tI tS
  dsimp only
  cases fieldOf ti t f with
  | none => rfl
  | some p =>
    obtain ⟨fo, ft⟩ := p
    simp only
    generalize objOf r o = w
    cases w with
    | none => cases ti ft <;> rfl
    | some i => dsimp only; cases ti ft <;> rfl
def fdE (ti : Ti) : Option (Nat × TypeId) → List D → Option AV
  | some (fo, ft), xs => if tI ti ft = true then chk (tS ti ft ≠ 0) (some (.el (xs.drop fo))) else none
  | _, _ => none
theorem fdE_some {fo : Nat} {ft : TypeId} : fdE ti (some (fo, ft)) xs = if tI ti ft = true then chk (tS ti ft ≠ 0) (some (.el (xs.drop fo))) else none := rfl
theorem fda_el : evFieldAddr ti r t (.el xs) f = fdE ti (fieldOf ti t f) xs := by
  unfold evFieldAddr fdE tI tS
  cases fieldOf ti t f with
  | none => rfl
  | some p =>
    obtain ⟨fo, ft⟩ := p
    simp only
    cases ti ft <;> rfl
def fdA (ti : Ti) : Option (Nat × TypeId) → List D → Option AV
  | some (fo, ft), xs => if tI ti ft = true then (if tG ti ft = true then chk (fo + tS ti ft ≤ xs.length) (some (.d (.agg ((xs.drop fo).take (tS ti ft))))) else (xs[fo]?).map .d) else none
  | _, _ => none
theorem fdA_some {fo : Nat} {ft : TypeId} : fdA ti (some (fo, ft)) xs = if tI ti ft = true then (if tG ti ft = true then chk (fo + tS ti ft ≤ xs.length) (some (.d (.agg ((xs.drop fo).take (tS ti ft))))) else (xs[fo]?).map .d) else none := rfl
theorem fd_dagg : evField ti t (.d (.agg xs)) f = fdA ti (fieldOf ti t f) xs := by
  unfold evField fdA tI tS tG
  cases fieldOf ti t f with
  | none => rfl
  | some p =>
    obtain ⟨fo, ft⟩ := p
    simp only
    cases ti ft with
    | none => rfl
    | some i =>
      simp only [Option.isSome_some, if_true]
      cases isAggD i.u
      · simp
      · simp only [if_true]
        unfold chk; split <;> rfl
def fdG (ti : Ti) : Option (Nat × TypeId) → List AV → Option AV
  | some (fo, ft), l => if tI ti ft = true then (if tG ti ft = true then chk (fo + tS ti ft ≤ l.length) (some (mkAgg ((l.drop fo).take (tS ti ft)))) else l[fo]?) else none
  | _, _ => none
theorem fdG_some {fo : Nat} {ft : TypeId} : fdG ti (some (fo, ft)) l = if tI ti ft = true then (if tG ti ft = true then chk (fo + tS ti ft ≤ l.length) (some (mkAgg ((l.drop fo).take (tS ti ft)))) else l[fo]?) else none := rfl
theorem fd_agg : evField ti t (.agg l) f = fdG ti (fieldOf ti t f) l := by
  unfold evField fdG tI tS tG
  cases fieldOf ti t f with
  | none => rfl
  | some p =>
    obtain ⟨fo, ft⟩ := p
    simp only
    cases ti ft <;> rfl

/-! ### Loads -/
def ldE : Bool → Bool → Nat → List D → Option AV
  | true, true, s, xs => chk (s ≤ xs.length) (some (.d (.agg (xs.take s))))
  | true, false, _, xs => (xs[0]?).map .d
  | false, _, _, _ => none
theorem ldE_agg : ldE true true q xs = chk (q ≤ xs.length) (some (.d (.agg (xs.take q)))) := rfl
theorem ldE_one : ldE true false q xs = (xs[0]?).map .d := rfl
theorem ld_el : evLoad ti r t (.el xs) = ldE (tI ti t) (tG ti t) (tS ti t) xs := by
  unfold evLoad ldE tI tG tS
  cases ti t with
  | none => rfl
  | some i => simp only [Option.isSome_some]; cases isAggD i.u <;> rfl
def ldP : Bool → Bool → Nat → Option (List AV) → Nat → Option AV
  | true, true, s, some l, off => chk (off + s ≤ l.length) (some (mkAgg ((l.drop off).take s)))
  | true, false, _, some l, off => l[off]?
  | _, _, _, _, _ => none
theorem ldP_agg : ldP true true q (some l) off = chk (off + q ≤ l.length) (some (mkAgg ((l.drop off).take q))) := rfl
theorem ldP_one : ldP true false q (some l) off = l[off]? := rfl
theorem ld_ptr : evLoad ti r t (.ptr o off) = ldP (tI ti t) (tG ti t) (tS ti t) (objOf r o) off := by
  unfold evLoad ldP tI tG tS
  cases ti t with
  | none => cases objOf r o <;> rfl
  | some i => simp only [Option.isSome_some]; cases objOf r o <;> cases isAggD i.u <;> rfl

/-! ### Data out of what stands in slots -/
def cons2 : Option D → Option (List D) → Option (List D)
  | some d, some ds => some (d :: ds)
  | _, _ => none
theorem cons2_some {d : D} {ds : List D} : cons2 (some d) (some ds) = some (d :: ds) := rfl
theorem cons2_none {ds : Option (List D)} : cons2 none ds = none := rfl
theorem cons2_none2 {d : Option D} : cons2 d none = none := by cases d <;> rfl
theorem allD_nil : allD [] = some [] := rfl
theorem allD_cons : allD (x :: l) = cons2 (toD x) (allD l) := by
  rw [allD]; unfold cons2; cases toD x <;> cases allD l <;> rfl
theorem toD_d {z : D} : toD (.d z) = some z := rfl
theorem toD_sl : toD (.sl mo sz q xs) = some (.sl sz q xs) := rfl
theorem toD_agg : toD (.agg l) = (allD l).map .agg := rfl
theorem toD_ptr : toD (.ptr o off) = none := rfl
theorem toD_osl : toD (.osl o off sz q) = none := rfl
theorem toD_mp : toD (.mp o) = none := rfl
theorem toD_fn {g : Fn} {v w : List AV} : toD (.fn g v w) = none := rfl
def mk2 : Option (List D) → List AV → AV
  | some ds, _ => .d (.agg ds)
  | none, l => .agg l
theorem mk2_some : mk2 (some xs) l = .d (.agg xs) := rfl
theorem mk2_none : mk2 none l = .agg l := rfl
theorem mkAgg_eq : mkAgg l = mk2 (allD l) l := by unfold mkAgg mk2; cases allD l <;> rfl
theorem ca_dagg : cellsAV (.d (.agg xs)) = some (xs.map .d) := rfl
theorem ca_agg : cellsAV (.agg l) = some l := rfl
theorem ca_c {v : Value} : cellsAV (.d (.c v)) = some [.d (.c v)] := rfl
theorem ca_dsl : cellsAV (.d (.sl sz q xs)) = some [.d (.sl sz q xs)] := rfl
theorem ca_sl : cellsAV (.sl mo sz q xs) = some [.sl mo sz q xs] := rfl
theorem ca_ptr : cellsAV (.ptr o off) = some [.ptr o off] := rfl
theorem ca_mp : cellsAV (.mp o) = some [.mp o] := rfl
theorem ca_fn {g : Fn} {v w : List AV} : cellsAV (.fn g v w) = some [.fn g v w] := rfl
theorem ca_osl : cellsAV (.osl o off sz q) = some [.osl o off sz q] := rfl
theorem ca_el : cellsAV (.el xs) = some [.el xs] := rfl
theorem lv_d {z : D} : liveAV r (.d z) = true := rfl
theorem lv_sl : liveAV r (.sl mo sz q xs) = true := rfl
theorem lv_agg : liveAV r (.agg l) = true := rfl
theorem lv_fn {g : Fn} {v w : List AV} : liveAV r (.fn g v w) = true := rfl
theorem lv_el : liveAV r (.el xs) = true := rfl
theorem lv_osl : liveAV r (.osl o off sz q) = true := rfl
theorem lv_ptr : liveAV r (.ptr o off) = (objOf r o).isSome := by
  unfold liveAV objOf
  dsimp only
  cases h : r[o]? with
  | none => rfl
  | some x => cases x with
    | none => rfl
    | some x => cases x <;> rfl

/-! ### Structs and arrays of the call's own -/
def bx : Option (List AV) → Bool → Rs → Option (AV × Rs)
  | some cs, true, r => some (.ptr r.length 0, r ++ [some (.obj cs)])
  | _, _, _ => none
theorem bx_some : bx (some l) true r = some (.ptr r.length 0, r ++ [some (.obj l)]) := rfl
theorem box_eq : evBox r x = bx (cellsAV x) (liveAV r x) r := by
  unfold evBox bx
  cases cellsAV x with
  | none => rfl
  | some cs => cases liveAV r x <;> rfl
theorem alc_some : evAlc r (some l) = some (.ptr r.length 0, r ++ [some (.obj l)]) := rfl
def sto : Bool → Nat → Option (List AV) → Option (List AV) → Bool → Rs → Nat → Nat → Option (AV × Rs)
  | true, s, some cs, some l, true, r, o, off => chk (cs.length = s ∧ off + cs.length ≤ l.length) (some (.top, r.set o (some (.obj (splice l off cs)))))
  | _, _, _, _, _, _, _, _ => none
theorem sto_some {cs : List AV} : sto true q (some cs) (some l) true r o off = chk (cs.length = q ∧ off + cs.length ≤ l.length) (some (.top, r.set o (some (.obj (splice l off cs))))) := rfl
theorem st_ptr : evStore ti r t (.ptr o off) x = sto (tI ti t) (tS ti t) (cellsAV x) (objOf r o) (liveAV r x) r o off := by
  unfold evStore sto tI tS
  cases ti t with
  | none => rfl
  | some i =>
    simp only [Option.isSome_some]
    cases cellsAV x with
    | none => rfl
    | some cs =>
      simp only
      cases objOf r o with
      | none => rfl
      | some l => cases liveAV r x <;> rfl
theorem splice_one : splice l off [x] = l.set off x := rfl
theorem splice_two {cs : List AV} : splice l off (x :: y :: cs) = l.take off ++ (x :: y :: cs) ++ l.drop (off + (x :: y :: cs).length) := rfl

/-! ### Slices and structs made of parts -/
def bs0 : Option Nat → Rs → Option (AV × Rs)
  | some sz, r => some (.sl .full sz 0 [], r)
  | none, _ => none
theorem bs0_some : bs0 (some sz) r = some (.sl .full sz 0 [], r) := rfl
theorem bs_zero : evBS ti r t 0 [] = bs0 (szOf ti t) r := by
  unfold evBS szOf bs0
  cases ti t with
  | none => rfl
  | some i =>
    obtain ⟨u, _, _, _⟩ := i
    cases u <;> try rfl
    rename_i e
    simp only
    cases ti e with
    | none => rfl
    | some ie => simp
def fl (place : Nat → Option (Nat × Nat)) : Option (Nat × Nat) → Option (List AV) → List AV → List (Nat × AV) → Option (List AV)
  | some (off, size), some cs, cells, rest => if cs.length = size ∧ off + size ≤ cells.length then fillA place (splice cells off cs) rest else none
  | _, _, _, _ => none
theorem fl_some {place : Nat → Option (Nat × Nat)} {cs cells : List AV} {rest : List (Nat × AV)} : fl place (some (off, sz)) (some cs) cells rest = if cs.length = sz ∧ off + sz ≤ cells.length then fillA place (splice cells off cs) rest else none := rfl
theorem fill_nil {place : Nat → Option (Nat × Nat)} : fillA place l [] = some l := rfl
theorem fill_cons {place : Nat → Option (Nat × Nat)} {rest : List (Nat × AV)} : fillA place l ((q, x) :: rest) = fl place (place q) (cellsAV x) l rest := by
  rw [fillA]
  unfold fl
  cases place q with
  | none => rfl
  | some p =>
    obtain ⟨off, size⟩ := p
    cases cellsAV x with
    | none => rfl
    | some cs =>
      simp only
      split
      · rename_i h
        rw [splice_eq (by omega), h.1]
      · rfl
def bs4 : Option (List D) → List AV → Nat → Nat → Rs → Option (AV × Rs)
  | some ds, _, s, n, r => some (.sl .full s n ds, r)
  | none, out, s, n, r => some (.osl r.length 0 s n, r ++ [some (.obj out)])
theorem bs4_some : bs4 (some xs) l sz q r = some (.sl .full sz q xs, r) := rfl
theorem bs4_none : bs4 none l sz q r = some (.osl r.length 0 sz q, r ++ [some (.obj l)]) := rfl
theorem litO_f {o : Option (List D)} : litO false o = o := rfl
theorem litO_t {o : Option (List D)} : litO true o = none := rfl
def bs3 (li : Bool) : Option (List AV) → Nat → Nat → Rs → Option (AV × Rs)
  | some out, s, n, r => bs4 (litO li (allD out)) out s n r
  | none, _, _, _ => none
theorem bs3_some {li : Bool} : bs3 li (some l) sz q r = bs4 (litO li (allD l)) l sz q r := rfl
def bs2 (li : Bool) : Option (List AV) → Nat → Bool → Nat → List (Nat × AV) → Rs → Option (AV × Rs)
  | some zl, s, true, n, parts, r => if 0 < s ∧ n * s ≤ 16777216 then bs3 li (fillA (fun i => some (i * s, s)) (repA zl n) parts) s n r else none
  | _, _, _, _, _, _ => none
theorem bs2_some {li : Bool} {zl : List AV} {parts : List (Nat × AV)} : bs2 li (some zl) sz true q parts r = if 0 < sz ∧ q * sz ≤ 16777216 then bs3 li (fillA (fun i => some (i * sz, sz)) (repA zl q) parts) sz q r else none := rfl
def bs1 (ti : Ti) : TK → Bool → Nat → List (Nat × AV) → Rs → Option (AV × Rs)
  | .sl e, q, n, parts, r => if tI ti e = true then bs2 ti.lit (tZ ti e) (tS ti e) q n parts r else none
  | _, _, _, _, _ => none
theorem bs1_sl {parts : List (Nat × AV)} {z : Bool} : bs1 ti (.sl e) z q parts r = if tI ti e = true then bs2 ti.lit (tZ ti e) (tS ti e) z q parts r else none := rfl
theorem bs_succ {parts : List (Nat × AV)} : evBS ti r t (q + 1) parts = bs1 ti (tK ti t) (parts.all fun p => liveAV r p.2) (q + 1) parts r := by
  unfold evBS bs1 tK
  cases ti t with
  | none => rfl
  | some i =>
    obtain ⟨u, _, _, _⟩ := i
    cases u <;> try rfl
    rename_i e
    simp only [tkOf]
    unfold tI tZ tS bs2
    cases ti e with
    | none => rfl
    | some ie =>
      simp only [Option.isSome_some, if_true]
      cases zeroA ie.zero with
      | none => rfl
      | some zl =>
        simp only
        cases parts.all fun p => liveAV r p.2 with
        | false => simp
        | true =>
          simp only [true_and]
          split
          · unfold bs3
            cases fillA (fun i => some (i * ie.size, ie.size)) (repA zl (q + 1)) parts with
            | none => rfl
            | some out => simp only; unfold bs4; cases litO ti.lit (allD out) <;> rfl
          · rfl
theorem rep_zero {zl : List AV} : repA zl 0 = [] := rfl
theorem rep_succ {zl : List AV} : repA zl (q + 1) = zl ++ repA zl q := rfl
def bd2 : Option (List (Nat × Nat)) → Option (List AV) → Bool → List (Nat × AV) → Option AV
  | some pl, some zl, true, parts => (fillA (fun i => pl[i]?) zl parts).map mkAgg
  | _, _, _, _ => none
theorem bd2_some {pl : List (Nat × Nat)} {zl : List AV} {parts : List (Nat × AV)} : bd2 (some pl) (some zl) true parts = (fillA (fun i => pl[i]?) zl parts).map mkAgg := rfl
def bd3 (ti : Ti) : Option (List AV) → Bool → TypeId → List (Nat × AV) → Option AV
  | some zl, true, e, parts => if tI ti e = true then (fillA (fun i => some (i * tS ti e, tS ti e)) zl parts).map mkAgg else none
  | _, _, _, _ => none
theorem bd3_some {zl : List AV} {parts : List (Nat × AV)} : bd3 ti (some zl) true e parts = if tI ti e = true then (fillA (fun i => some (i * tS ti e, tS ti e)) zl parts).map mkAgg else none := rfl
def bd1 (ti : Ti) (t : TypeId) : TK → Bool → List (Nat × AV) → Option AV
  | .st, q, parts => bd2 (tP ti t) (tZ ti t) q parts
  | .arr _ e, q, parts => bd3 ti (tZ ti t) q e parts
  | _, _, _ => none
theorem bd1_st {z : Bool} {parts : List (Nat × AV)} : bd1 ti t .st z parts = bd2 (tP ti t) (tZ ti t) z parts := rfl
theorem bd1_arr {z : Bool} {parts : List (Nat × AV)} : bd1 ti t (.arr q e) z parts = bd3 ti (tZ ti t) z e parts := rfl
theorem bd_eq {parts : List (Nat × AV)} : evBuild ti r t parts = bd1 ti t (tK ti t) (parts.all fun p => liveAV r p.2) parts := by
  unfold evBuild bd1 tK
  cases hall : parts.all fun p => liveAV r p.2 with
  | false =>
    simp only [Bool.false_eq_true, if_false]
    cases ti t with
    | none => rfl
    | some i => obtain ⟨u, _, _, _⟩ := i; cases u <;> simp [tkOf, bd2, bd3]
  | true =>
    simp only [if_true]
    unfold bd2 bd3 tP tZ tI tS
    cases ti t with
    | none => rfl
    | some i =>
      obtain ⟨u, _, _, z⟩ := i
      cases u <;> try rfl
      · rename_i n e
        simp only [tkOf]
        generalize zeroA z = w
        cases w with
        | none => cases ti e <;> rfl
        | some ie => dsimp only; cases ti e <;> rfl
      · rename_i fs
        simp only [tkOf]
        cases placesA ti fs.toList <;> cases zeroA z <;> rfl

/-! ### Appending -/
theorem slOf_dsl : slOf sz (.d (.sl sz' q xs)) = if sz' = sz then some (none, q, xs) else none := rfl
theorem slOf_nil : slOf sz (.d (.c (.slice none 0 0))) = some (some .full, 0, []) := rfl
theorem slOf_sl : slOf sz (.sl mo sz' q xs) = if sz' = sz then some (some mo, q, xs) else none := rfl
theorem srcOf_str : srcOf sz (.d (.c (.string A))) = if sz = 1 then some (A.size, bD A.toList) else none := rfl
theorem srcOf_dsl : srcOf sz (.d (.sl sz' q xs)) = if sz' = sz then some (q, xs) else none := by
  unfold srcOf; simp only [slOf_dsl]; by_cases h : sz' = sz <;> simp [h]
theorem srcOf_sl : srcOf sz (.sl mo sz' q xs) = if sz' = sz then some (q, xs) else none := by
  unfold srcOf; simp only [slOf_sl]; by_cases h : sz' = sz <;> simp [h]
theorem srcOf_nil : srcOf sz (.d (.c (.slice none 0 0))) = some (0, []) := rfl
def arX : Option (Option Res) → Rs → Nat → Nat → Nat → Option (Nat × Rs)
  | some (some (.tok k)), r, lx, ly, i => chk (k = lx) (some (i, r.set i (some (.tok (lx + ly)))))
  | _, _, _, _, _ => none
theorem arX_tok {k lx ly : Nat} : arX (some (some (.tok k))) r lx ly o = chk (k = lx) (some (o, r.set o (some (.tok (lx + ly))))) := rfl
theorem app_full {lx ly : Nat} : appRes r lx ly .full = some (r.length, r ++ [some (.tok (lx + ly))]) := rfl
theorem app_own {lx ly : Nat} : appRes r lx ly (.own o) = arX (r[o]?) r lx ly o := by
  unfold appRes arX chk
  dsimp only
  cases r[o]? with
  | none => rfl
  | some x => cases x with
    | none => rfl
    | some x => cases x <;> rfl
def isSrc : TK → Bool
  | .sl _ => true
  | .str => true
  | _ => false
theorem isSrc_sl : isSrc (.sl e) = true := rfl
theorem isSrc_str : isSrc .str = true := rfl
def ap2 : Option (Nat × Rs) → Nat → Nat → Nat → Nat → List D → List D → Option (AV × Rs)
  | some (i, r'), sz, by_, n, m, xs, ys => chk (0 < sz ∧ n + m ≤ 9223372036854775807 ∧ (n + m) * by_ ≤ 140737488355328) (some (.sl (.own i) sz (n + m) (xs ++ ys), r'))
  | none, _, _, _, _, _, _ => none
theorem ap2_some {by_ n m : Nat} : ap2 (some (o, r')) sz by_ n m xs ys = chk (0 < sz ∧ n + m ≤ 9223372036854775807 ∧ (n + m) * by_ ≤ 140737488355328) (some (.sl (.own o) sz (n + m) (xs ++ ys), r')) := rfl
def ap1 (r : Rs) : Option (Option Mo × Nat × List D) → Option (Nat × List D) → Bool → Nat → Nat → Option (AV × Rs)
  | some (some mo, n, xs), some (m, ys), true, sz, by_ => ap2 (appRes r xs.length ys.length mo) sz by_ n m xs ys
  | _, _, _, _, _ => none
theorem ap1_some {by_ n m : Nat} : ap1 r (some (some mo, n, xs)) (some (m, ys)) true sz by_ = ap2 (appRes r xs.length ys.length mo) sz by_ n m xs ys := rfl
def ap0 (ti : Ti) (r : Rs) : TK → TK → AV → AV → Option (AV × Rs)
  | .sl e, u, s, x => if tI ti e = true then ap1 r (slOf (tS ti e) s) (srcOf (tS ti e) x) (isSrc u) (tS ti e) (tB ti e) else none
  | _, _, _, _ => none
theorem ap0_sl {k : TK} : ap0 ti r (.sl e) k x y = if tI ti e = true then ap1 r (slOf (tS ti e) x) (srcOf (tS ti e) y) (isSrc k) (tS ti e) (tB ti e) else none := rfl
theorem ap_eq : evApp ti r t u x y = ap0 ti r (tK ti t) (tK ti u) x y := by
  unfold evApp ap0 tK
  cases ti t with
  | none => cases ti u <;> rfl
  | some i =>
    obtain ⟨ut, _, _, _⟩ := i
    cases ti u with
    | none =>
      cases ut <;> try rfl
      rename_i e
      simp only [tkOf, isSrc]
      unfold tI tS tB ap1
      cases ti e with
      | none => rfl
      | some ie => simp
    | some iu =>
      obtain ⟨uu, _, _, _⟩ := iu
      cases ut <;> try rfl
      rename_i e
      simp only [tkOf]
      unfold tI tS tB ap1
      cases ti e with
      | none => rfl
      | some ie =>
        simp only [Option.isSome_some, if_true]
        cases hs : slOf ie.size x with
        | none => simp
        | some q =>
          obtain ⟨q1, q2, q3⟩ := q
          cases q1 with
          | none => simp
          | some mo =>
            cases hx : srcOf ie.size y with
            | none => simp
            | some p =>
              obtain ⟨p1, p2⟩ := p
              dsimp only
              cases uu <;> dsimp only [isSrc, ap2] <;> (try (cases appRes r q3.length p2.length mo <;> rfl))
def mk1 (ti : Ti) (r : Rs) : TK → Int → Int → Option (AV × Rs)
  | .sl e, n, k => if tI ti e = true then chk (n = 0 ∧ 0 ≤ k ∧ (tB ti e : Int) * k ≤ 281474976710656 ∧ k ≤ 9223372036854775807) (some (.sl (.own r.length) (tS ti e) 0 [], r ++ [some (.tok 0)])) else none
  | _, _, _ => none
theorem mk1_sl : mk1 ti r (.sl e) n m = if tI ti e = true then chk (n = 0 ∧ 0 ≤ m ∧ (tB ti e : Int) * m ≤ 281474976710656 ∧ m ≤ 9223372036854775807) (some (.sl (.own r.length) (tS ti e) 0 [], r ++ [some (.tok 0)])) else none := rfl
theorem mk_eq : evMk ti r t (.d (.c (.int k n))) (.d (.c (.int j m))) = mk1 ti r (tK ti t) n m := by
  unfold evMk mk1 tK
  cases ti t with
  | none => rfl
  | some i =>
    obtain ⟨ut, _, _, _⟩ := i
    cases ut <;> try rfl
    rename_i e
    simp only [tkOf, intOfA]
    unfold tI tS tB
    cases ti e <;> rfl

/-! ### Lengths -/
def lnS : TK → Int → Option Int
  | .str, n => some n
  | _, _ => none
theorem lnS_str : lnS .str n = some n := rfl
def lnL : TK → Int → Option Int
  | .sl _, n => some n
  | _, _ => none
theorem lnL_sl : lnL (.sl e) n = some n := rfl
theorem len_str : lenAV ti r t (.d (.c (.string A))) = lnS (tK ti t) A.size := by
  unfold lenAV lnS tK
  cases ti t with
  | none => rfl
  | some i => obtain ⟨u, _, _, _⟩ := i; cases u <;> rfl
theorem len_dsl : lenAV ti r t (.d (.sl sz q xs)) = lnL (tK ti t) q := by
  unfold lenAV lnL tK
  cases ti t with
  | none => rfl
  | some i => obtain ⟨u, _, _, _⟩ := i; cases u <;> rfl
theorem len_sl : lenAV ti r t (.sl mo sz q xs) = lnL (tK ti t) q := by
  unfold lenAV lnL tK
  cases ti t with
  | none => rfl
  | some i => obtain ⟨u, _, _, _⟩ := i; cases u <;> rfl
theorem len_osl : lenAV ti r t (.osl o off sz q) = lnL (tK ti t) q := by
  unfold lenAV lnL tK
  cases ti t with
  | none => rfl
  | some i => obtain ⟨u, _, _, _⟩ := i; cases u <;> rfl
theorem len_nil : lenAV ti r t (.d (.c (.slice none 0 0))) = lnL (tK ti t) 0 := by
  unfold lenAV lnL tK
  cases ti t with
  | none => rfl
  | some i => obtain ⟨u, _, _, _⟩ := i; cases u <;> rfl
theorem lenV_some : lenV (some n) = some (.d (.c (.int .i64 n))) := rfl
theorem min_int : minAV false (.d (.c (.int k a))) (.d (.c (.int k b))) = some (.d (.c (.int k (if b < a then b else a)))) := by simp [minAV]
theorem max_int : minAV true (.d (.c (.int k a))) (.d (.c (.int k b))) = some (.d (.c (.int k (if b > a then b else a)))) := by simp [minAV]

/-! ### Slicing -/
theorem optI_none : optI none = some none := rfl
theorem optI_int : optI (some (.d (.c (.int k n)))) = some (some n) := rfl
theorem sl3_some {lo hi mx : Option Int} : sl3 ti r t x (some lo) (some hi) (some mx) = evSlice ti r t x lo hi mx := rfl
def ssS : TK → ByteArray → Int → Int → Option AV
  | .str, s, l, h => chk (0 ≤ l ∧ l ≤ h ∧ h ≤ s.size) (some (.d (.c (.string (s.extract l.toNat h.toNat)))))
  | _, _, _, _ => none
theorem ssS_str : ssS .str A n m = chk (0 ≤ n ∧ n ≤ m ∧ m ≤ A.size) (some (.d (.c (.string (A.extract n.toNat m.toNat))))) := rfl
theorem ss_str {lo hi : Option Int} : evSlice ti r t (.d (.c (.string A))) lo hi none = ssS (tK ti t) A (lo.getD 0) (hi.getD A.size) := by
  unfold evSlice ssS tK
  cases ti t with
  | none => rfl
  | some i => obtain ⟨u, _, _, _⟩ := i; cases u <;> rfl
def ssD : Option Nat → Nat → Option Mo → Nat → List D → Option Int → Option Int → Option Int → Option AV
  | some sz', sz, m, n, xs, lo, hi, mx => if sz' = sz then cutSl sz m n xs lo hi mx else none
  | none, _, _, _, _, _, _, _ => none
theorem ssD_some {lo hi mx : Option Int} : ssD (some sz') sz mo' q xs lo hi mx = if sz' = sz then cutSl sz mo' q xs lo hi mx else none := rfl
theorem ss_dsl {lo hi mx : Option Int} : evSlice ti r t (.d (.sl sz q xs)) lo hi mx = ssD (szOf ti t) sz none q xs lo hi mx := by
  unfold evSlice ssD
  cases szOf ti t with
  | none => rfl
  | some sz' =>
    simp only [slOf_dsl]
    by_cases h : sz = sz'
    · subst h; simp
    · simp [h, Ne.symm h]
theorem ss_sl {lo hi mx : Option Int} : evSlice ti r t (.sl mo sz q xs) lo hi mx = ssD (szOf ti t) sz (some mo) q xs lo hi mx := by
  unfold evSlice ssD
  cases szOf ti t with
  | none => rfl
  | some sz' =>
    simp only [slOf_sl]
    by_cases h : sz = sz'
    · subst h; simp
    · simp [h, Ne.symm h]
theorem ss_nil {lo hi mx : Option Int} : evSlice ti r t (.d (.c (.slice none 0 0))) lo hi mx = (match szOf ti t with | some sz => cutSl sz (some .full) 0 [] lo hi mx | none => none) := by
  unfold evSlice
  cases szOf ti t with
  | none => rfl
  | some sz' => simp only [slOf_nil]
theorem cut_3 {lo : Option Int} {h k : Int} : cutSl sz mo' q xs lo (some h) (some k) = chk (0 ≤ lo.getD 0 ∧ lo.getD 0 ≤ h ∧ h ≤ q ∧ k = h) (some (.sl .full sz (h.toNat - (lo.getD 0).toNat) ((xs.drop ((lo.getD 0).toNat * sz)).take ((h.toNat - (lo.getD 0).toNat) * sz)))) := rfl
theorem cut_full {lo : Option Int} : cutSl sz (some .full) q xs lo none none = chk (0 ≤ lo.getD 0 ∧ lo.getD 0 ≤ q) (some (.sl .full sz (q - (lo.getD 0).toNat) (xs.drop ((lo.getD 0).toNat * sz)))) := rfl
theorem cut_own {lo : Option Int} : cutSl sz (some (.own o)) q xs lo none none = chk (0 ≤ lo.getD 0 ∧ lo.getD 0 ≤ q) (some (.d (.sl sz (q - (lo.getD 0).toNat) (xs.drop ((lo.getD 0).toNat * sz))))) := rfl
theorem cut_none {lo : Option Int} : cutSl sz none q xs lo none none = chk (0 ≤ lo.getD 0 ∧ lo.getD 0 ≤ q) (some (.d (.sl sz (q - (lo.getD 0).toNat) (xs.drop ((lo.getD 0).toNat * sz))))) := rfl
theorem cut_hi {lo : Option Int} {h : Int} : cutSl sz none q xs lo (some h) none = chk (0 ≤ lo.getD 0 ∧ lo.getD 0 ≤ h ∧ h ≤ q) (some (.d (.sl sz (h.toNat - (lo.getD 0).toNat) ((xs.drop ((lo.getD 0).toNat * sz)).take ((h.toNat - (lo.getD 0).toNat) * sz))))) := rfl
theorem cut_hi_full {lo : Option Int} {h : Int} : cutSl sz (some .full) q xs lo (some h) none = chk (0 ≤ lo.getD 0 ∧ lo.getD 0 ≤ h ∧ h ≤ q) (some (.d (.sl sz (h.toNat - (lo.getD 0).toNat) ((xs.drop ((lo.getD 0).toNat * sz)).take ((h.toNat - (lo.getD 0).toNat) * sz))))) := rfl
theorem cut_hi_own {lo : Option Int} {h : Int} : cutSl sz (some (.own o)) q xs lo (some h) none = chk (0 ≤ lo.getD 0 ∧ lo.getD 0 ≤ h ∧ h ≤ q) (some (.sl (.sp (xs.drop (h.toNat * sz))) sz (h.toNat - (lo.getD 0).toNat) ((xs.drop ((lo.getD 0).toNat * sz)).take ((h.toNat - (lo.getD 0).toNat) * sz)))) := rfl
theorem cut_hi_sp {lo : Option Int} {h : Int} {zs : List D} : cutSl sz (some (.sp zs)) q xs lo (some h) none = chk (0 ≤ lo.getD 0 ∧ lo.getD 0 ≤ h ∧ (h.toNat - q) * sz ≤ zs.length ∧ 0 < sz) (some (.d (.sl sz (h.toNat - (lo.getD 0).toNat) (((xs ++ zs).drop ((lo.getD 0).toNat * sz)).take ((h.toNat - (lo.getD 0).toNat) * sz))))) := rfl
theorem cut_sp {lo : Option Int} {zs : List D} : cutSl sz (some (.sp zs)) q xs lo none none = chk (0 ≤ lo.getD 0 ∧ lo.getD 0 ≤ q) (some (.d (.sl sz (q - (lo.getD 0).toNat) (xs.drop ((lo.getD 0).toNat * sz))))) := rfl
def ssO : Option Nat → Nat → Nat → Nat → Nat → Int → Int → Option AV
  | some sz', i, off, sz, n, l, h => if sz' = sz then chk (0 ≤ l ∧ l ≤ h ∧ h ≤ n) (some (.osl i (off + l.toNat * sz) sz (h.toNat - l.toNat))) else none
  | none, _, _, _, _, _, _ => none
theorem ssO_some : ssO (some sz') o off sz q n m = if sz' = sz then chk (0 ≤ n ∧ n ≤ m ∧ m ≤ q) (some (.osl o (off + n.toNat * sz) sz (m.toNat - n.toNat))) else none := rfl
theorem ss_osl {lo hi : Option Int} : evSlice ti r t (.osl o off sz q) lo hi none = ssO (szOf ti t) o off sz q (lo.getD 0) (hi.getD q) := by
  unfold evSlice ssO
  dsimp only
  cases szOf ti t with
  | none => simp [chk]
  | some sz' =>
    by_cases h : sz' = sz
    · subst h; simp [chk]
    · simp [chk, h]
def ssP (ti : Ti) : TK → Option (List AV) → Nat → Nat → Option Int → Option Int → Option AV
  | .arr n e, some l, i, off, lo, hi => if tI ti e = true then chk (off + n * tS ti e ≤ l.length ∧ 0 ≤ lo.getD 0 ∧ lo.getD 0 ≤ hi.getD n ∧ hi.getD n ≤ n) (some (.osl i (off + (lo.getD 0).toNat * tS ti e) (tS ti e) ((hi.getD n).toNat - (lo.getD 0).toNat))) else none
  | _, _, _, _, _, _ => none
theorem ssP_arr {lo hi : Option Int} : ssP ti (.arr q e) (some l) o off lo hi = if tI ti e = true then chk (off + q * tS ti e ≤ l.length ∧ 0 ≤ lo.getD 0 ∧ lo.getD 0 ≤ hi.getD q ∧ hi.getD q ≤ q) (some (.osl o (off + (lo.getD 0).toNat * tS ti e) (tS ti e) ((hi.getD q).toNat - (lo.getD 0).toNat))) else none := rfl
theorem ss_ptr {lo hi : Option Int} : evSlice ti r t (.ptr o off) lo hi none = ssP ti (tK ti t) (objOf r o) o off lo hi := by
  unfold evSlice ssP tK
  dsimp only
  cases ti t with
  | none => cases objOf r o <;> rfl
  | some i =>
    obtain ⟨u, _, _, _⟩ := i
    cases u <;> cases objOf r o <;> try rfl
    rename_i n e l
    simp only [tkOf]
    unfold tI tS
    cases ti e <;> rfl
def ssE (ti : Ti) : TK → List D → Option Int → Option Int → Option AV
  | .arr n e, xs, lo, hi => if tI ti e = true then chk (n * tS ti e ≤ xs.length ∧ 0 ≤ lo.getD 0 ∧ lo.getD 0 ≤ hi.getD n ∧ hi.getD n ≤ n) (some (.d (.sl (tS ti e) ((hi.getD n).toNat - (lo.getD 0).toNat) ((xs.drop ((lo.getD 0).toNat * tS ti e)).take (((hi.getD n).toNat - (lo.getD 0).toNat) * tS ti e))))) else none
  | _, _, _, _ => none
theorem ssE_arr {lo hi : Option Int} : ssE ti (.arr q e) xs lo hi = if tI ti e = true then chk (q * tS ti e ≤ xs.length ∧ 0 ≤ lo.getD 0 ∧ lo.getD 0 ≤ hi.getD q ∧ hi.getD q ≤ q) (some (.d (.sl (tS ti e) ((hi.getD q).toNat - (lo.getD 0).toNat) ((xs.drop ((lo.getD 0).toNat * tS ti e)).take (((hi.getD q).toNat - (lo.getD 0).toNat) * tS ti e))))) else none := rfl
theorem ss_el {lo hi : Option Int} : evSlice ti r t (.el xs) lo hi none = ssE ti (tK ti t) xs lo hi := by
  unfold evSlice ssE tK
  cases ti t with
  | none => rfl
  | some i =>
    obtain ⟨u, _, _, _⟩ := i
    cases u <;> try rfl
    rename_i n e
    simp only [tkOf]
    unfold tI tS
    cases ti e <;> rfl
end
end Go.Proofs.YteeknmjjpcbphaaDoor
