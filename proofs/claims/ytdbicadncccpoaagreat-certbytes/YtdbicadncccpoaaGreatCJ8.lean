/- Parts of the proof: CMay, CEnc, CtLive, OpenS, OpenK. -/
import Derived.Test.YtdbicadncccpoaaGreatCJ5
import Derived.Test.YtdbicadncccpoaaGreatCJ2
import Derived.Test.YtdbicadncccpoaaGreatCJ7
import Derived.Test.YtdbicadncccpoaaGreatCJ0
import Derived.Test.YtdbicadncccpoaaGreatCJ1
set_option linter.unusedVariables false
set_option linter.unusedSimpArgs false
set_option maxRecDepth 100000
namespace Go.Proofs.YtdbicadncccpoaaGreat
open Go Go.ChangeShapes Go.WideShapes
/-! cert: may a step be laid? -/
def mayX (x : Ntr) : Bool := decide ((1 ≤ x.why ∧ x.why ≤ 3) ∧ (0 ≤ x.rule ∧ x.rule ≤ 4096) ∧ x.body.length ≤ 5 ∧ (x.why = 2 ∨ x.rule = 0 ∧ x.body.length = 0))
set_option maxHeartbeats 400000 in
theorem cmay_ac (x : Ntr) (hx : okE x) : AC Tryz.prog noG 22 [.d (.agg (entE x))] [] (fun v r' => v = .d (.c (.bool (mayX x))) ∧ r' = []) := by
  refine AC.fit ?_
  refine AC_of_R (N := 41) (res := [.tmp 2]) ty_ok Tryz.call22 Tryz.func22 rfl rfl rfl (Nat.le_of_ble_eq_true rfl) ?_
  obtain ⟨t1, t2, t3, t4, t5, t6⟩ := tg32 x.tg hx.1
  have hbl : x.body.length ≤ 1000000 := hx.2.2.1
  by_cases c1 : x.why < 1
  · skip
    have hm : mayX x = false := by rw [mayX, decide_eq_false_iff_not]; omega
    rw [hm]
    refine rn1 (jn @entE.eq_1 (jn @fctE.eq_1 (jn @t1 (jn @t2 (jn @t3 (jn @t4 (jn @t5 (jn @t6 (jn @tA_allD @c1))))))))) ?_
    exact fv0 [] []
  by_cases c2 : x.why > 3
  · skip
    have hm : mayX x = false := by rw [mayX, decide_eq_false_iff_not]; omega
    rw [hm]
    refine rn1 (jn @entE.eq_1 (jn @fctE.eq_1 (jn @t1 (jn @t2 (jn @t3 (jn @t4 (jn @t5 (jn @t6 (jn @tA_allD (jn @c1 @c2)))))))))) ?_
    exact fv0 [] []
  by_cases c3 : x.rule < 0
  · skip
    have hm : mayX x = false := by rw [mayX, decide_eq_false_iff_not]; omega
    rw [hm]
    refine rn1 (jn @entE.eq_1 (jn @fctE.eq_1 (jn @t1 (jn @t2 (jn @t3 (jn @t4 (jn @t5 (jn @t6 (jn @tA_allD (jn @c1 (jn @c2 @c3))))))))))) ?_
    exact fv0 [] []
  by_cases c4 : x.rule > 4096
  · skip
    have hm : mayX x = false := by rw [mayX, decide_eq_false_iff_not]; omega
    rw [hm]
    refine rn1 (jn @entE.eq_1 (jn @fctE.eq_1 (jn @t1 (jn @t2 (jn @t3 (jn @t4 (jn @t5 (jn @t6 (jn @tA_allD (jn @c1 (jn @c2 (jn @c3 @c4)))))))))))) ?_
    exact fv0 [] []
  by_cases c5 : (x.body.length : Int) > 5
  · skip
    have hm : mayX x = false := by rw [mayX, decide_eq_false_iff_not]; omega
    rw [hm]
    refine rn1 (jn @entE.eq_1 (jn @fctE.eq_1 (jn @t1 (jn @t2 (jn @t3 (jn @t4 (jn @t5 (jn @t6 (jn @tA_allD (jn @c1 (jn @c2 (jn @c3 (jn @c4 @c5))))))))))))) ?_
    exact fv0 [] []
  by_cases c6 : x.why = 2
  · skip
    have hm : mayX x = true := by rw [mayX, decide_eq_true_eq]; omega
    rw [hm]
    refine rn1 (jn @entE.eq_1 (jn @fctE.eq_1 (jn @t1 (jn @t2 (jn @t3 (jn @t4 (jn @t5 (jn @t6 (jn @tA_allD (jn @c1 (jn @c2 (jn @c3 (jn @c4 (jn @c5 @c6)))))))))))))) ?_
    exact fv0 [] []
  by_cases c7 : x.rule = 0
  · skip
    by_cases c8 : (x.body.length : Int) = 0
    · skip
      have hm : mayX x = true := by rw [mayX, decide_eq_true_eq]; omega
      rw [hm]
      refine rn1 (jn @entE.eq_1 (jn @fctE.eq_1 (jn @t1 (jn @t2 (jn @t3 (jn @t4 (jn @t5 (jn @t6 (jn @tA_allD (jn @c1 (jn @c2 (jn @c3 (jn @c4 (jn @c5 (jn @c6 (jn @c7 @c8)))))))))))))))) ?_
      exact fv0 [] []
    · skip
      have hm : mayX x = false := by rw [mayX, decide_eq_false_iff_not]; omega
      rw [hm]
      refine rn1 (jn @entE.eq_1 (jn @fctE.eq_1 (jn @t1 (jn @t2 (jn @t3 (jn @t4 (jn @t5 (jn @t6 (jn @tA_allD (jn @c1 (jn @c2 (jn @c3 (jn @c4 (jn @c5 (jn @c6 (jn @c7 @c8)))))))))))))))) ?_
      exact fv0 [] []
  · skip
    have hm : mayX x = false := by rw [mayX, decide_eq_false_iff_not]; omega
    rw [hm]
    refine rn1 (jn @entE.eq_1 (jn @fctE.eq_1 (jn @t1 (jn @t2 (jn @t3 (jn @t4 (jn @t5 (jn @t6 (jn @tA_allD (jn @c1 (jn @c2 (jn @c3 (jn @c4 (jn @c5 (jn @c6 @c7))))))))))))))) ?_
    exact fv0 [] []
end Go.Proofs.YtdbicadncccpoaaGreat

set_option linter.unusedVariables false
set_option linter.unusedSimpArgs false
set_option maxRecDepth 100000
namespace Go.Proofs.YtdbicadncccpoaaGreat
open Go Go.ChangeShapes Go.WideShapes
/-! cert.Encode. -/
def hdrX (b : List UInt8) (x : Ntr) : List UInt8 := if x.why = 2 then (b ++ leb (zig x.rule)) ++ leb (zig (x.body.length : Int)) else b
def stgX (b : List UInt8) (x : Ntr) (i : Nat) : List UInt8 := if i = 0 then b ++ leb (zig x.why) else (x.body.take (i - 1)).foldl putF (hdrX (putF (b ++ leb (zig x.why)) x.f) x)
def facX (x : Ntr) : List Fct := x.f :: x.body
def entB (b : List UInt8) (x : Ntr) : List UInt8 := stgX b x (x.body.length + 1) ++ x.tg
def goodX (x : Ntr) : Bool := mayX x && (facX x).all chkF
def okX (x : Ntr) : Prop := okE x ∧ ∀ g ∈ facX x, okF g
def encG (c : List Ntr) : Bool := decide (c.length ≤ 4096) && c.all goodX
def encB (c : List Ntr) : List UInt8 := c.foldl entB (leb (zig (c.length : Int)))
def encX (c : List Ntr) : List UInt8 := if encG c = true then encB c else []
def encE (c : List Ntr) : Int := if encG c = true then 0 else 190
theorem leb_i64 {n : Int} (h0 : -9223372036854775808 ≤ n) (h1 : n ≤ 9223372036854775807) : (leb (zig n)).length ≤ 10 := leb64_len h0 h1
theorem foldF_le : ∀ (l : List Fct) (b : List UInt8), (∀ f ∈ l, okF f ∧ chkF f = true) → (l.foldl putF b).length ≤ b.length + 2300 * l.length
  | [], b, _ => by simp
  | t :: l, b, h => by
    have h0 := h t (by simp)
    have h1 := putF_le (b := b) h0.1 h0.2
    have h2 := foldF_le l (putF b t) (fun x hx => h x (by simp [hx]))
    rw [List.foldl_cons, List.length_cons]; omega
theorem mayX_iff {x : Ntr} (h : mayX x = true) : (1 ≤ x.why ∧ x.why ≤ 3) ∧ (0 ≤ x.rule ∧ x.rule ≤ 4096) ∧ x.body.length ≤ 5 ∧ (x.why = 2 ∨ x.rule = 0 ∧ x.body.length = 0) := by rwa [mayX, decide_eq_true_eq] at h
theorem hdrX_le {b : List UInt8} {x : Ntr} (h : mayX x = true) : (hdrX b x).length ≤ b.length + 20 := by
  obtain ⟨_, h2, h3, _⟩ := mayX_iff h
  have k1 := leb_i64 (n := x.rule) (by omega) (by omega)
  have k2 := leb_i64 (n := (x.body.length : Int)) (by omega) (by omega)
  rw [hdrX]
  split
  · simp only [List.length_append]; omega
  · omega
theorem stgX_le {b : List UInt8} {x : Ntr} (h : mayX x = true) (ho : ∀ g ∈ facX x, okF g) {i : Nat} (hg : ((facX x).take i).all chkF = true) : (stgX b x i).length ≤ b.length + 14000 := by
  obtain ⟨h1, h2, h3, _⟩ := mayX_iff h
  have k1 := leb_i64 (n := x.why) (by omega) (by omega)
  rw [stgX]
  split
  · rw [List.length_append]; omega
  · rename_i hi
    obtain ⟨j, rfl⟩ : ∃ j, i = j + 1 := ⟨i - 1, by omega⟩
    rw [facX, List.take_succ_cons, List.all_cons, Bool.and_eq_true, List.all_eq_true] at hg
    rw [Nat.add_sub_cancel]
    have h4 := hdrX_le (b := putF (b ++ leb (zig x.why)) x.f) h
    have h5 := putF_le (b := b ++ leb (zig x.why)) (ho x.f (by simp [facX])) hg.1
    have h6 := foldF_le (x.body.take j) (hdrX (putF (b ++ leb (zig x.why)) x.f) x) (fun f hf => ⟨ho f (by simp [facX, List.mem_of_mem_take hf]), hg.2 f hf⟩)
    rw [List.length_append] at h5
    rw [List.length_take] at h6
    omega
theorem entB_le {b : List UInt8} {x : Ntr} (hx : okX x) (h : goodX x = true) : (entB b x).length ≤ b.length + 14032 := by
  rw [goodX, Bool.and_eq_true] at h
  have := stgX_le (b := b) (i := x.body.length + 1) h.1 hx.2 (by rw [List.take_of_length_le (by simp [facX])]; exact h.2)
  rw [entB, List.length_append, hx.1.1]; omega
theorem foldE_le : ∀ (l : List Ntr) (b : List UInt8), (∀ x ∈ l, okX x ∧ goodX x = true) → (l.foldl entB b).length ≤ b.length + 14032 * l.length
  | [], b, _ => by simp
  | t :: l, b, h => by
    have h0 := h t (by simp)
    have h1 := entB_le (b := b) h0.1 h0.2
    have h2 := foldE_le l (entB b t) (fun x hx => h x (by simp [hx]))
    rw [List.foldl_cons, List.length_cons]; omega
theorem all_take' {α : Type} {p : α → Bool} {l : List α} {i : Nat} (h : i < l.length) : (l.take (i + 1)).all p = ((l.take i).all p && p l[i]) := by
  rw [List.take_succ_eq_append_getElem h, List.all_append, List.all_cons, List.all_nil, Bool.and_true]
theorem all_not' {α : Type} {p : α → Bool} {l : List α} {i : Nat} (h : i < l.length) (hp : p l[i] = false) : l.all p = false := by
  rw [List.all_eq_false]
  exact ⟨_, List.getElem_mem h, by simp [hp]⟩
theorem stgX_0 (b : List UInt8) (x : Ntr) : stgX b x 0 = b ++ leb (zig x.why) := rfl
theorem stgX_s (b : List UInt8) (x : Ntr) (i : Nat) (h : i < x.body.length) : stgX b x (i + 1 + 1) = putF (stgX b x (i + 1)) x.body[i] := by
  rw [stgX, stgX, if_neg (by omega), if_neg (by omega), Nat.add_sub_cancel, Nat.add_sub_cancel, fold_take putF x.body i h]
def ceSt (c : List Ntr) (i : Nat) (acc : List UInt8) : List (Nat × AV) := [(4, .sl (.own 1) 1 acc.length (bD acc)), (17, .d (.sl 39 c.length (flE c))), (18, .d (.c (.int .i64 c.length))), (19, .d (.c (.int .i64 i)))]
def ceRe (acc : List UInt8) : Rs := [none, some (.tok acc.length)]
def cfSt (c : List Ntr) (i : Nat) (x : Ntr) (j : Nat) (acc : List UInt8) : List (Nat × AV) := [(4, .sl (.own 5) 1 acc.length (bD acc)), (6, .ptr 2 0), (17, .d (.sl 39 c.length (flE c))), (18, .d (.c (.int .i64 c.length))), (19, .d (.c (.int .i64 i))), (36, .d (.sl 4 (1 + x.body.length) (flatE fctE (facX x)))), (37, .d (.c (.int .i64 ((1 + x.body.length : Nat) : Int)))), (38, .d (.c (.int .i64 j)))]
def cfRe (x : Ntr) (acc : List UInt8) : Rs := [none, none, some (.obj (enC x.f x.why x.rule (.d (.sl 4 x.body.length (flatE fctE x.body))) x.tg)), none, none, some (.tok acc.length)]
set_option maxHeartbeats 800000 in
theorem encode_ac (c : List Ntr) (hL : okL c) (hX : ∀ x ∈ c, okX x) : AC Tryz.prog noG 7 [.d (.sl 39 c.length (flE c))] [] (fun v r' => v = .tup [.d (.sl 1 (encX c).length (bD (encX c))), .d (.c (.int .i64 (encE c)))] ∧ r' = []) := by
  refine AC.fit ?_
  refine AC_of_R (N := 73) (res := [.tmp 2, .tmp 3]) ty_ok Tryz.call7 Tryz.func7 rfl rfl rfl (Nat.le_of_ble_eq_true rfl) ?_
  have hz : ([UInt8.ofNat 0, UInt8.ofNat 0, UInt8.ofNat 0, UInt8.ofNat 0, UInt8.ofNat 0, UInt8.ofNat 0, UInt8.ofNat 0, UInt8.ofNat 0, UInt8.ofNat 0, UInt8.ofNat 0, UInt8.ofNat 0, UInt8.ofNat 0, UInt8.ofNat 0, UInt8.ofNat 0, UInt8.ofNat 0, UInt8.ofNat 0, UInt8.ofNat 0, UInt8.ofNat 0, UInt8.ofNat 0, UInt8.ofNat 0, UInt8.ofNat 0, UInt8.ofNat 0, UInt8.ofNat 0, UInt8.ofNat 0, UInt8.ofNat 0, UInt8.ofNat 0, UInt8.ofNat 0, UInt8.ofNat 0, UInt8.ofNat 0, UInt8.ofNat 0, UInt8.ofNat 0, UInt8.ofNat 0] : List UInt8) = tgz := rfl
  obtain ⟨z1, z2, z3, z4, z5, z6⟩ := tg32 tgz rfl
  have z7 : (tA tgz).drop 32 = [] := List.drop_of_length_le (by omega)
  have bD_nil : bD [] = [] := rfl
  have hcl := hL.1
  have hfl := flE_len hL
  by_cases hn : (c.length : Int) > 4096
  · have hG : encG c = false := by rw [encG, Bool.and_eq_false_iff]; left; rw [decide_eq_false_iff_not]; omega
    refine rn1 @hn ?_
    rw [encX, encE, hG]
    simp only [Bool.false_eq_true, if_false, List.length_nil, bD_nil]
    exact fv0 [] []
  have hcl2 : c.length ≤ 4096 := by omega
  have k0 := putInt_ac [] (c.length : Int) (by omega) (by omega) (by simp)
  have kl := leb_i64 (n := (c.length : Int)) (by omega) (by omega)
  rw [List.nil_append, List.length_nil, bD_nil] at k0
  refine rn1 @hn ?_
  refine HO_callX ty_ok [] k0 (trivial) rfl ?_
  rintro v r' ⟨rfl, rfl⟩ _
  obtain ⟨b0, hb0⟩ : ∃ b0, b0 = leb (zig (c.length : Int)) := ⟨_, rfl⟩
  rw [← hb0] at kl ⊢
  refine rn0 ?_
  refine HC_loopR (fun i : Nat => ceSt c i ((c.take i).foldl entB b0)) (fun i => ceRe ((c.take i).foldl entB b0)) (fun i => i ≤ c.length ∧ (c.take i).all goodX = true) (fun i => c.length - i) 0 [0, 0] [] ⟨by omega, rfl⟩ ?_ ?_
  · exact ft1 (jn @ceSt.eq_1 (jn @ceRe.eq_1 (jn @List.take_zero.{0} @List.foldl_nil.{0, 0})))
  intro i ⟨hi1, hall⟩
  refine HC_of_R ty_ok ?_
  by_cases hlt : i < c.length
  · have hi : (i : Int) < c.length := by omega
    have hd := flE_drop hL i hlt
    have hxx := hX c[i] (List.getElem_mem hlt)
    have hstep := fold_take entB c i hlt b0
    have hal := all_take' (p := goodX) hlt
    have hno := all_not' (p := goodX) hlt
    have hacc := foldE_le (c.take i) b0 (fun x hx => ⟨hX x (List.mem_of_mem_take hx), by rw [List.all_eq_true] at hall; exact hall x hx⟩)
    rw [List.length_take] at hacc
    rw [hall, Bool.true_and] at hal
    generalize c[i] = x at *
    generalize (c.take i).foldl entB b0 = acc at *
    have hbl : x.body.length ≤ 1000000 := hxx.1.2.2.1
    obtain ⟨t1, t2, t3, t4, t5, t6⟩ := tg32 x.tg hxx.1.1
    have km := cmay_ac x hxx.1
    have htk : (bD x.tg ++ flE (c.drop (i + 1))).take 32 = bD x.tg := by rw [← t2]; exact List.take_left
    simp only [entE, fctE, List.cons_append, List.nil_append] at hd km
    refine rn1 (jn @ceSt.eq_1 (jn @ceRe.eq_1 (jn @hi (jn @hd (jn @hfl (jn @htk (jn @hz (jn @z1 (jn @z2 (jn @z3 (jn @z4 (jn @z5 (jn @z6 (jn @z7 (jn @t1 (jn @t2 (jn @t3 (jn @t4 (jn @t5 (jn @t6 @tA_allD)))))))))))))))))))) ?_
    (repeat (refine And.intro (by omega) ?_))
    refine HO_pureA ty_ok km ?_
    cases hm : mayX x with
    | false =>
      have hG : encG c = false := by rw [encG, hno (by rw [goodX, hm, Bool.false_and]), Bool.and_false]
      refine rn0 ?_
      rw [encX, encE, hG]
      simp only [Bool.false_eq_true, if_false, List.length_nil, bD_nil]
      exact fv0 [] []
    | true =>
      obtain ⟨hm1, hm2, hm3, hm4⟩ := mayX_iff hm
      have k1 := putInt_ac acc x.why (by omega) (by omega) (by omega)
      refine rn1 (jn @t1 (jn @t2 (jn @t3 (jn @t4 (jn @t5 (jn @t6 @tA_allD)))))) ?_
      (repeat (refine And.intro (by omega) ?_))
      refine HO_callX ty_ok [] k1 (trivial) rfl ?_
      rintro v r' ⟨rfl, rfl⟩ _
      rw [← stgX_0]
      refine rn0 ?_
      refine HC_loopR (fun j : Nat => cfSt c i x j (stgX acc x j)) (fun j => cfRe x (stgX acc x j)) (fun j => j ≤ x.body.length + 1 ∧ ((facX x).take j).all chkF = true) (fun j => x.body.length + 1 - j) 0 [0, 0, 2, 0, 0, 4] [] ⟨by omega, rfl⟩ ?_ ?_
      · exact ft1 (jn @cfSt.eq_1 (jn @cfRe.eq_1 (jn @enC.eq_1 (jn @facX.eq_1 (jn @flatE_cons (jn @fctE.eq_1 @tA_wf))))))
      intro j ⟨hj1, hja⟩
      refine HC_of_R ty_ok ?_
      have hfx : (facX x).length = 1 + x.body.length := by rw [facX, List.length_cons]; omega
      have hsl := stgX_le (b := acc) hm hxx.2 hja
      by_cases hlj : j < (facX x).length
      · have hj : (j : Int) < ((1 + x.body.length : Nat) : Int) := by omega
        have hd2 := flatE_drop fctE_len (facX x) j hlj
        have hle2 := flatE_len fctE_len (facX x)
        rw [hfx] at hle2
        have hof := hxx.2 (facX x)[j] (List.getElem_mem hlj)
        have hfl3 : (facX x)[j].l.length ≤ 1000000 := by
          rcases List.mem_cons.1 (List.getElem_mem hlj) with h | h
          · rw [h]; exact hxx.1.2.1
          · exact hxx.1.2.2.2 _ h
        have haj := all_take' (p := chkF) hlj
        have hnj := all_not' (p := chkF) hlj
        rw [hja, Bool.true_and] at haj
        have hS0 : j = 0 → stgX acc x (j + 1) = hdrX (putF (stgX acc x j) (facX x)[j]) x := by
          intro h; subst h; rfl
        have hS1 : j ≠ 0 → stgX acc x (j + 1) = putF (stgX acc x j) (facX x)[j] := by
          intro h
          obtain ⟨j', rfl⟩ : ∃ j', j = j' + 1 := ⟨j - 1, by omega⟩
          exact stgX_s acc x j' (by omega)
        have kp := putF_ac (stgX acc x j) (facX x)[j] hof (by omega) (by omega)
        have hpl := putF_le (b := stgX acc x j) hof
        generalize (facX x)[j] = g at *
        generalize stgX acc x j = a at *
        simp only [fctE, List.cons_append, List.nil_append] at hd2 kp
        cases hc : chkF g with
        | false =>
          have hG : encG c = false := by rw [encG, hno (by rw [goodX, hnj hc, Bool.and_false]), Bool.and_false]
          have hce : chkE g = 40 := by rw [chkE, hc]; rfl
          rw [hce] at kp
          refine rn1 (jn @cfSt.eq_1 (jn @cfRe.eq_1 (jn @enC.eq_1 (jn @hj (jn @hd2 (jn @hle2 (jn @t1 (jn @t2 (jn @t3 (jn @t4 (jn @t5 (jn @t6 @tA_allD)))))))))))) ?_
          (repeat (refine And.intro (by omega) ?_))
          refine HO_callX ty_ok [] kp (trivial) rfl ?_
          rintro v r' ⟨rfl, rfl⟩ _
          refine rn1 (jn @t1 (jn @t2 (jn @t3 (jn @t4 (jn @t5 (jn @t6 @tA_allD)))))) ?_
          rw [encX, encE, hG]
          simp only [Bool.false_eq_true, if_false, List.length_nil, bD_nil]
          exact fv0 [] []
        | true =>
          have hce : chkE g = 0 := by rw [chkE, hc]; rfl
          have hpf : putFR a g = putF a g := if_pos hc
          rw [hce, hpf] at kp
          have hpl := hpl hc
          rw [hc] at haj
          by_cases hj0 : j = 0
          · have hj0' : (j : Int) = 0 := by omega
            have hj1' : ((j + 1 : Nat) : Int) = 1 := by omega
            have hS := hS0 hj0
            by_cases hw : x.why = 2
            · rw [hdrX, if_pos hw] at hS
              have hl1 := leb_i64 (n := x.rule) (by omega) (by omega)
              have kq1 := putInt_ac (putF a g) x.rule (by omega) (by omega) (by omega)
              have kq2 := putInt_ac (putF a g ++ leb (zig x.rule)) (x.body.length : Int) (by omega) (by omega) (by rw [List.length_append]; omega)
              rw [← hS] at kq2
              generalize putF a g ++ leb (zig x.rule) = B1 at kq1 kq2
              refine rn1 (jn @cfSt.eq_1 (jn @cfRe.eq_1 (jn @enC.eq_1 (jn @hj (jn @hd2 (jn @hle2 (jn @t1 (jn @t2 (jn @t3 (jn @t4 (jn @t5 (jn @t6 @tA_allD)))))))))))) ?_
              (repeat (refine And.intro (by omega) ?_))
              refine HO_callX ty_ok [] kp (trivial) rfl ?_
              rintro v r' ⟨rfl, rfl⟩ _
              refine rn1 (jn @hj0' (jn @hw (jn @t1 (jn @t2 (jn @t3 (jn @t4 (jn @t5 (jn @t6 @tA_allD)))))))) ?_
              refine HC_order [3] ty_ok mix [0, 1, 2, 4, 5, 6, 3, 7, 8] (by kernel_rfl) rfl _ rfl ?_
              simp only [opl_nil', opl_cons', oplC_some, List.getElem?_toArray, List.getElem?_cons_zero, List.getElem?_cons_succ]
              refine rn1 (jn @t1 (jn @t2 (jn @t3 (jn @t4 (jn @t5 (jn @t6 @tA_allD)))))) ?_
              refine HO_callX ty_ok [] kq1 (trivial) rfl ?_
              rintro v r' ⟨rfl, rfl⟩ _
              refine rn1 (jn @t1 (jn @t2 (jn @t3 (jn @t4 (jn @t5 (jn @t6 @tA_allD)))))) ?_
              refine HO_callX ty_ok [] kq2 (trivial) rfl ?_
              rintro v r' ⟨rfl, rfl⟩ _
              refine rn1 (jn @hj0' (jn @t1 (jn @t2 (jn @t3 (jn @t4 (jn @t5 (jn @t6 @tA_allD))))))) ?_
              (repeat (refine And.intro (by omega) ?_))
              refine ⟨j + 1, ⟨by omega, haj⟩, by omega, [0, 0, 2, 0, 0, 9], [], ?_⟩
              exact ft1 (jn @hw (jn @hj1' (jn @cfSt.eq_1 (jn @cfRe.eq_1 (jn @enC.eq_1 @tA_wf)))))
            · rw [hdrX, if_neg hw] at hS
              rw [← hS] at kp
              refine rn1 (jn @cfSt.eq_1 (jn @cfRe.eq_1 (jn @enC.eq_1 (jn @hj (jn @hd2 (jn @hle2 (jn @t1 (jn @t2 (jn @t3 (jn @t4 (jn @t5 (jn @t6 @tA_allD)))))))))))) ?_
              (repeat (refine And.intro (by omega) ?_))
              refine HO_callX ty_ok [] kp (trivial) rfl ?_
              rintro v r' ⟨rfl, rfl⟩ _
              refine rn1 (jn @hj0' (jn @hw (jn @t1 (jn @t2 (jn @t3 (jn @t4 (jn @t5 (jn @t6 @tA_allD)))))))) ?_
              (repeat (refine And.intro (by omega) ?_))
              refine ⟨j + 1, ⟨by omega, haj⟩, by omega, [0, 0, 2, 0, 0, 7], [], ?_⟩
              exact ft1 (jn @hj1' (jn @cfSt.eq_1 (jn @cfRe.eq_1 (jn @enC.eq_1 @tA_wf))))
          · have hj0' : ¬ (j : Int) = 0 := by omega
            have hS := hS1 hj0
            rw [← hS] at kp
            refine rn1 (jn @cfSt.eq_1 (jn @cfRe.eq_1 (jn @enC.eq_1 (jn @hj (jn @hd2 (jn @hle2 (jn @t1 (jn @t2 (jn @t3 (jn @t4 (jn @t5 (jn @t6 @tA_allD)))))))))))) ?_
            (repeat (refine And.intro (by omega) ?_))
            refine HO_callX ty_ok [] kp (trivial) rfl ?_
            rintro v r' ⟨rfl, rfl⟩ _
            refine rn1 (jn @hj0' (jn @t1 (jn @t2 (jn @t3 (jn @t4 (jn @t5 (jn @t6 @tA_allD))))))) ?_
            (repeat (refine And.intro (by omega) ?_))
            refine ⟨j + 1, ⟨by omega, haj⟩, by omega, [0, 0, 2, 0, 0, 7], [], ?_⟩
            exact ft1 (jn @cfSt.eq_1 (jn @cfRe.eq_1 (jn @enC.eq_1 @tA_wf)))
      · have hj : ¬ (j : Int) < ((1 + x.body.length : Nat) : Int) := by omega
        have hjl : j = x.body.length + 1 := by omega
        rw [List.take_of_length_le (by omega)] at hja
        have hgx : goodX x = true := by rw [goodX, hm, hja]; rfl
        have hW : entB acc x = stgX acc x j ++ x.tg := by rw [entB, hjl]
        rw [hW] at hstep
        generalize stgX acc x j = a at *
        refine rn1 (jn @cfSt.eq_1 (jn @cfRe.eq_1 (jn @enC.eq_1 (jn @hj (jn @t1 (jn @t2 (jn @t3 (jn @t4 (jn @t5 (jn @t6 @tA_allD)))))))))) ?_
        refine ⟨⟨by decide, by decide⟩, ⟨by omega, by omega⟩, ?_⟩
        have hWl : (a ++ x.tg).length = a.length + 32 := by rw [List.length_append, t1]
        rw [← hstep] at hWl
        rw [← hstep, ← hWl]
        (repeat (refine And.intro (by omega) ?_))
        refine ⟨i + 1, ⟨by omega, by rw [hal, hgx]⟩, by omega, [0, 5], [], ?_⟩
        exact ft1 (jn @ceSt.eq_1 @ceRe.eq_1)
  · have hi : ¬ (i : Int) < c.length := by omega
    rw [List.take_of_length_le (by omega)] at hall ⊢
    have hG : encG c = true := by rw [encG, hall, Bool.and_true, decide_eq_true_eq]; exact hcl2
    refine rn1 (jn @ceSt.eq_1 (jn @ceRe.eq_1 @hi)) ?_
    rw [encX, encE, hG]
    simp only [if_true, encB, ← hb0]
    exact fv0 [] []
end Go.Proofs.YtdbicadncccpoaaGreat

set_option linter.unusedVariables false
set_option linter.unusedSimpArgs false
set_option maxRecDepth 100000
namespace Go.Proofs.YtdbicadncccpoaaGreat
open Go Go.ChangeShapes Go.WideShapes
/-! The statement's examples of certificates. -/
section
variable {P : Program} {ti : Ti} {G : Nat → List D} {N : Nat} {K : KD}
/-- .. in the midst of a region. -/
theorem HO_lay (i : Nat) {ops : Array Oper} {rest : List Oper} {b : Nat → AV} {sl : List (Nat × AV)} {r : Rs} {l : List AV} {ds : List D} (ho : objOf r i = some l) (hl : allD l = some ds) (h : HO P ti G N ops rest (.plain K) ⟨b, fzL i ds sl, r.set i none⟩) : HO P ti G N ops rest (.plain K) ⟨b, sl, r⟩ := by
  intro E0 r0 w0 E a w hR hS
  obtain ⟨bb, T', hb, hlen, hrm, hgood, hst⟩ := lay_row hR.good ho hl
  refine h E0 r0 w0 ⟨T', E.bl⟩ a w ⟨hR.size, fun k => ?_, hgood, hR.defers⟩ (hS.trans hst)
  have hk := hR.slot k
  show RA _ (r.set i none) w (lk (fzL i ds sl) b k) _
  change RA E r w (lk sl b k) _ at hk
  rcases lk_fz (i := i) (ds := ds) (b := b) (l := sl) (k := k) with ⟨v, h1, h2⟩ | ⟨h1, h2⟩
  · rw [h2]; rw [h1] at hk; exact fz_sound hR.good ho hb hlen hrm hst hk
  · rw [h2]; rw [h1] at hk; exact hk.step hst
end
def fA (n : Int) : Fct := ⟨⟨#[97]⟩, ⟨#[97]⟩, ⟨#[112]⟩, [⟨true, n, ⟨#[]⟩⟩]⟩
theorem at_ac (n : Int) : AC Tryz.prog noG 18 [.d (.c (.int .i64 n))] [] (fun v r' => v = .d (.agg (fctE (fA n))) ∧ r' = []) := by
  refine AC.fit ?_
  refine AC_of_R (N := 7) (res := [.cell 2 38]) ty_ok Tryz.call18 Tryz.func18 rfl rfl rfl (Nat.le_of_ble_eq_true rfl) ?_
  refine rn0 ?_
  exact fv1 [] [] (jn @fA.eq_1 (jn @fctE.eq_1 (jn @flatE_cons (jn @flatE_nil @cstE.eq_1))))
def lx1 : Ntr := ⟨fA 2, 1, 0, [], tgz⟩
def lx2 : Ntr := ⟨fA 1, 2, 0, [fA 2], tgz⟩
def lS : List Srce := [⟨⟨#[97]⟩, some ([lx1, lx2], [1, 0])⟩]
theorem lx_ok1 : okE lx1 := ⟨rfl, by decide, by decide, by simp [lx1]⟩
theorem lx_ok2 : okE lx2 := ⟨rfl, by decide, by decide, by simp [lx2, fA]⟩
theorem lL1 : okL [lx1] := ⟨by decide, by simpa using lx_ok1⟩
theorem lL2 : okL [lx1, lx2] := ⟨by decide, by simpa using ⟨lx_ok1, lx_ok2⟩⟩
theorem lI1 : TInv [lx1] [0] := TInv.nil.enter (x := lx1) (by decide +kernel)
theorem lI2 : TInv [lx1, lx2] [1, 0] := by
  have h := lI1.enter (x := lx2) (by decide +kernel)
  rwa [show insT [lx1] [0] lx2.f = [1, 0] by decide +kernel] at h
theorem lS_ok : okS lS := ⟨by decide, by simpa [lS, okP] using ⟨lL2, lI2⟩⟩
theorem l_make : makeL lS ⟨#[97]⟩ (fA 1) = [lx1, lx2] := by decide +kernel
theorem l_makeE : makeE lS ⟨#[97]⟩ (fA 1) = 0 := by decide +kernel
theorem l_enc : encE [lx1, lx2] = 0 := by decide +kernel
theorem l_encL : 64 < (encX [lx1, lx2]).length ∧ (encX [lx1, lx2]).length < 1000 := by decide +kernel
theorem lT1 : trN [] [] ⟨fA 2, 1, 0, [], tgz⟩ = tr [lx1] [0] := by
  rw [trN, if_pos (by decide +kernel)]; rfl
theorem lT2 : trN [lx1] [0] lx2 = tr [lx1, lx2] [1, 0] := by
  rw [trN, if_pos (by decide +kernel), show insT [lx1] [0] lx2.f = [1, 0] by decide +kernel]; rfl
theorem lE2 : errT [lx1] lx2 = 0 := by decide +kernel
set_option maxHeartbeats 400000 in
theorem ctlive_ac : AC Tryz.prog noG 5 [] [] (fun v r' => v = .d (.c (.bool true)) ∧ r' = []) := by
  refine AC.pure ?_ (by rintro v rfl; rfl)
  refine AC_of_R (N := 66) (res := [.tmp 0]) ty_ok Tryz.call5 Tryz.func5 rfl rfl rfl (Nat.le_of_ble_eq_true rfl) ?_
  have hz : ([UInt8.ofNat 0, UInt8.ofNat 0, UInt8.ofNat 0, UInt8.ofNat 0, UInt8.ofNat 0, UInt8.ofNat 0, UInt8.ofNat 0, UInt8.ofNat 0, UInt8.ofNat 0, UInt8.ofNat 0, UInt8.ofNat 0, UInt8.ofNat 0, UInt8.ofNat 0, UInt8.ofNat 0, UInt8.ofNat 0, UInt8.ofNat 0, UInt8.ofNat 0, UInt8.ofNat 0, UInt8.ofNat 0, UInt8.ofNat 0, UInt8.ofNat 0, UInt8.ofNat 0, UInt8.ofNat 0, UInt8.ofNat 0, UInt8.ofNat 0, UInt8.ofNat 0, UInt8.ofNat 0, UInt8.ofNat 0, UInt8.ofNat 0, UInt8.ofNat 0, UInt8.ofNat 0, UInt8.ofNat 0] : List UInt8) = tgz := rfl
  obtain ⟨z1, z2, z3, z4, z5, z6⟩ := tg32 tgz rfl
  have ka := at_ac 1
  have kb := at_ac 2
  have k1 := base_ac [] [] ⟨by decide, by simp⟩ TInv.nil (by decide) (fA 2) tgz rfl (by decide)
  have k2 := rule_ac [lx1] [0] lL1 lI1 (by decide) lx2 lx_ok2 rfl
  have km := make_ac lS lS_ok (by decide +kernel) ⟨#[97]⟩ (fA 1) (by decide)
  have ke := encode_ac [lx1, lx2] lL2 (by
    intro x hx
    simp only [List.mem_cons, List.not_mem_nil, or_false] at hx
    rcases hx with rfl | rfl
    · exact ⟨lx_ok1, by simp [facX, lx1, fA, okF, okC]⟩
    · exact ⟨lx_ok2, by simp [facX, lx2, fA, okF, okC]⟩)
  rw [l_make, l_makeE] at km
  rw [l_enc] at ke
  rw [lT1] at k1
  rw [lT2, lE2] at k2
  have hlen := l_encL
  generalize encX [lx1, lx2] = B at *
  rw [show flatE srcE lS = [.c (.string ⟨#[97]⟩), .p (trP [lx1, lx2] [1, 0])] from rfl, show lS.length = 1 from rfl] at km
  rw [show derE lx2.rule lx2.f lx2.body = .c (.int .i64 0) :: (fctE (fA 1) ++ [.sl 4 1 (fctE (fA 2))]) from rfl, show lx2.tg = tgz from rfl] at k2
  have hX0 : ∃ Z, (flE [lx1, lx2]).drop 4 = .c (.int .i64 1) :: Z := ⟨_, rfl⟩
  have hX1 : ∃ Z, (flE [lx1, lx2]).drop 43 = .c (.int .i64 2) :: Z := ⟨_, rfl⟩
  have hXl : (flE [lx1, lx2]).length = 78 := rfl
  obtain ⟨Z0, hX0⟩ := hX0
  obtain ⟨Z1, hX1⟩ := hX1
  rw [show [lx1, lx2].length = 2 from rfl] at km ke
  generalize flE [lx1, lx2] = X at km ke hX0 hX1 hXl
  simp only [fA, fctE, flatE_cons, flatE_nil, cstE, List.cons_append, List.nil_append, List.length_cons, List.length_nil] at ka kb k1 k2 km
  refine rn0 ?_
  refine HO_callX ty_ok [] tnew_ac (trivial) rfl ?_
  rintro v r' ⟨rfl, rfl⟩ _
  refine rn1 (jn @tr.eq_1 @tpC.eq_1) ?_
  refine HO_pureA ty_ok kb ?_
  refine rn1 (jn @hz (jn @z1 (jn @z2 (jn @z3 (jn @z4 (jn @z5 (jn @z6 @tA_allD))))))) ?_
  refine HO_callX ty_ok [0] k1 (tr_hand _ _ _ _ rfl) (tr_wf _ _) ?_
  rintro v r' ⟨rfl, rfl⟩ _
  refine rn1 (jn @tr.eq_1 @tpC.eq_1) ?_
  refine HO_pureA ty_ok ka ?_
  refine rn0 ?_
  refine HO_pureA ty_ok kb ?_
  refine rn1 (jn @hz (jn @z1 (jn @z2 (jn @z3 (jn @z4 (jn @z5 (jn @z6 @tA_allD))))))) ?_
  refine HO_callX ty_ok [0] k2 (tr_hand _ _ _ _ rfl) (tr_wf _ _) ?_
  rintro v r' ⟨rfl, rfl⟩ _
  refine rn1 (jn @tr.eq_1 @tpC.eq_1) ?_
  refine HO_lay 0 (ds := trP [lx1, lx2] [1, 0]) rfl rfl ?_
  simp only [fzL, fzA, List.set_cons_zero, ↓reduceIte, Nat.reduceEqDiff, List.drop_zero]
  refine HO_pureA ty_ok ka ?_
  refine rn0 ?_
  refine HO_pureA ty_ok km ?_
  refine rn1 (jn @hX0 (jn @hX1 @hXl)) ?_
  refine HO_pureA ty_ok ke ?_
  have hB : ((B.length : Nat) : Int) > 64 := by omega
  have hB2 : ((2 : Nat) : Int) = 2 := rfl
  have hB3 : X[4]? = some (.c (.int .i64 1)) := by
    have := congrArg (fun l => l[0]?) hX0
    simpa using this
  have hB4 : X[43]? = some (.c (.int .i64 2)) := by
    have := congrArg (fun l => l[0]?) hX1
    simpa using this
  exact rz1 (jn @hX0 (jn @hX1 (jn @hXl (jn @hB (jn @hB2 (jn @hB3 @hB4))))))
end Go.Proofs.YtdbicadncccpoaaGreat

set_option linter.unusedVariables false
set_option linter.unusedSimpArgs false
set_option maxRecDepth 100000
namespace Go.Proofs.YtdbicadncccpoaaGreat
open Go Go.ChangeShapes Go.WideShapes
def OpensF (P : Program) (fs : List Field) (off : Nat) {α : Type} (en : α → List D) (ms : α → Nat) (ok : α → Prop) : Prop :=
  ∀ (H : Type) (enc : TypeId × Value → H) (W : World) (n : Nat) (cs : List Value) (ys : List (DataW H × List MemPlace)), ys.length = fs.length →
    (∀ (i : Nat) f, fs[i]? = some f → ∃ y, ys[i]? = some y ∧ DataW.trod enc P W 0 (fun _ => true) true n f.type ((cs.drop f.offset).take (P.cellsOf f.type)) = some y) →
    (∀ k ∈ DataW.weightsEach P (fs.map (·.type)) (ys.map (·.1)), k ≤ reachBytes) →
    ∃ a, ok a ∧ RL (oldT W) W (en a) ((cs.drop off).take (en a).length) ∧ ms a ≤ bkAll (ys.map (·.1))
theorem opensF_nil (P : Program) (off : Nat) : OpensF P [] off (fun _ : Unit => []) (fun _ => 0) (fun _ => True) := by
  intro H enc W n cs ys hl _ _
  refine ⟨(), trivial, by simp [RL], Nat.zero_le _⟩
theorem opensF_cons {P : Program} {f : Field} {fs : List Field} {off sz : Nat} {α β : Type} {en1 : α → List D} {ms1 : α → Nat} {ok1 : α → Prop} {en2 : β → List D} {ms2 : β → Nat} {ok2 : β → Prop} (hoff : f.offset = off) (hsz : P.cellsOf f.type = sz)
    (hen : ∀ a, ok1 a → (en1 a).length = sz) (h1 : Opens P f.type en1 ms1 ok1) (h2 : OpensF P fs (off + sz) en2 ms2 ok2) :
    OpensF P (f :: fs) off (fun a : α × β => en1 a.1 ++ en2 a.2) (fun a => ms1 a.1 + ms2 a.2) (fun a => ok1 a.1 ∧ ok2 a.2) := by
  intro H enc W n cs ys hl hall hw
  match ys, hl with
  | y :: ys, hl =>
    obtain ⟨y', hy, ht⟩ := hall 0 f rfl
    have hy' : y = y' := by simpa using hy
    subst hy'
    simp only [List.map_cons, DataW.weightsEach, List.mem_append] at hw
    obtain ⟨a, o1, r1, b1⟩ := h1 H enc W n _ y ht (fun k hk => hw k (.inl hk))
    obtain ⟨b, o2, r2, b2⟩ := h2 H enc W n cs ys (by simpa using hl) (fun i g hg => by simpa using hall (i + 1) g (by simpa using hg)) (fun k hk => hw k (.inr hk))
    refine ⟨(a, b), ⟨o1, o2⟩, ?_, by simp only [List.map_cons, bkAll]; omega⟩
    simp only [List.length_append]
    rw [List.take_add, hen a o1, List.drop_drop]
    rw [hoff, hsz] at r1
    exact RL_append _ _ _ _ r1 r2
theorem opens_struct {P : Program} {t : TypeId} {fs : Array Field} {m : Nat} {α : Type} {en : α → List D} {ms : α → Nat} {ok : α → Prop} (ht : P.underlying t = some (.struct fs)) (hm : P.cellsOf t = m) (hen : ∀ a, ok a → (en a).length = m)
    (h : OpensF P fs.toList 0 en ms ok) : Opens P t en (fun a => ms a + 1) ok := by
  intro H enc W fuel cs x hx hw
  obtain ⟨xs, n, _, rfl, hl, hlen, hf⟩ := DataW.trod_struct ht hx
  obtain ⟨a, h1, h2, h3⟩ := h H enc W n cs xs (by simpa using hlen) (fun i f hf' => by
    have h1 := hf i f (by simpa using hf')
    have hi : i < xs.length := by
      have := (List.getElem?_eq_some_iff.1 hf').1
      simp at this; omega
    exact ⟨xs[i], List.getElem?_eq_getElem hi, by rw [h1, List.getElem?_eq_getElem hi]⟩) (fun k hk => hw k (by simpa [DataW.weights, ht] using hk))
  refine ⟨a, h1, ?_, by simp only [bk]; omega⟩
  rw [List.drop_zero, hen a h1, List.take_of_length_le (by omega)] at h2
  exact h2
theorem opensF_c {P : Program} {f : Field} {fs : List Field} {off sz : Nat} {α β : Type} {en1 : α → List D} {ms1 : α → Nat} {ok1 : α → Prop} {en2 : β → List D} {ms2 : β → Nat} {ok2 : β → Prop} (h1 : Opens P f.type en1 ms1 ok1) (h2 : OpensF P fs (off + sz) en2 ms2 ok2) (hoff : f.offset = off) (hsz : P.cellsOf f.type = sz)
    (hen : ∀ a, ok1 a → (en1 a).length = sz) : OpensF P (f :: fs) off (fun a : α × β => en1 a.1 ++ en2 a.2) (fun a => ms1 a.1 + ms2 a.2) (fun a => ok1 a.1 ∧ ok2 a.2) := opensF_cons hoff hsz hen h1 h2
end Go.Proofs.YtdbicadncccpoaaGreat

set_option linter.unusedVariables false
set_option linter.unusedSimpArgs false
set_option maxRecDepth 100000
namespace Go.Proofs.YtdbicadncccpoaaGreat
open Go Go.ChangeShapes Go.WideShapes
theorem hRB : reachBytes = 140737488351232 := rfl
def okCs (c : Cst) : Prop := okC c ∧ c.s.size ≤ reachBytes
def okFct (f : Fct) : Prop := (f.a.size ≤ reachBytes ∧ f.b.size ≤ reachBytes ∧ f.p.size ≤ reachBytes) ∧ f.l.length * 32 ≤ reachBytes ∧ ∀ c ∈ f.l, okCs c
theorem o_int {t : TypeId} (h : Tryz.prog.underlying t = some (.int .i64)) : Opens Tryz.prog t (fun n : Int => [.c (.int .i64 n)]) (fun _ => 1) (fun n => IntKind.i64.min ≤ n ∧ n ≤ IntKind.i64.max) := opens_int h
theorem o_str : Opens Tryz.prog 9 (fun s : ByteArray => [.c (.string s)]) (fun s => s.size + 1) (fun s => s.size ≤ reachBytes) := opens_string (by kernel_rfl)
theorem o_boo : Opens Tryz.prog 4 (fun q : Bool => [.c (.bool q)]) (fun _ => 1) (fun _ => True) := opens_bool (by kernel_rfl)
theorem o_cst : Opens Tryz.prog 68 cstE (fun _ => 1) okCs := by
  have base := opens_struct (m := 3) Tryz.underlying68 (by kernel_rfl) (fun a _ => rfl) (opensF_c (sz := 1) o_boo (opensF_c (sz := 1) (o_int (t := 3) (by kernel_rfl)) (opensF_c (sz := 1) o_str (opensF_nil Tryz.prog 3) rfl (by kernel_rfl) (fun _ _ => rfl)) rfl (by kernel_rfl) (fun _ _ => rfl)) rfl (by kernel_rfl) (fun _ _ => rfl))
  exact base.mono (fun x => ⟨x.1, x.2.1, x.2.2.1⟩) (fun a _ => rfl) (fun a _ => by omega) (fun a h => ⟨h.2.1, h.2.2.1⟩)
theorem o_csts : Opens Tryz.prog 36 (fun l : List Cst => [.sl 3 l.length (flatE cstE l)]) (fun l => (l.map fun _ => 1).sum + 1) (fun l => l.length * 32 ≤ reachBytes ∧ ∀ c ∈ l, okCs c) :=
  opens_slice (e := 68) (by kernel_rfl) (by kernel_rfl) (by kernel_rfl) (fun a _ => rfl) o_cst
theorem o_fct : Opens Tryz.prog 38 fctE (fun _ => 1) okFct := by
  have base := opens_struct (m := 4) Tryz.underlying38 (by kernel_rfl) (fun a _ => rfl) (opensF_c (sz := 1) o_str (opensF_c (sz := 1) o_str (opensF_c (sz := 1) o_str (opensF_c (sz := 1) o_csts (opensF_nil Tryz.prog 4) rfl (by kernel_rfl) (fun _ _ => rfl)) rfl (by kernel_rfl) (fun _ _ => rfl)) rfl (by kernel_rfl) (fun _ _ => rfl)) rfl (by kernel_rfl) (fun _ _ => rfl))
  exact base.mono (fun x => ⟨x.1, x.2.1, x.2.2.1, x.2.2.2.1⟩) (fun a _ => rfl) (fun a _ => by omega) (fun a h => ⟨⟨h.1, h.2.1, h.2.2.1⟩, h.2.2.2.1⟩)
end Go.Proofs.YtdbicadncccpoaaGreat
