import Derived.Test.YtfeoafddagdbfaaCLayR
import Derived.Test.YtfeoafddagdbfaaCRgtR
import Derived.Test.YtfeoafddagdbfaaCRdTs
set_option linter.unusedVariables false
set_option linter.unusedSimpArgs false
set_option maxRecDepth 100000
namespace Go.Proofs.Ytfeoafddagdbfaa
open Go Go.ChangeShapes Go.WideShapes
def repD (z : List D) : Nat → List D
  | 0 => []
  | n + 1 => z ++ repD z n
theorem repA_D (z : List D) : ∀ n, repA (z.map .d) n = (repD z n).map .d
  | 0 => rfl
  | n + 1 => by rw [repA, repD, List.map_append, repA_D z n]
def zLit : List D := [.c (.string ⟨#[]⟩), .c (.bool false), .c (.int .i64 0), .c (.string ⟨#[]⟩), .c (.string ⟨#[]⟩), .c (.slice none 0 0), .c (.string ⟨#[]⟩), .c (.bool false), .c (.int .i64 0), .c (.string ⟨#[]⟩)]
theorem lit_get {l : List Lit} {k : Nat} (h : k < l.length) (zs : List D) : ((flatE litE l ++ zs).map AV.d)[k * 10 + 5]? = some (.d (.sl 4 l[k].l.length (flatE trmE l[k].l))) := by
  have h1 := flatE_drop litE_len l k h
  have h2 := flatE_len litE_len l
  rw [List.getElem?_map, List.getElem?_append_left (by omega), ← List.getElem?_drop, h1]
  rfl
theorem set_get {l : List AV} {k : Nat} {x : AV} (h : l[k]? = some x) : l.set k x = l := by
  apply List.ext_getElem?
  intro j
  rw [List.getElem?_set]
  split
  · rename_i hj
    subst hj
    have := (List.getElem?_eq_some_iff.1 h).1
    rw [if_pos this, h]
  · rfl
def cpSt (l : List Rul) (i : Nat) : List (Nat × AV) := [(0, .d (.sl 11 l.length (flatE rulE l))), (3, .sl (.own 0) 11 i (flatE rulE (l.take i))), (4, .d (.c (.int .i64 i)))]
def cpRe (l : List Rul) (i : Nat) : Rs := [some (.tok (flatE rulE (l.take i)).length)]
def cpX (r : Rul) : List AV := (rulH r.h r.p r.l r.t).map .d ++ [.osl 3 0 10 r.b.length]
def cqSt (l : List Rul) (i k : Nat) : List (Nat × AV) := [(0, .d (.sl 11 l.length (flatE rulE l))), (3, .sl (.own 0) 11 i (flatE rulE (l.take i))), (4, .d (.c (.int .i64 i))), (5, .ptr 1 0), (6, .d (.c (.int .i64 k)))]
def cqRe (l : List Rul) (i : Nat) (r : Rul) (A : List AV) : Rs := [some (.tok (flatE rulE (l.take i)).length), some (.obj (cpX r)), none, some (.obj A)]
set_option maxHeartbeats 1000000 in
theorem copy_ac (l : List Rul) (hl : l.length * 160 ≤ 140737488351232) (hs : ∀ r ∈ l, r.l.length * 48 ≤ 140737488351232 ∧ r.b.length * 136 ≤ 140737488351232 ∧ ∀ x ∈ r.b, x.l.length * 48 ≤ 140737488351232) : AC Try.prog noG 12 [.d (.sl 11 l.length (flatE rulE l))] []
    (fun v r' => v = .d (.sl 11 l.length (flatE rulE l)) ∧ r' = []) := by
  refine AC.fit ?_
  refine AC_of_R (N := 52) (res := [.tmp 2]) tyL_ok Try.call12 Try.func12 rfl rfl rfl (Nat.le_of_ble_eq_true rfl) ?_
  refine rn0 ?_
  refine HC_loopR (cpSt l) (cpRe l) (fun i => i ≤ l.length) (fun i => l.length - i) 0 [0] [0] (by omega) ?_ ?_
  · exact ft1 (jn @cpSt.eq_1 (jn @cpRe.eq_1 (jn @List.take_zero.{0} @flatE_nil)))
  intro i hi1
  refine HC_of_R tyL_ok ?_
  by_cases hlt : i < l.length
  · have hi : (i : Int) < l.length := by omega
    have hd := flatE_drop rulE_len l i hlt
    have hle := flatE_len rulE_len l
    have hle2 := flatE_len rulE_len (l.take i)
    rw [List.length_take] at hle2
    have hsz := hs l[i] (List.getElem_mem hlt)
    have hsn : flatE rulE (l.take (i + 1)) = flatE rulE (l.take i) ++ rulE l[i] := by rw [List.take_succ_eq_append_getElem hlt, flatE_snoc]
    generalize l[i] = r at *
    simp only [rulE, List.cons_append, List.nil_append] at hd
    obtain ⟨z1, z2, z3⟩ := hsz
    have ha := flatE_len trmE_len r.l
    have hb := flatE_len litE_len r.b
    refine rn1 (jn @cpSt.eq_1 (jn @cpRe.eq_1 (jn @hi (jn @hd @hle)))) ?_
    (repeat (refine And.intro (by omega) ?_))
    refine HO_appB tyL_ok rfl (by kernel_rfl) rfl ?_
    refine rn0 ?_
    (repeat (refine And.intro (by omega) ?_))
    by_cases hm : r.b.length = 0
    · have hbn : r.b = [] := List.eq_nil_of_length_eq_zero hm
      refine HO_appB tyL_ok rfl (by kernel_rfl) rfl ?_
      refine rn0 ?_
      (repeat (refine And.intro (by omega) ?_))
      refine HC_loopR (fun _ : Unit => cqSt l i 0) (fun _ => [some (.tok (flatE rulE (l.take i)).length), some (.obj ((rulE r).map .d)), none, none]) (fun _ => True) (fun _ => 0) () [0, 1, 2, 3] [] trivial ?_ ?_
      · exact ft1 (jn @cqSt.eq_1 @rulE.eq_1)
      intro _ _
      refine HC_of_R tyL_ok ?_
      have h0 : ¬ ((0 : Nat) : Int) < r.b.length := by omega
      refine rn1 (jn @cqSt.eq_1 (jn @rulE.eq_1 @h0)) ?_
      (repeat (refine And.intro (by omega) ?_))
      refine HO_appB tyL_ok rfl (by kernel_rfl) rfl ?_
      refine rn0 ?_
      (repeat (refine And.intro (by omega) ?_))
      refine ⟨i + 1, by omega, by omega, [0], [], ?_⟩
      exact ft1 (jn @cpSt.eq_1 (jn @cpRe.eq_1 (jn @hsn @rulE.eq_1)))
    · refine HO_appO tyL_ok (m := r.b.length) (ys := flatE litE r.b) (e := 64) (zl := [.d (.c (.string ⟨#[]⟩)), .d (.c (.bool false)), .d (.c (.int .i64 0)), .d (.c (.string ⟨#[]⟩)), .d (.c (.string ⟨#[]⟩)), .d (.c (.slice none 0 0)), .d (.c (.string ⟨#[]⟩)), .d (.c (.bool false)), .d (.c (.int .i64 0)), .d (.c (.string ⟨#[]⟩))]) rfl (by simp only [ST]) (by simp only [ST]; rfl) (by simp only [ST]) (by simp only [ST]; rfl) (by simp only [ST]; rfl) (by simp only [ST]) (by simp only [ST]; decide) (by omega) (by omega) (by simp only [ST]; omega) (by kernel_rfl) fun kk => ?_
      have hz : repA [.d (.c (.string ⟨#[]⟩)), .d (.c (.bool false)), .d (.c (.int .i64 0)), .d (.c (.string ⟨#[]⟩)), .d (.c (.string ⟨#[]⟩)), .d (.c (.slice none 0 0)), .d (.c (.string ⟨#[]⟩)), .d (.c (.bool false)), .d (.c (.int .i64 0)), .d (.c (.string ⟨#[]⟩))] kk = (repD zLit kk).map .d := repA_D zLit kk
      rw [hz, ← List.map_append]
      obtain ⟨ds, hds⟩ : ∃ ds : List D, ds = flatE litE r.b ++ repD zLit kk := ⟨_, rfl⟩
      rw [← hds]
      refine rn0 ?_
      (repeat (refine And.intro (by omega) ?_))
      refine HC_loopR (cqSt l i) (fun _ => cqRe l i r (ds.map .d)) (fun k => k ≤ r.b.length) (fun k => r.b.length - k) 0 [0, 1, 2, 3] [] (by omega) ?_ ?_
      · exact ft1 (jn @cqSt.eq_1 (jn @cqRe.eq_1 (jn @cpX.eq_1 @rulH.eq_1)))
      intro k hk1
      by_cases hklt : k < r.b.length
      · refine HC_of_R tyL_ok ?_
        have hk : (k : Int) < r.b.length := by omega
        have hget := lit_get hklt (repD zLit kk)
        rw [← hds] at hget
        have hset := set_get hget
        have hdl := (List.getElem?_eq_some_iff.1 hget).1
        have hsz := z3 r.b[k] (List.getElem_mem hklt)
        generalize r.b[k] = x at *
        have hax := flatE_len trmE_len x.l
        refine rn1 (jn @cqSt.eq_1 (jn @cqRe.eq_1 (jn @cpX.eq_1 (jn @rulH.eq_1 @hk)))) ?_
        refine HC_of_HV mix ?_
        refine HV_split 1 10 (by decide) ?_ ?_
        · simp only [addAt]
          refine HV_order [] tyL_ok [0, 1, 2, 4, 5, 6, 7, 8, 9, 3, 10, 11, 12, 13] (by kernel_rfl) rfl _ rfl ?_
          simp only [opl_nil', opl_cons', oplC_some, List.getElem?_toArray, List.getElem?_cons_zero, List.getElem?_cons_succ]
          refine rn1 (jn @hk @hget) ?_
          (repeat (refine And.intro (by omega) ?_))
          refine HO_appD tyL_ok (v := .sl (.own 4) 4 x.l.length (flatE trmE x.l)) (z := .sl 4 x.l.length (flatE trmE x.l)) (r' := [some (.tok (flatE rulE (l.take i)).length), some (.obj (cpX r)), none, some (.obj (ds.map .d)), some (.tok (flatE trmE x.l).length)]) rfl ?_ rfl (by kernel_rfl) rfl ?_
          · skip
            refine rn1 (jn @cpX.eq_1 @rulH.eq_1) ?_
            exact chk_pos ⟨by omega, by omega⟩
          refine rn1 (jn @hset (jn @cpX.eq_1 @rulH.eq_1)) ?_
          (repeat (refine And.intro (by omega) ?_))
          refine ⟨k + 1, by omega, by omega, [0, 1, 2, 3], [], ?_⟩
          exact ft1 (jn @cqSt.eq_1 (jn @cqRe.eq_1 (jn @cpX.eq_1 @rulH.eq_1)))
        · simp only [addAt]
          refine HV_order [] tyL_ok [0, 2, 4, 5, 6, 7, 8, 9, 3, 10, 1, 11, 12, 13] (by kernel_rfl) rfl _ rfl ?_
          simp only [opl_nil', opl_cons', oplC_some, List.getElem?_toArray, List.getElem?_cons_zero, List.getElem?_cons_succ]
          refine rn1 (jn @hk @hget) ?_
          (repeat (refine And.intro (by omega) ?_))
          refine HO_appD tyL_ok (v := .sl (.own 4) 4 x.l.length (flatE trmE x.l)) (z := .sl 4 x.l.length (flatE trmE x.l)) (r' := [some (.tok (flatE rulE (l.take i)).length), some (.obj (cpX r)), none, some (.obj (ds.map .d)), some (.tok (flatE trmE x.l).length)]) rfl ?_ rfl (by kernel_rfl) rfl ?_
          · skip
            refine rn1 (jn @cpX.eq_1 @rulH.eq_1) ?_
            exact chk_pos ⟨by omega, by omega⟩
          refine rn1 (jn @hset (jn @cpX.eq_1 @rulH.eq_1)) ?_
          (repeat (refine And.intro (by omega) ?_))
          refine ⟨k + 1, by omega, by omega, [0, 1, 2, 3], [], ?_⟩
          exact ft1 (jn @cqSt.eq_1 (jn @cqRe.eq_1 (jn @cpX.eq_1 @rulH.eq_1)))
      · have hk : ¬ (k : Int) < r.b.length := by omega
        have hke : k = r.b.length := by omega
        have hall : allD (ds.map .d) = some ds := by
          have : ∀ l : List D, allD (l.map .d) = some l := by
            intro l
            induction l with
            | nil => rfl
            | cons a l ih => simp [allD, ih, toD]
          exact this ds
        have htk : (ds.drop 0).take (r.b.length * 10) = flatE litE r.b := by
          rw [List.drop_zero, hds, List.take_append_of_le_length (by omega), List.take_of_length_le (by omega)]
        have hpos : 0 < r.b.length := by omega
        refine HC_layR 3 rfl hall ?_
        simp only [cqSt, cqRe, cpX, rulH, fzL, fzR, fzRes, fzA, List.set_cons_zero, List.set_cons_succ, List.map_cons, List.map_nil, List.cons_append, List.nil_append, ↓reduceIte, Nat.reduceEqDiff, hpos, and_self, htk]
        refine HC_of_R tyL_ok ?_
        refine rn1 @hk ?_
        (repeat (refine And.intro (by omega) ?_))
        refine HO_appB tyL_ok rfl (by kernel_rfl) rfl ?_
        refine rn0 ?_
        (repeat (refine And.intro (by omega) ?_))
        refine ⟨i + 1, by omega, by omega, [0], [], ?_⟩
        exact ft1 (jn @cpSt.eq_1 (jn @cpRe.eq_1 (jn @hsn @rulE.eq_1)))
  · have hi : ¬ (i : Int) < l.length := by omega
    have hie : i = l.length := by omega
    subst hie
    have ht : l.take l.length = l := List.take_of_length_le (Nat.le_refl _)
    refine rn1 (jn @cpSt.eq_1 (jn @cpRe.eq_1 @hi)) ?_
    rw [ht]
    exact fv0 [] []
end Go.Proofs.Ytfeoafddagdbfaa
