import Derived.Test.YthdjblfiiogmgaaCJ5
set_option linter.unusedVariables false
set_option linter.unusedSimpArgs false
set_option maxRecDepth 100000
namespace Go.Proofs.Ythdjblfiiogmgaa
open Go Go.ChangeShapes Go.WideShapes
/-! TableNone: a table that no call made has nothing. -/
def bnSt (i : Nat) : List (Nat × AV) := [(1, .ptr 0 0), (6, .agg [.d (.c (.pointer none)), .ptr 1 0]), (7, .d (.c (.int .i64 i)))]
def bnRe (f : Fct) : Rs := [some (.obj ((fctE f).map .d)), some (.obj [.d (.c (.slice none 0 0)), .d (.c (.int .i64 0))])]
set_option maxHeartbeats 1000000 in
theorem tableNone_ac (f : Fct) : AC Try.prog noG 11 [.d (.agg (fctE f))] [] (fun v r' => v = .d (.c (.bool true)) ∧ r' = []) := by
  refine AC.pure ?_ (by rintro v rfl; rfl)
  refine AC_of_R (N := 55) (res := [.tmp 2]) ty_ok Try.call11 Try.func11 rfl rfl rfl (Nat.le_of_ble_eq_true rfl) ?_
  refine rn1 @fctE.eq_1 ?_
  refine HC_loopR (fun i : Nat => bnSt i) (fun _ => bnRe f) (fun i => i ≤ 2) (fun i => 2 - i) 0 [0, 1] [] (by omega) ?_ ?_
  · exact ft1 (jn @bnSt.eq_1 (jn @bnRe.eq_1 @fctE.eq_1))
  intro i hi
  refine HC_of_R ty_ok ?_
  rcases (show i = 0 ∨ i = 1 ∨ i = 2 by omega) with rfl | rfl | rfl
  · skip
    have k1 := bputN_ac f
    have k2 := btakN_ac f
    have k3 := bhasN_ac f
    simp only [fctE] at k1 k2 k3
    have k9 := allFN_ac ⟨#[112]⟩ 0 ⟨false, 0, ⟨#[]⟩⟩
    simp only [cstE] at k9
    refine rn1 (jn @bnSt.eq_1 (jn @bnRe.eq_1 @fctE.eq_1)) ?_
    (repeat (refine And.intro (by omega) ?_))
    refine HO_callX ty_ok [] k1 (trivial) rfl ?_
    rintro v r' ⟨rfl, rfl⟩ _
    refine rn1 (jn @zb.eq_1 (jn @aAN.eq_1 (jn @aON.eq_1 (jn @bON.eq_1 @aFN.eq_1)))) ?_
    refine HO_callX ty_ok [] k2 (trivial) rfl ?_
    rintro v r' ⟨rfl, rfl⟩ _
    refine rn1 (jn @zb.eq_1 (jn @aAN.eq_1 (jn @aON.eq_1 (jn @bON.eq_1 @aFN.eq_1)))) ?_
    refine HO_callX ty_ok [] k3 (trivial) rfl ?_
    rintro v r' ⟨rfl, rfl⟩ _
    refine rn1 (jn @zb.eq_1 (jn @aAN.eq_1 (jn @aON.eq_1 (jn @bON.eq_1 @aFN.eq_1)))) ?_
    refine HO_callX ty_ok [] blenN_ac (trivial) rfl ?_
    rintro v r' ⟨rfl, rfl⟩ _
    refine rn1 (jn @zb.eq_1 (jn @aAN.eq_1 (jn @aON.eq_1 (jn @bON.eq_1 @aFN.eq_1)))) ?_
    refine HO_callX ty_ok [] bcloN_ac (trivial) rfl ?_
    rintro v r' ⟨rfl, rfl⟩ _
    refine rn1 (jn @zb.eq_1 (jn @aAN.eq_1 (jn @aON.eq_1 (jn @bON.eq_1 @aFN.eq_1)))) ?_
    refine HO_callX ty_ok [] allAN_ac (trivial) rfl ?_
    rintro v r' ⟨rfl, rfl⟩ _
    refine rn1 (jn @zb.eq_1 (jn @aAN.eq_1 (jn @aON.eq_1 (jn @bON.eq_1 @aFN.eq_1)))) ?_
    refine HO_call ty_ok [2, 3] (gathAN_ac (-1)) rfl rfl rfl (by kernel_rfl) (by decide) ⟨(by simp), (by repeat' (first | exact trivial | exact WeakA.refl _ | exact WeakA.toD rfl | exact WeakA.nilD _ | refine ⟨?_, ?_⟩)), rfl, (by repeat' (first | exact trivial | (intro y h; injection h with h; subst h; rfl) | (intro y h; cases h; done) | refine ⟨?_, ?_⟩)), rfl⟩ (by first | exact .inl rfl | exact .inr rfl) ?_
    rintro v r' ⟨rfl, rfl⟩ _
    refine rn1 (jn @zb.eq_1 (jn @aAN.eq_1 (jn @aON.eq_1 (jn @bON.eq_1 @aFN.eq_1)))) ?_
    refine HO_callX ty_ok [] (allON_ac ⟨#[]⟩ ⟨#[]⟩ ⟨#[]⟩) (trivial) rfl ?_
    rintro v r' ⟨rfl, rfl⟩ _
    refine rn1 (jn @zb.eq_1 (jn @aAN.eq_1 (jn @aON.eq_1 (jn @bON.eq_1 @aFN.eq_1)))) ?_
    refine HO_call ty_ok [4, 5, 6, 7, 8, 9] (gathON_ac ⟨#[]⟩ ⟨#[]⟩ ⟨#[]⟩ (-1)) rfl rfl rfl (by kernel_rfl) (by decide) ⟨(by simp), (by repeat' (first | exact trivial | exact WeakA.refl _ | exact WeakA.toD rfl | exact WeakA.nilD _ | refine ⟨?_, ?_⟩)), rfl, (by repeat' (first | exact trivial | (intro y h; injection h with h; subst h; rfl) | (intro y h; cases h; done) | refine ⟨?_, ?_⟩)), rfl⟩ (by first | exact .inl rfl | exact .inr rfl) ?_
    rintro v r' ⟨rfl, rfl⟩ _
    refine rn1 (jn @zb.eq_1 (jn @aAN.eq_1 (jn @aON.eq_1 (jn @bON.eq_1 @aFN.eq_1)))) ?_
    refine HO_callX ty_ok [] k9 (trivial) rfl ?_
    rintro v r' ⟨rfl, rfl⟩ _
    refine rn1 (jn @zb.eq_1 (jn @aAN.eq_1 (jn @aON.eq_1 (jn @bON.eq_1 @aFN.eq_1)))) ?_
    refine HO_call ty_ok [10, 11, 12, 13] (gathFN_ac ⟨#[112]⟩ 0 ⟨false, 0, ⟨#[]⟩⟩ (-1)) rfl rfl rfl (by kernel_rfl) (by decide) ⟨(by simp), (by repeat' (first | exact trivial | exact WeakA.refl _ | exact WeakA.toD rfl | exact WeakA.nilD _ | refine ⟨?_, ?_⟩)), rfl, (by repeat' (first | exact trivial | (intro y h; injection h with h; subst h; rfl) | (intro y h; cases h; done) | refine ⟨?_, ?_⟩)), rfl⟩ (by first | exact .inl rfl | exact .inr rfl) ?_
    rintro v r' ⟨rfl, rfl⟩ _
    refine rn1 (jn @zb.eq_1 (jn @aAN.eq_1 (jn @aON.eq_1 (jn @bON.eq_1 @aFN.eq_1)))) ?_
    (repeat (refine And.intro (by omega) ?_))
    refine ⟨1, by omega, by omega, [0, 1], [], ?_⟩
    exact ft1 (jn @bnSt.eq_1 (jn @bnRe.eq_1 @fctE.eq_1))
  · skip
    have k1 := bputZ_ac f
    have k2 := btakZ_ac f
    have k3 := bhasZ_ac f
    simp only [fctE] at k1 k2 k3
    have k9 := allFZ_ac ⟨#[112]⟩ 0 ⟨false, 0, ⟨#[]⟩⟩
    simp only [cstE] at k9
    refine rn1 (jn @bnSt.eq_1 (jn @bnRe.eq_1 @fctE.eq_1)) ?_
    (repeat (refine And.intro (by omega) ?_))
    refine HO_call ty_ok [1] k1 rfl rfl rfl (by kernel_rfl) (by decide) ⟨(by simp), (by repeat' (first | exact trivial | exact WeakA.refl _ | exact WeakA.toD rfl | exact WeakA.nilD _ | refine ⟨?_, ?_⟩)), rfl, (by repeat' (first | exact trivial | (intro y h; injection h with h; subst h; rfl) | (intro y h; cases h; done) | refine ⟨?_, ?_⟩)), rfl⟩ (by first | exact .inl rfl | exact .inr rfl) ?_
    rintro v r' ⟨rfl, rfl⟩ _
    refine rn1 (jn @zb.eq_1 (jn @aAZ.eq_1 (jn @aOZ.eq_1 (jn @bOZ.eq_1 @aFZ.eq_1)))) ?_
    refine HO_call ty_ok [1] k2 rfl rfl rfl (by kernel_rfl) (by decide) ⟨(by simp), (by repeat' (first | exact trivial | exact WeakA.refl _ | exact WeakA.toD rfl | exact WeakA.nilD _ | refine ⟨?_, ?_⟩)), rfl, (by repeat' (first | exact trivial | (intro y h; injection h with h; subst h; rfl) | (intro y h; cases h; done) | refine ⟨?_, ?_⟩)), rfl⟩ (by first | exact .inl rfl | exact .inr rfl) ?_
    rintro v r' ⟨rfl, rfl⟩ _
    refine rn1 (jn @zb.eq_1 (jn @aAZ.eq_1 (jn @aOZ.eq_1 (jn @bOZ.eq_1 @aFZ.eq_1)))) ?_
    refine HO_call ty_ok [1] k3 rfl rfl rfl (by kernel_rfl) (by decide) ⟨(by simp), (by repeat' (first | exact trivial | exact WeakA.refl _ | exact WeakA.toD rfl | exact WeakA.nilD _ | refine ⟨?_, ?_⟩)), rfl, (by repeat' (first | exact trivial | (intro y h; injection h with h; subst h; rfl) | (intro y h; cases h; done) | refine ⟨?_, ?_⟩)), rfl⟩ (by first | exact .inl rfl | exact .inr rfl) ?_
    rintro v r' ⟨rfl, rfl⟩ _
    refine rn1 (jn @zb.eq_1 (jn @aAZ.eq_1 (jn @aOZ.eq_1 (jn @bOZ.eq_1 @aFZ.eq_1)))) ?_
    refine HO_call ty_ok [1] blenZ_ac rfl rfl rfl (by kernel_rfl) (by decide) ⟨(by simp), (by repeat' (first | exact trivial | exact WeakA.refl _ | exact WeakA.toD rfl | exact WeakA.nilD _ | refine ⟨?_, ?_⟩)), rfl, (by repeat' (first | exact trivial | (intro y h; injection h with h; subst h; rfl) | (intro y h; cases h; done) | refine ⟨?_, ?_⟩)), rfl⟩ (by first | exact .inl rfl | exact .inr rfl) ?_
    rintro v r' ⟨rfl, rfl⟩ _
    refine rn1 (jn @zb.eq_1 (jn @aAZ.eq_1 (jn @aOZ.eq_1 (jn @bOZ.eq_1 @aFZ.eq_1)))) ?_
    refine HO_call ty_ok [1] bcloZ_ac rfl rfl rfl (by kernel_rfl) (by decide) ⟨(by simp), (by repeat' (first | exact trivial | exact WeakA.refl _ | exact WeakA.toD rfl | exact WeakA.nilD _ | refine ⟨?_, ?_⟩)), rfl, (by repeat' (first | exact trivial | (intro y h; injection h with h; subst h; rfl) | (intro y h; cases h; done) | refine ⟨?_, ?_⟩)), rfl⟩ (by first | exact .inl rfl | exact .inr rfl) ?_
    rintro v r' ⟨rfl, rfl⟩ _
    refine rn1 (jn @zb.eq_1 (jn @aAZ.eq_1 (jn @aOZ.eq_1 (jn @bOZ.eq_1 @aFZ.eq_1)))) ?_
    refine HO_call ty_ok [1] allAZ_ac rfl rfl rfl (by kernel_rfl) (by decide) ⟨(by simp), (by repeat' (first | exact trivial | exact WeakA.refl _ | exact WeakA.toD rfl | exact WeakA.nilD _ | refine ⟨?_, ?_⟩)), rfl, (by repeat' (first | exact trivial | (intro y h; injection h with h; subst h; rfl) | (intro y h; cases h; done) | refine ⟨?_, ?_⟩)), rfl⟩ (by first | exact .inl rfl | exact .inr rfl) ?_
    rintro v r' ⟨rfl, rfl⟩ _
    refine rn1 (jn @zb.eq_1 (jn @aAZ.eq_1 (jn @aOZ.eq_1 (jn @bOZ.eq_1 @aFZ.eq_1)))) ?_
    refine HO_call ty_ok [1, 2, 3] (gathAZ_ac (-1)) rfl rfl rfl (by kernel_rfl) (by decide) ⟨(by simp), (by repeat' (first | exact trivial | exact WeakA.refl _ | exact WeakA.toD rfl | exact WeakA.nilD _ | refine ⟨?_, ?_⟩)), rfl, (by repeat' (first | exact trivial | (intro y h; injection h with h; subst h; rfl) | (intro y h; cases h; done) | refine ⟨?_, ?_⟩)), rfl⟩ (by first | exact .inl rfl | exact .inr rfl) ?_
    rintro v r' ⟨rfl, rfl⟩ _
    refine rn1 (jn @zb.eq_1 (jn @aAZ.eq_1 (jn @aOZ.eq_1 (jn @bOZ.eq_1 @aFZ.eq_1)))) ?_
    refine HO_call ty_ok [1] (allOZ_ac ⟨#[]⟩ ⟨#[]⟩ ⟨#[]⟩) rfl rfl rfl (by kernel_rfl) (by decide) ⟨(by simp), (by repeat' (first | exact trivial | exact WeakA.refl _ | exact WeakA.toD rfl | exact WeakA.nilD _ | refine ⟨?_, ?_⟩)), rfl, (by repeat' (first | exact trivial | (intro y h; injection h with h; subst h; rfl) | (intro y h; cases h; done) | refine ⟨?_, ?_⟩)), rfl⟩ (by first | exact .inl rfl | exact .inr rfl) ?_
    rintro v r' ⟨rfl, rfl⟩ _
    refine rn1 (jn @zb.eq_1 (jn @aAZ.eq_1 (jn @aOZ.eq_1 (jn @bOZ.eq_1 @aFZ.eq_1)))) ?_
    refine HO_call ty_ok [1, 4, 5, 6, 7, 8, 9] (gathOZ_ac ⟨#[]⟩ ⟨#[]⟩ ⟨#[]⟩ (-1)) rfl rfl rfl (by kernel_rfl) (by decide) ⟨(by simp), (by repeat' (first | exact trivial | exact WeakA.refl _ | exact WeakA.toD rfl | exact WeakA.nilD _ | refine ⟨?_, ?_⟩)), rfl, (by repeat' (first | exact trivial | (intro y h; injection h with h; subst h; rfl) | (intro y h; cases h; done) | refine ⟨?_, ?_⟩)), rfl⟩ (by first | exact .inl rfl | exact .inr rfl) ?_
    rintro v r' ⟨rfl, rfl⟩ _
    refine rn1 (jn @zb.eq_1 (jn @aAZ.eq_1 (jn @aOZ.eq_1 (jn @bOZ.eq_1 @aFZ.eq_1)))) ?_
    refine HO_call ty_ok [1] k9 rfl rfl rfl (by kernel_rfl) (by decide) ⟨(by simp), (by repeat' (first | exact trivial | exact WeakA.refl _ | exact WeakA.toD rfl | exact WeakA.nilD _ | refine ⟨?_, ?_⟩)), rfl, (by repeat' (first | exact trivial | (intro y h; injection h with h; subst h; rfl) | (intro y h; cases h; done) | refine ⟨?_, ?_⟩)), rfl⟩ (by first | exact .inl rfl | exact .inr rfl) ?_
    rintro v r' ⟨rfl, rfl⟩ _
    refine rn1 (jn @zb.eq_1 (jn @aAZ.eq_1 (jn @aOZ.eq_1 (jn @bOZ.eq_1 @aFZ.eq_1)))) ?_
    refine HO_call ty_ok [1, 10, 11, 12, 13] (gathFZ_ac ⟨#[112]⟩ 0 ⟨false, 0, ⟨#[]⟩⟩ (-1)) rfl rfl rfl (by kernel_rfl) (by decide) ⟨(by simp), (by repeat' (first | exact trivial | exact WeakA.refl _ | exact WeakA.toD rfl | exact WeakA.nilD _ | refine ⟨?_, ?_⟩)), rfl, (by repeat' (first | exact trivial | (intro y h; injection h with h; subst h; rfl) | (intro y h; cases h; done) | refine ⟨?_, ?_⟩)), rfl⟩ (by first | exact .inl rfl | exact .inr rfl) ?_
    rintro v r' ⟨rfl, rfl⟩ _
    refine rn1 (jn @zb.eq_1 (jn @aAZ.eq_1 (jn @aOZ.eq_1 (jn @bOZ.eq_1 @aFZ.eq_1)))) ?_
    (repeat (refine And.intro (by omega) ?_))
    refine ⟨2, by omega, by omega, [0, 1], [], ?_⟩
    exact ft1 (jn @bnSt.eq_1 (jn @bnRe.eq_1 @fctE.eq_1))
  · refine rn1 (jn @bnSt.eq_1 (jn @bnRe.eq_1 @fctE.eq_1)) ?_
    refine HO_pureA ty_ok blive_ac ?_
    exact rz0
end Go.Proofs.Ythdjblfiiogmgaa
