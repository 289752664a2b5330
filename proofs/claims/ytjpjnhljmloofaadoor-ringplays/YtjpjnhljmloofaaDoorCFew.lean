import Derived.Test.YtjpjnhljmloofaaDoorCRingLive
import Derived.Test.YtjpjnhljmloofaaDoorCOpenAct
set_option linter.unusedVariables false
set_option linter.unusedSimpArgs false
set_option maxRecDepth 100000
namespace Go.Proofs.YtjpjnhljmloofaaDoor
open Go Go.ChangeShapes Go.WideShapes
def aw (a : ActT) : Int := ((a.b.length : Int) + a.t.length + a.dom.size) / 40
def fewG : Int → List ActT → Bool
  | _, [] => true
  | n, a :: r => if 200 < n + (1 + aw a) then false else fewG (n + (1 + aw a)) r
def actL (l : List ActT) : List D := l.flatMap actE
theorem actL_len : ∀ l : List ActT, (actL l).length = 5 * l.length
  | [] => rfl
  | a :: l => by
    rw [actL, List.flatMap_cons, List.length_append, List.length_cons]
    have := actL_len l
    rw [actL] at this
    rw [this]; simp only [actE, List.length_cons, List.length_nil]; omega
theorem actL_drop : ∀ (l : List ActT) (i : Nat) (h : i < l.length), (actL l).drop (i * 5) = actE l[i] ++ actL (l.drop (i + 1))
  | a :: l, 0, h => by simp [actL]
  | a :: l, i + 1, h => by
    have := actL_drop l i (by simpa using h)
    have e : actL (a :: l) = actE a ++ actL l := by rw [actL, List.flatMap_cons]; rfl
    have h5 : (actE a).length = 5 := rfl
    rw [e, Nat.succ_mul, Nat.add_comm (i * 5) 5, ← List.drop_drop]
    simp only [List.getElem_cons_succ, List.drop_succ_cons]
    have e5 : (actE a ++ actL l).drop 5 = actL l := by rw [← h5, List.drop_left]
    rw [e5, this]
def fwSt (l : List ActT) (i : Nat × Int) : List (Nat × AV) := [(0, .d (.sl 5 l.length (actL l))), (2, .d (.c (.bool false))), (3, .d (.c (.int .i64 i.2))), (4, .d (.c (.int .i64 i.1)))]
set_option maxHeartbeats 400000 in
theorem few_ac (l : List ActT) (hl : ∀ a ∈ l, a.b.length ≤ 140737488352000 ∧ a.t.length ≤ 140737488352000 ∧ a.dom.size ≤ 140737488352000) (hn : l.length ≤ 140737488352000) :
    AC Tryd.prog noG 28 [.d (.sl 5 l.length (actL l))] [] (fun v r' => v = .d (.c (.bool (fewG 0 l))) ∧ r' = []) := by
  refine AC.pure ?_ (by rintro v rfl; rfl)
  refine AC_of_R (N := 37) (res := [.tmp 2]) ty_ok Tryd.call28 Tryd.func28 rfl rfl rfl (Nat.le_of_ble_eq_true rfl) ?_
  refine rn0 ?_
  refine HC_loopR (fwSt l) (fun _ => []) (fun i => i.1 ≤ l.length ∧ (0 ≤ i.2 ∧ i.2 ≤ 200) ∧ fewG i.2 (l.drop i.1) = fewG 0 l) (fun i => l.length - i.1) (0, 0) [] [] ⟨by simp, by decide, by simp⟩ ?_ ?_
  · exact ft1 @fwSt.eq_1
  intro ⟨i, n⟩ ⟨h1, h2, h3⟩
  simp only at h1 h2 h3
  refine HC_of_R ty_ok ?_
  by_cases hlt : i < l.length
  · have hi : (i : Int) < l.length := by omega
    have hd := actL_drop l i hlt
    have hb := hl l[i] (List.getElem_mem hlt)
    rw [List.drop_eq_getElem_cons hlt, fewG] at h3
    generalize l[i] = a at *
    simp only [actE, List.cons_append, List.nil_append] at hd
    have haw : aw a = ((a.b.length : Int) + a.t.length + a.dom.size) / 40 := rfl
    have hle := actL_len l
    refine rn1 (jn @fwSt.eq_1 @hi) ?_
    refine HC_plan [] ty_ok mix (by kernel_rfl) ?_
    refine rn1 (jn @hd @hle) ?_
    refine ⟨⟨by omega, by omega⟩, ⟨by omega, by omega⟩, ⟨by omega, by omega⟩, fun h => ?_, fun h => ?_⟩
    · rw [← h3, if_pos (by rw [haw]; exact h)]
    · refine ⟨(i + 1, n + (1 + aw a)), ⟨by simp only; omega, by simp only; omega, ?_⟩, by simp only; omega, [], [], ?_⟩
      · rw [← h3, if_neg (by rw [haw]; exact h)]
      · rw [haw]
        exact ft1 @fwSt.eq_1
  · have hi : ¬ (i : Int) < l.length := by omega
    rw [List.drop_of_length_le (by omega), fewG] at h3
    rw [← h3]
    exact rz1 (jn @fwSt.eq_1 @hi)
end Go.Proofs.YtjpjnhljmloofaaDoor
