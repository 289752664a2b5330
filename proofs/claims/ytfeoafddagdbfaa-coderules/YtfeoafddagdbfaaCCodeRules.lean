import Derived.Test.YtfeoafddagdbfaaCCLive
import Derived.Test.YtfeoafddagdbfaaCSameR
import Derived.Test.YtfeoafddagdbfaaCCopy
import Derived.Test.YtfeoafddagdbfaaCWtR
set_option linter.unusedVariables false
set_option linter.unusedSimpArgs false
set_option maxRecDepth 100000
namespace Go.Proofs.Ytfeoafddagdbfaa
open Go Go.ChangeShapes Go.WideShapes
theorem encR_len {l : List Rul} (h : okRs l) : (encR l).1.length ≤ 18000000 := by
  unfold encR
  split
  · simp
  · rename_i h7
    split
    · rename_i ha
      have hall := List.all_eq_true.1 ha
      have := foldR_le l (leb (zig (l.length : Int))) (fun r hr => ⟨hall r hr, (h r hr).2⟩)
      have hb := leb_nat (n := l.length) (by omega)
      simp only
      omega
    · simp
set_option maxHeartbeats 1000000 in
theorem codeRules_ac (l : List Rul) (hl : l.length * 160 ≤ 140737488351232) (ho : ∀ r ∈ l, szRw r ∧ okRl r) (hs : ∀ r ∈ l, r.l.length * 48 ≤ 140737488351232 ∧ r.b.length * 136 ≤ 140737488351232 ∧ ∀ x ∈ r.b, x.l.length * 48 ≤ 140737488351232) :
    AC Try.prog noG 3 [.d (.sl 11 l.length (flatE rulE l))] [] (fun v r' => v = .d (.c (.bool true)) ∧ r' = []) := by
  refine AC.pure ?_ (by rintro v rfl; rfl)
  refine AC_of_R (N := 40) (res := [.tmp 2]) ty_ok Try.call3 Try.func3 rfl rfl rfl (Nat.le_of_ble_eq_true rfl) ?_
  have hw := wR_ac l 600 (by omega) (fun r h => (ho r h).1) (by decide) (by decide)
  have hor : okRs l := fun r h => ⟨(ho r h).1.1, (ho r h).2⟩
  have h1 := copy_ac l hl hs
  have h2 := enc_ac l hor (by omega)
  have h3 := renc_ac l hor (by omega)
  have hn := encR_len hor
  have h4 := like_ac l l (by omega) (by omega) (fun r h => (ho r h).1.1) (fun r h => (ho r h).1.1)
  rw [decide_eq_true rfl] at h4
  generalize encR l = t at *
  obtain ⟨c, e⟩ := t
  simp only [enV] at h2 h3 hn
  have sm := same_ac c c (by omega) (by omega)
  rw [decide_eq_true rfl] at sm
  refine rn0 ?_
  refine HO_callX ty_ok [] hw (trivial) rfl ?_
  rintro v r' ⟨⟨n, rfl⟩, rfl⟩ _
  by_cases g : n > 600
  · refine rn1 @g ?_
    refine HO_pureA ty_ok clive_ac ?_
    exact rz0
  refine rn1 @g ?_
  refine HO_pureA ty_ok h1 ?_
  refine rn0 ?_
  refine HO_pureA ty_ok h2 ?_
  refine rn0 ?_
  refine HO_pureA ty_ok h3 ?_
  refine rn0 ?_
  refine HO_pureA ty_ok sm ?_
  refine rn0 ?_
  refine HO_pureA ty_ok h4 ?_
  refine rn0 ?_
  refine HO_pureA ty_ok clive_ac ?_
  exact rz0
end Go.Proofs.Ytfeoafddagdbfaa
