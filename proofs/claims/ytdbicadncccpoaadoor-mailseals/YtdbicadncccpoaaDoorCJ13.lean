/- Parts of the proof: PSame, PWt, Head, Get. -/
import Derived.Test.YtdbicadncccpoaaDoorCJ12
import Derived.Test.YtdbicadncccpoaaDoorCJ9
import Derived.Test.YtdbicadncccpoaaDoorCJ10
import Derived.Test.YtdbicadncccpoaaDoorCJ8
set_option linter.unusedVariables false
set_option linter.unusedSimpArgs false
set_option maxRecDepth 100000
namespace Go.Proofs.YtdbicadncccpoaaDoor
open Go Go.ChangeShapes Go.WideShapes
end Go.Proofs.YtdbicadncccpoaaDoor

set_option linter.unusedVariables false
set_option linter.unusedSimpArgs false
set_option maxRecDepth 100000
namespace Go.Proofs.YtdbicadncccpoaaDoor
open Go Go.ChangeShapes Go.WideShapes
set_option maxHeartbeats 400000 in
theorem wP_ac (p : Pkt) (h1 : p.fr.size ≤ 140737488352000) (h2 : p.to.size ≤ 140737488352000) (hs : szF p.f) (ht : p.tg.length = 32) :
    AC Tryd.prog noG 7 [.d (.agg (pktE p))] [] (fun v r' => (∃ n : Int, v = .d (.c (.int .i64 n))) ∧ r' = []) := by
  refine AC.pure ?_ (by rintro v ⟨n, rfl⟩; rfl)
  refine AC_of_R (N := 18) (res := [.tmp 2]) ty_ok Tryd.call7 Tryd.func7 rfl rfl rfl (Nat.le_of_ble_eq_true rfl) ?_
  have hw := wF_ac [p.f] 200 (by simp) (by intro x hx; simp only [List.mem_cons, List.not_mem_nil, or_false] at hx; rw [hx]; exact hs) (by decide) (by decide)
  obtain ⟨fr, to, sq, ak, kd, ep, f, tg⟩ := p
  simp only at h1 h2 hw ht
  obtain ⟨t1, t2, t3, t4, t5, t6⟩ := tg32 tg ht
  refine rn1 (jn @pktE.eq_1 (jn @itE.eq_1 (jn @t1 (jn @t2 (jn @t3 (jn @t4 (jn @t5 (jn @t6 @tA_allD)))))))) ?_
  refine HC_plan [13] ty_ok mix (by kernel_rfl) ?_
  refine rn1 (jn @t1 (jn @t2 (jn @t3 (jn @t4 (jn @t5 (jn @t6 @tA_allD)))))) ?_
  refine HO_callX ty_ok [] hw (trivial) rfl ?_
  rintro v r' ⟨⟨n, rfl, _⟩, rfl⟩ _
  refine rn0 ?_
  exact ⟨_, rfl⟩
end Go.Proofs.YtdbicadncccpoaaDoor

set_option linter.unusedVariables false
set_option linter.unusedSimpArgs false
set_option maxRecDepth 100000
namespace Go.Proofs.YtdbicadncccpoaaDoor
open Go Go.ChangeShapes Go.WideShapes
end Go.Proofs.YtdbicadncccpoaaDoor

set_option linter.unusedVariables false
set_option linter.unusedSimpArgs false
set_option maxRecDepth 100000
namespace Go.Proofs.YtdbicadncccpoaaDoor
open Go Go.ChangeShapes Go.WideShapes
end Go.Proofs.YtdbicadncccpoaaDoor
