/- Parts of the proof: RGet, MailLive, MailPuts. -/
import Derived.Test.YtdbicadncccpoaaDoorCJ13
import Derived.Test.YtdbicadncccpoaaDoorCJ12
import Derived.Test.YtdbicadncccpoaaDoorCJ9
import Derived.Test.YtdbicadncccpoaaDoorCJ2
import Derived.Test.YtdbicadncccpoaaDoorCJ1
set_option linter.unusedVariables false
set_option linter.unusedSimpArgs false
set_option maxRecDepth 100000
namespace Go.Proofs.YtdbicadncccpoaaDoor
open Go Go.ChangeShapes Go.WideShapes
end Go.Proofs.YtdbicadncccpoaaDoor

set_option linter.unusedVariables false
set_option linter.unusedSimpArgs false
set_option maxRecDepth 100000
namespace Go.Proofs.YtdbicadncccpoaaDoor
open Go Go.ChangeShapes Go.WideShapes
def lp1 : Pkt := ⟨⟨#[97]⟩, ⟨#[98]⟩, 0, 3, 0, 0, zF, tg0⟩
def lp2 : Pkt := ⟨⟨#[97]⟩, ⟨#[98]⟩, 1, 0, 0, 0, zF, tg0⟩
theorem lp1_put : putX lp1 = [2, 97, 2, 98, 0, 6, 0] := by decide +kernel
theorem lp1_e : putE lp1 = 0 := by decide +kernel
theorem lp2_put : putX lp2 = [] := by decide +kernel
theorem lp2_e : putE lp2 = 2 := by decide +kernel
theorem lp1_ok : okP lp1 := ⟨by decide, by decide, by decide, by decide, by simp [lp1, zF, okF], rfl⟩
theorem lp2_ok : okP lp2 := ⟨by decide, by decide, by decide, by decide, by simp [lp2, zF, okF], rfl⟩
theorem putX_len (p : Pkt) (ho : okP p) : (putX p).length ≤ 300000 := by
  cases hm : mayB p with
  | false => rw [putX, hm]; simp
  | true =>
    rw [putX, hm, if_pos rfl]
    obtain ⟨⟨m1, m2, _⟩, _, _, m5⟩ := may_parts hm
    have m1 := txtOK_size m1
    have m2 := txtOK_size m2
    obtain ⟨o1, o2, o3, o4, o5, o6⟩ := ho
    have l1 := putTx_le [] p.fr (by omega)
    rw [List.length_nil] at l1
    have l2 := putTx_le (putTx [] p.fr) p.to (by omega)
    have l3 := putI_le (putTx (putTx [] p.fr) p.to) p.sq o1.1 o1.2
    have l4 := putI_le (putI (putTx (putTx [] p.fr) p.to) p.sq) p.ak o2.1 o2.2
    have l5 := putI_le (putI (putI (putTx (putTx [] p.fr) p.to) p.sq) p.ak) p.kd o3.1 o3.2
    have l6 := putI_le (putI (putI (putI (putTx (putTx [] p.fr) p.to) p.sq) p.ak) p.kd) p.ep o4.1 o4.2
    rw [putP]
    split
    · omega
    · split
      · rename_i c2
        have l7 := putF_le (b := putI (putI (putI (putI (putTx (putTx [] p.fr) p.to) p.sq) p.ak) p.kd) p.ep) o5 (m5 c2)
        rw [List.length_append, o6]; omega
      · omega
set_option maxHeartbeats 400000 in
theorem mlive_ac : AC Tryd.prog noG 8 [] [] (fun v r' => v = .d (.c (.bool true)) ∧ r' = []) := by
  refine AC.pure ?_ (by rintro v rfl; rfl)
  refine AC_of_R (N := 28) (res := [.tmp 0]) ty_ok Tryd.call8 Tryd.func8 rfl rfl rfl (Nat.le_of_ble_eq_true rfl) ?_
  have hz : ([UInt8.ofNat 0, UInt8.ofNat 0, UInt8.ofNat 0, UInt8.ofNat 0, UInt8.ofNat 0, UInt8.ofNat 0, UInt8.ofNat 0, UInt8.ofNat 0, UInt8.ofNat 0, UInt8.ofNat 0, UInt8.ofNat 0, UInt8.ofNat 0, UInt8.ofNat 0, UInt8.ofNat 0, UInt8.ofNat 0, UInt8.ofNat 0, UInt8.ofNat 0, UInt8.ofNat 0, UInt8.ofNat 0, UInt8.ofNat 0, UInt8.ofNat 0, UInt8.ofNat 0, UInt8.ofNat 0, UInt8.ofNat 0, UInt8.ofNat 0, UInt8.ofNat 0, UInt8.ofNat 0, UInt8.ofNat 0, UInt8.ofNat 0, UInt8.ofNat 0, UInt8.ofNat 0, UInt8.ofNat 0] : List UInt8) = tg0 := rfl
  obtain ⟨z1, z2, z3, z4, z5, z6⟩ := tg32 tg0 rfl
  have k1 := put_ac lp1 (by decide) lp1_ok
  have k2 := put_ac lp2 (by decide) lp2_ok
  rw [ptV, lp1_put, lp1_e] at k1
  rw [ptV, lp2_put, lp2_e] at k2
  simp only [lp1, lp2, pktE, itE, zF, flatE_nil, List.length_nil, List.cons_append, List.nil_append] at k1 k2
  refine rn1 (jn @hz (jn @z1 (jn @z2 (jn @z3 (jn @z4 (jn @z5 (jn @z6 @tA_allD))))))) ?_
  refine HO_pure ty_ok (k1) rfl rfl rfl (by kernel_rfl) (fun _ => rfl) (fun _ => rfl) rfl (by repeat' (first | exact trivial | exact WeakA.refl _ | exact WeakA.toD rfl | exact WeakA.nilD _ | exact WeakA.nils rfl (by repeat' (first | exact trivial | exact .inl rfl | exact .inr ⟨rfl, _, rfl⟩ | refine ⟨?_, ?_⟩)) | refine ⟨?_, ?_⟩)) ?_
  refine rn1 (jn @hz (jn @z1 (jn @z2 (jn @z3 (jn @z4 (jn @z5 (jn @z6 @tA_allD))))))) ?_
  refine HO_pure ty_ok (k2) rfl rfl rfl (by kernel_rfl) (fun _ => rfl) (fun _ => rfl) rfl (by repeat' (first | exact trivial | exact WeakA.refl _ | exact WeakA.toD rfl | exact WeakA.nilD _ | exact WeakA.nils rfl (by repeat' (first | exact trivial | exact .inl rfl | exact .inr ⟨rfl, _, rfl⟩ | refine ⟨?_, ?_⟩)) | refine ⟨?_, ?_⟩)) ?_
  refine rn0 ?_
  refine HO_pureA ty_ok (same_ac [2, 97, 2, 98, 0, 6, 0] [2, 97, 2, 98, 0, 6, 0] (by decide) (by decide)) ?_
  exact rz0
end Go.Proofs.YtdbicadncccpoaaDoor

set_option linter.unusedVariables false
set_option linter.unusedSimpArgs false
set_option maxRecDepth 100000
namespace Go.Proofs.YtdbicadncccpoaaDoor
open Go Go.ChangeShapes Go.WideShapes
theorem getK_small {b : List UInt8} {s1 s2 : ByteArray} {n1 n2 n3 k nx : Int} {p : Pkt} (h : getC.getK b s1 s2 n1 n2 n3 k = some (p, nx)) : p.f.l.length ≤ 48 := by
  unfold getC.getK at h
  split at h
  · simp only [Option.some.injEq, Prod.mk.injEq] at h
    obtain ⟨rfl, rfl⟩ := h
    simp [zF]
  · split at h
    · split at h
      · split at h
        · simp only [Option.some.injEq, Prod.mk.injEq] at h
          obtain ⟨rfl, rfl⟩ := h
          exact rdF_len
        · simp at h
      · simp only [Option.some.injEq, Prod.mk.injEq] at h
        obtain ⟨rfl, rfl⟩ := h
        simp [zF]
    · simp at h
theorem getP_small (b : List UInt8) : (getP b).1.f.l.length ≤ 48 ∧ okP (getP b).1 ∧ (getP b).1.fr.size ≤ 65536 ∧ (getP b).1.to.size ≤ 65536 := by
  have hz : (zP.f.l.length ≤ 48 ∧ okP zP ∧ zP.fr.size ≤ 65536 ∧ zP.to.size ≤ 65536) := ⟨by decide, ⟨by decide, by decide, by decide, by decide, by simp [zP, zF, okF], rfl⟩, by decide, by decide⟩
  unfold getP
  rcases hg : getC b with _ | ⟨p, k⟩
  · exact hz
  · simp only
    split
    · obtain ⟨h1, h2, h3, _⟩ := getC_at hg
      unfold getC at hg
      split at hg
      · exact ⟨getK_small hg, h1, h2, h3⟩
      · simp at hg
    · exact hz
def szPk (p : Pkt) : Prop := p.fr.size ≤ 140737488352000 ∧ p.to.size ≤ 140737488352000 ∧ szF p.f
end Go.Proofs.YtdbicadncccpoaaDoor
