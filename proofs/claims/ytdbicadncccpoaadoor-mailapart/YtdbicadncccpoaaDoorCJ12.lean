/- Parts of the proof: RItem, May, RPut, Put. -/
import Derived.Test.YtdbicadncccpoaaDoorCJ11
import Derived.Test.YtdbicadncccpoaaDoorCJ10
set_option linter.unusedVariables false
set_option linter.unusedSimpArgs false
set_option maxRecDepth 100000
namespace Go.Proofs.YtdbicadncccpoaaDoor
open Go Go.ChangeShapes Go.WideShapes
def blB (f : Fct) (tg : List UInt8) : Bool := noF f && decide (tg = tg0)
set_option maxHeartbeats 400000 in
theorem rblank_ac (kd ep : Int) (f : Fct) (tg : List UInt8) (hf : f.l.length ≤ 140737488352000) (ht : tg.length = 32) :
    AC Tryd.prog noG 89 [.d (.agg (itE kd ep f tg))] [] (fun v r' => v = .d (.c (.bool (blB f tg))) ∧ r' = []) := by
  refine AC.pure ?_ (by rintro v rfl; rfl)
  refine AC_of_R (N := 31) (res := [.tmp 2]) ty_ok Tryd.call89 Tryd.func89 rfl rfl rfl (Nat.le_of_ble_eq_true rfl) ?_
  obtain ⟨a, b, p, l⟩ := f
  obtain ⟨t1, t2, t3, t4, t5, t6⟩ := tg32 tg ht
  have hz : ([UInt8.ofNat 0, UInt8.ofNat 0, UInt8.ofNat 0, UInt8.ofNat 0, UInt8.ofNat 0, UInt8.ofNat 0, UInt8.ofNat 0, UInt8.ofNat 0, UInt8.ofNat 0, UInt8.ofNat 0, UInt8.ofNat 0, UInt8.ofNat 0, UInt8.ofNat 0, UInt8.ofNat 0, UInt8.ofNat 0, UInt8.ofNat 0, UInt8.ofNat 0, UInt8.ofNat 0, UInt8.ofNat 0, UInt8.ofNat 0, UInt8.ofNat 0, UInt8.ofNat 0, UInt8.ofNat 0, UInt8.ofNat 0, UInt8.ofNat 0, UInt8.ofNat 0, UInt8.ofNat 0, UInt8.ofNat 0, UInt8.ofNat 0, UInt8.ofNat 0, UInt8.ofNat 0, UInt8.ofNat 0] : List UInt8) = tg0 := rfl
  by_cases h1 : a = ⟨#[]⟩
  · by_cases h2 : b = ⟨#[]⟩
    · by_cases h3 : p = ⟨#[]⟩
      · by_cases h4 : l.length = 0
        · have g4 : (l.length : Int) = 0 := by omega
          have e : noF ⟨a, b, p, l⟩ = true := by simp [noF, h1, h2, h3, h4]
          rw [blB, e, Bool.true_and]
          exact rz1 (jn @itE.eq_1 (jn @t1 (jn @t2 (jn @t3 (jn @t4 (jn @t5 (jn @t6 (jn @hz (jn @tA_allD (jn @tg0_len (jn @h1 (jn @h2 (jn @h3 @g4)))))))))))))
        · have g4 : ¬ (l.length : Int) = 0 := by omega
          have e : noF ⟨a, b, p, l⟩ = false := by simp [noF, h1, h2, h3, h4]
          rw [blB, e, Bool.false_and]
          exact rz1 (jn @itE.eq_1 (jn @t1 (jn @t2 (jn @t3 (jn @t4 (jn @t5 (jn @t6 (jn @h1 (jn @h2 (jn @h3 @g4))))))))))
      · have e : noF ⟨a, b, p, l⟩ = false := by simp [noF, h1, h2, h3]
        rw [blB, e, Bool.false_and]
        exact rz1 (jn @itE.eq_1 (jn @t1 (jn @t2 (jn @t3 (jn @t4 (jn @t5 (jn @t6 (jn @h1 (jn @h2 @h3)))))))))
    · have e : noF ⟨a, b, p, l⟩ = false := by simp [noF, h1, h2]
      rw [blB, e, Bool.false_and]
      exact rz1 (jn @itE.eq_1 (jn @t1 (jn @t2 (jn @t3 (jn @t4 (jn @t5 (jn @t6 (jn @h1 @h2))))))))
  · have e : noF ⟨a, b, p, l⟩ = false := by simp [noF, h1]
    rw [blB, e, Bool.false_and]
    exact rz1 (jn @itE.eq_1 (jn @t1 (jn @t2 (jn @t3 (jn @t4 (jn @t5 (jn @t6 @h1)))))))
theorem blankP_ (kd ep : Int) (f : Fct) (tg : List UInt8) : blankP ⟨⟨#[]⟩, ⟨#[]⟩, 0, 0, kd, ep, f, tg⟩ = blB f tg := rfl
set_option maxHeartbeats 400000 in
theorem ritem_ac (kd ep : Int) (f : Fct) (tg : List UInt8) (hf : f.l.length ≤ 140737488352000) (ht : tg.length = 32) :
    AC Tryd.prog noG 69 [.d (.agg (itE kd ep f tg))] [] (fun v r' => v = .d (.c (.bool (itemB ⟨⟨#[]⟩, ⟨#[]⟩, 0, 0, kd, ep, f, tg⟩))) ∧ r' = []) := by
  refine AC.pure ?_ (by rintro v rfl; rfl)
  refine AC_of_R (N := 46) (res := [.tmp 2]) ty_ok Tryd.call69 Tryd.func69 rfl rfl rfl (Nat.le_of_ble_eq_true rfl) ?_
  have k1 := rblank_ac kd ep f tg hf ht
  have k2 := rfchk_ac f hf
  obtain ⟨t1, t2, t3, t4, t5, t6⟩ := tg32 tg ht
  simp only [fctE, itE, List.cons_append, List.nil_append] at k1 k2
  by_cases c0 : kd = 0
  · have cc : True := trivial
    by_cases p0 : ep = 0
    · have p1 : True := trivial
      try simp only [c0, cc] at k1
      cases hb : blB f tg with
      | true =>
        rw [hb] at k1
        first
          | (have e : itemB ⟨⟨#[]⟩, ⟨#[]⟩, 0, 0, kd, ep, f, tg⟩ = true := by simp [itemB, epB, blankP_, hb, c0, cc, p0]
             rw [e])
          | (have e : itemB ⟨⟨#[]⟩, ⟨#[]⟩, 0, 0, kd, ep, f, tg⟩ = false := by simp [itemB, epB, blankP_, hb, c0, cc, p0]
             rw [e])
        refine rn1 (jn @t1 (jn @t2 (jn @t3 (jn @t4 (jn @t5 (jn @t6 (jn @tA_allD (jn @itE.eq_1 (jn @c0 @cc))))))))) ?_
        refine HO_pureA ty_ok k1 ?_
        exact rz1 (jn @t1 (jn @t2 (jn @t3 (jn @t4 (jn @t5 (jn @t6 (jn @tA_allD (jn @itE.eq_1 (jn @p0 @p1)))))))))
      | false =>
        rw [hb] at k1
        have e : itemB ⟨⟨#[]⟩, ⟨#[]⟩, 0, 0, kd, ep, f, tg⟩ = false := by simp [itemB, epB, blankP_, hb, c0, cc]
        rw [e]
        refine rn1 (jn @t1 (jn @t2 (jn @t3 (jn @t4 (jn @t5 (jn @t6 (jn @tA_allD (jn @itE.eq_1 (jn @c0 @cc))))))))) ?_
        refine HO_pureA ty_ok k1 ?_
        exact rz0
    · have p1 : True := trivial
      try simp only [c0, cc] at k1
      cases hb : blB f tg with
      | true =>
        rw [hb] at k1
        first
          | (have e : itemB ⟨⟨#[]⟩, ⟨#[]⟩, 0, 0, kd, ep, f, tg⟩ = true := by simp [itemB, epB, blankP_, hb, c0, cc, p0]
             rw [e])
          | (have e : itemB ⟨⟨#[]⟩, ⟨#[]⟩, 0, 0, kd, ep, f, tg⟩ = false := by simp [itemB, epB, blankP_, hb, c0, cc, p0]
             rw [e])
        refine rn1 (jn @t1 (jn @t2 (jn @t3 (jn @t4 (jn @t5 (jn @t6 (jn @tA_allD (jn @itE.eq_1 (jn @c0 @cc))))))))) ?_
        refine HO_pureA ty_ok k1 ?_
        exact rz1 (jn @t1 (jn @t2 (jn @t3 (jn @t4 (jn @t5 (jn @t6 (jn @tA_allD (jn @itE.eq_1 (jn @p0 @p1)))))))))
      | false =>
        rw [hb] at k1
        have e : itemB ⟨⟨#[]⟩, ⟨#[]⟩, 0, 0, kd, ep, f, tg⟩ = false := by simp [itemB, epB, blankP_, hb, c0, cc]
        rw [e]
        refine rn1 (jn @t1 (jn @t2 (jn @t3 (jn @t4 (jn @t5 (jn @t6 (jn @tA_allD (jn @itE.eq_1 (jn @c0 @cc))))))))) ?_
        refine HO_pureA ty_ok k1 ?_
        exact rz0
  by_cases cc : kd = 1
  · skip
    by_cases p0 : 0 ≤ ep
    · by_cases p1 : ep ≤ 1073741824
      · skip
        try simp only [c0, cc] at k1
        cases hb : blB f tg with
        | true =>
          rw [hb] at k1
          first
            | (have e : itemB ⟨⟨#[]⟩, ⟨#[]⟩, 0, 0, kd, ep, f, tg⟩ = true := by simp [itemB, epB, blankP_, hb, c0, cc, p0,p1]
               rw [e])
            | (have e : itemB ⟨⟨#[]⟩, ⟨#[]⟩, 0, 0, kd, ep, f, tg⟩ = false := by simp [itemB, epB, blankP_, hb, c0, cc, p0,p1]
               rw [e])
          refine rn1 (jn @t1 (jn @t2 (jn @t3 (jn @t4 (jn @t5 (jn @t6 (jn @tA_allD (jn @itE.eq_1 (jn @c0 @cc))))))))) ?_
          refine HO_pureA ty_ok k1 ?_
          exact rz1 (jn @t1 (jn @t2 (jn @t3 (jn @t4 (jn @t5 (jn @t6 (jn @tA_allD (jn @itE.eq_1 (jn @p0 @p1)))))))))
        | false =>
          rw [hb] at k1
          have e : itemB ⟨⟨#[]⟩, ⟨#[]⟩, 0, 0, kd, ep, f, tg⟩ = false := by simp [itemB, epB, blankP_, hb, c0, cc]
          rw [e]
          refine rn1 (jn @t1 (jn @t2 (jn @t3 (jn @t4 (jn @t5 (jn @t6 (jn @tA_allD (jn @itE.eq_1 (jn @c0 @cc))))))))) ?_
          refine HO_pureA ty_ok k1 ?_
          exact rz0
      · skip
        try simp only [c0, cc] at k1
        cases hb : blB f tg with
        | true =>
          rw [hb] at k1
          first
            | (have e : itemB ⟨⟨#[]⟩, ⟨#[]⟩, 0, 0, kd, ep, f, tg⟩ = true := by simp [itemB, epB, blankP_, hb, c0, cc, p0,p1]
               rw [e])
            | (have e : itemB ⟨⟨#[]⟩, ⟨#[]⟩, 0, 0, kd, ep, f, tg⟩ = false := by simp [itemB, epB, blankP_, hb, c0, cc, p0,p1]
               rw [e])
          refine rn1 (jn @t1 (jn @t2 (jn @t3 (jn @t4 (jn @t5 (jn @t6 (jn @tA_allD (jn @itE.eq_1 (jn @c0 @cc))))))))) ?_
          refine HO_pureA ty_ok k1 ?_
          exact rz1 (jn @t1 (jn @t2 (jn @t3 (jn @t4 (jn @t5 (jn @t6 (jn @tA_allD (jn @itE.eq_1 (jn @p0 @p1)))))))))
        | false =>
          rw [hb] at k1
          have e : itemB ⟨⟨#[]⟩, ⟨#[]⟩, 0, 0, kd, ep, f, tg⟩ = false := by simp [itemB, epB, blankP_, hb, c0, cc]
          rw [e]
          refine rn1 (jn @t1 (jn @t2 (jn @t3 (jn @t4 (jn @t5 (jn @t6 (jn @tA_allD (jn @itE.eq_1 (jn @c0 @cc))))))))) ?_
          refine HO_pureA ty_ok k1 ?_
          exact rz0
    · have p1 : True := trivial
      try simp only [c0, cc] at k1
      cases hb : blB f tg with
      | true =>
        rw [hb] at k1
        first
          | (have e : itemB ⟨⟨#[]⟩, ⟨#[]⟩, 0, 0, kd, ep, f, tg⟩ = true := by simp [itemB, epB, blankP_, hb, c0, cc, p0]
             rw [e])
          | (have e : itemB ⟨⟨#[]⟩, ⟨#[]⟩, 0, 0, kd, ep, f, tg⟩ = false := by simp [itemB, epB, blankP_, hb, c0, cc, p0]
             rw [e])
        refine rn1 (jn @t1 (jn @t2 (jn @t3 (jn @t4 (jn @t5 (jn @t6 (jn @tA_allD (jn @itE.eq_1 (jn @c0 @cc))))))))) ?_
        refine HO_pureA ty_ok k1 ?_
        exact rz1 (jn @t1 (jn @t2 (jn @t3 (jn @t4 (jn @t5 (jn @t6 (jn @tA_allD (jn @itE.eq_1 (jn @p0 @p1)))))))))
      | false =>
        rw [hb] at k1
        have e : itemB ⟨⟨#[]⟩, ⟨#[]⟩, 0, 0, kd, ep, f, tg⟩ = false := by simp [itemB, epB, blankP_, hb, c0, cc]
        rw [e]
        refine rn1 (jn @t1 (jn @t2 (jn @t3 (jn @t4 (jn @t5 (jn @t6 (jn @tA_allD (jn @itE.eq_1 (jn @c0 @cc))))))))) ?_
        refine HO_pureA ty_ok k1 ?_
        exact rz0
  by_cases cc : kd = 3
  · skip
    by_cases p0 : 0 ≤ ep
    · by_cases p1 : ep ≤ 1073741824
      · skip
        try simp only [c0, cc] at k1
        cases hb : blB f tg with
        | true =>
          rw [hb] at k1
          first
            | (have e : itemB ⟨⟨#[]⟩, ⟨#[]⟩, 0, 0, kd, ep, f, tg⟩ = true := by simp [itemB, epB, blankP_, hb, c0, cc, p0,p1]
               rw [e])
            | (have e : itemB ⟨⟨#[]⟩, ⟨#[]⟩, 0, 0, kd, ep, f, tg⟩ = false := by simp [itemB, epB, blankP_, hb, c0, cc, p0,p1]
               rw [e])
          refine rn1 (jn @t1 (jn @t2 (jn @t3 (jn @t4 (jn @t5 (jn @t6 (jn @tA_allD (jn @itE.eq_1 (jn @c0 @cc))))))))) ?_
          refine HO_pureA ty_ok k1 ?_
          exact rz1 (jn @t1 (jn @t2 (jn @t3 (jn @t4 (jn @t5 (jn @t6 (jn @tA_allD (jn @itE.eq_1 (jn @p0 @p1)))))))))
        | false =>
          rw [hb] at k1
          have e : itemB ⟨⟨#[]⟩, ⟨#[]⟩, 0, 0, kd, ep, f, tg⟩ = false := by simp [itemB, epB, blankP_, hb, c0, cc]
          rw [e]
          refine rn1 (jn @t1 (jn @t2 (jn @t3 (jn @t4 (jn @t5 (jn @t6 (jn @tA_allD (jn @itE.eq_1 (jn @c0 @cc))))))))) ?_
          refine HO_pureA ty_ok k1 ?_
          exact rz0
      · skip
        try simp only [c0, cc] at k1
        cases hb : blB f tg with
        | true =>
          rw [hb] at k1
          first
            | (have e : itemB ⟨⟨#[]⟩, ⟨#[]⟩, 0, 0, kd, ep, f, tg⟩ = true := by simp [itemB, epB, blankP_, hb, c0, cc, p0,p1]
               rw [e])
            | (have e : itemB ⟨⟨#[]⟩, ⟨#[]⟩, 0, 0, kd, ep, f, tg⟩ = false := by simp [itemB, epB, blankP_, hb, c0, cc, p0,p1]
               rw [e])
          refine rn1 (jn @t1 (jn @t2 (jn @t3 (jn @t4 (jn @t5 (jn @t6 (jn @tA_allD (jn @itE.eq_1 (jn @c0 @cc))))))))) ?_
          refine HO_pureA ty_ok k1 ?_
          exact rz1 (jn @t1 (jn @t2 (jn @t3 (jn @t4 (jn @t5 (jn @t6 (jn @tA_allD (jn @itE.eq_1 (jn @p0 @p1)))))))))
        | false =>
          rw [hb] at k1
          have e : itemB ⟨⟨#[]⟩, ⟨#[]⟩, 0, 0, kd, ep, f, tg⟩ = false := by simp [itemB, epB, blankP_, hb, c0, cc]
          rw [e]
          refine rn1 (jn @t1 (jn @t2 (jn @t3 (jn @t4 (jn @t5 (jn @t6 (jn @tA_allD (jn @itE.eq_1 (jn @c0 @cc))))))))) ?_
          refine HO_pureA ty_ok k1 ?_
          exact rz0
    · have p1 : True := trivial
      try simp only [c0, cc] at k1
      cases hb : blB f tg with
      | true =>
        rw [hb] at k1
        first
          | (have e : itemB ⟨⟨#[]⟩, ⟨#[]⟩, 0, 0, kd, ep, f, tg⟩ = true := by simp [itemB, epB, blankP_, hb, c0, cc, p0]
             rw [e])
          | (have e : itemB ⟨⟨#[]⟩, ⟨#[]⟩, 0, 0, kd, ep, f, tg⟩ = false := by simp [itemB, epB, blankP_, hb, c0, cc, p0]
             rw [e])
        refine rn1 (jn @t1 (jn @t2 (jn @t3 (jn @t4 (jn @t5 (jn @t6 (jn @tA_allD (jn @itE.eq_1 (jn @c0 @cc))))))))) ?_
        refine HO_pureA ty_ok k1 ?_
        exact rz1 (jn @t1 (jn @t2 (jn @t3 (jn @t4 (jn @t5 (jn @t6 (jn @tA_allD (jn @itE.eq_1 (jn @p0 @p1)))))))))
      | false =>
        rw [hb] at k1
        have e : itemB ⟨⟨#[]⟩, ⟨#[]⟩, 0, 0, kd, ep, f, tg⟩ = false := by simp [itemB, epB, blankP_, hb, c0, cc]
        rw [e]
        refine rn1 (jn @t1 (jn @t2 (jn @t3 (jn @t4 (jn @t5 (jn @t6 (jn @tA_allD (jn @itE.eq_1 (jn @c0 @cc))))))))) ?_
        refine HO_pureA ty_ok k1 ?_
        exact rz0
  by_cases cc : kd = 4
  · skip
    by_cases p0 : 0 ≤ ep
    · by_cases p1 : ep ≤ 1073741824
      · skip
        try simp only [c0, cc] at k1
        cases hb : blB f tg with
        | true =>
          rw [hb] at k1
          first
            | (have e : itemB ⟨⟨#[]⟩, ⟨#[]⟩, 0, 0, kd, ep, f, tg⟩ = true := by simp [itemB, epB, blankP_, hb, c0, cc, p0,p1]
               rw [e])
            | (have e : itemB ⟨⟨#[]⟩, ⟨#[]⟩, 0, 0, kd, ep, f, tg⟩ = false := by simp [itemB, epB, blankP_, hb, c0, cc, p0,p1]
               rw [e])
          refine rn1 (jn @t1 (jn @t2 (jn @t3 (jn @t4 (jn @t5 (jn @t6 (jn @tA_allD (jn @itE.eq_1 (jn @c0 @cc))))))))) ?_
          refine HO_pureA ty_ok k1 ?_
          exact rz1 (jn @t1 (jn @t2 (jn @t3 (jn @t4 (jn @t5 (jn @t6 (jn @tA_allD (jn @itE.eq_1 (jn @p0 @p1)))))))))
        | false =>
          rw [hb] at k1
          have e : itemB ⟨⟨#[]⟩, ⟨#[]⟩, 0, 0, kd, ep, f, tg⟩ = false := by simp [itemB, epB, blankP_, hb, c0, cc]
          rw [e]
          refine rn1 (jn @t1 (jn @t2 (jn @t3 (jn @t4 (jn @t5 (jn @t6 (jn @tA_allD (jn @itE.eq_1 (jn @c0 @cc))))))))) ?_
          refine HO_pureA ty_ok k1 ?_
          exact rz0
      · skip
        try simp only [c0, cc] at k1
        cases hb : blB f tg with
        | true =>
          rw [hb] at k1
          first
            | (have e : itemB ⟨⟨#[]⟩, ⟨#[]⟩, 0, 0, kd, ep, f, tg⟩ = true := by simp [itemB, epB, blankP_, hb, c0, cc, p0,p1]
               rw [e])
            | (have e : itemB ⟨⟨#[]⟩, ⟨#[]⟩, 0, 0, kd, ep, f, tg⟩ = false := by simp [itemB, epB, blankP_, hb, c0, cc, p0,p1]
               rw [e])
          refine rn1 (jn @t1 (jn @t2 (jn @t3 (jn @t4 (jn @t5 (jn @t6 (jn @tA_allD (jn @itE.eq_1 (jn @c0 @cc))))))))) ?_
          refine HO_pureA ty_ok k1 ?_
          exact rz1 (jn @t1 (jn @t2 (jn @t3 (jn @t4 (jn @t5 (jn @t6 (jn @tA_allD (jn @itE.eq_1 (jn @p0 @p1)))))))))
        | false =>
          rw [hb] at k1
          have e : itemB ⟨⟨#[]⟩, ⟨#[]⟩, 0, 0, kd, ep, f, tg⟩ = false := by simp [itemB, epB, blankP_, hb, c0, cc]
          rw [e]
          refine rn1 (jn @t1 (jn @t2 (jn @t3 (jn @t4 (jn @t5 (jn @t6 (jn @tA_allD (jn @itE.eq_1 (jn @c0 @cc))))))))) ?_
          refine HO_pureA ty_ok k1 ?_
          exact rz0
    · have p1 : True := trivial
      try simp only [c0, cc] at k1
      cases hb : blB f tg with
      | true =>
        rw [hb] at k1
        first
          | (have e : itemB ⟨⟨#[]⟩, ⟨#[]⟩, 0, 0, kd, ep, f, tg⟩ = true := by simp [itemB, epB, blankP_, hb, c0, cc, p0]
             rw [e])
          | (have e : itemB ⟨⟨#[]⟩, ⟨#[]⟩, 0, 0, kd, ep, f, tg⟩ = false := by simp [itemB, epB, blankP_, hb, c0, cc, p0]
             rw [e])
        refine rn1 (jn @t1 (jn @t2 (jn @t3 (jn @t4 (jn @t5 (jn @t6 (jn @tA_allD (jn @itE.eq_1 (jn @c0 @cc))))))))) ?_
        refine HO_pureA ty_ok k1 ?_
        exact rz1 (jn @t1 (jn @t2 (jn @t3 (jn @t4 (jn @t5 (jn @t6 (jn @tA_allD (jn @itE.eq_1 (jn @p0 @p1)))))))))
      | false =>
        rw [hb] at k1
        have e : itemB ⟨⟨#[]⟩, ⟨#[]⟩, 0, 0, kd, ep, f, tg⟩ = false := by simp [itemB, epB, blankP_, hb, c0, cc]
        rw [e]
        refine rn1 (jn @t1 (jn @t2 (jn @t3 (jn @t4 (jn @t5 (jn @t6 (jn @tA_allD (jn @itE.eq_1 (jn @c0 @cc))))))))) ?_
        refine HO_pureA ty_ok k1 ?_
        exact rz0
  by_cases cc : kd = 2
  · by_cases p0 : 0 ≤ ep
    · by_cases p1 : ep ≤ 1073741824
      · have e : itemB ⟨⟨#[]⟩, ⟨#[]⟩, 0, 0, kd, ep, f, tg⟩ = chkF f := by simp [itemB, epB, cc, p0, p1]
        rw [e]
        cases hc : chkF f with
        | true =>
          rw [chkE_ok hc] at k2
          refine rn1 (jn @t1 (jn @t2 (jn @t3 (jn @t4 (jn @t5 (jn @t6 (jn @tA_allD (jn @itE.eq_1 (jn @c0 (jn @cc (jn @p0 @p1))))))))))) ?_
          refine HO_pureA ty_ok k2 ?_
          exact rz0
        | false =>
          rw [chkE_no (by rw [hc]; decide)] at k2
          refine rn1 (jn @t1 (jn @t2 (jn @t3 (jn @t4 (jn @t5 (jn @t6 (jn @tA_allD (jn @itE.eq_1 (jn @c0 (jn @cc (jn @p0 @p1))))))))))) ?_
          refine HO_pureA ty_ok k2 ?_
          exact rz0
      · have e : itemB ⟨⟨#[]⟩, ⟨#[]⟩, 0, 0, kd, ep, f, tg⟩ = false := by simp [itemB, epB, cc, p0, p1]
        rw [e]
        exact rz1 (jn @t1 (jn @t2 (jn @t3 (jn @t4 (jn @t5 (jn @t6 (jn @tA_allD (jn @itE.eq_1 (jn @c0 (jn @cc (jn @p0 @p1)))))))))))
    · have e : itemB ⟨⟨#[]⟩, ⟨#[]⟩, 0, 0, kd, ep, f, tg⟩ = false := by simp [itemB, epB, cc, p0]
      rw [e]
      exact rz1 (jn @t1 (jn @t2 (jn @t3 (jn @t4 (jn @t5 (jn @t6 (jn @tA_allD (jn @itE.eq_1 (jn @c0 (jn @cc @p0))))))))))
  rename_i c1 c3 c4
  have e : itemB ⟨⟨#[]⟩, ⟨#[]⟩, 0, 0, kd, ep, f, tg⟩ = false := by simp [itemB, c0, c1, c3, c4, cc]
  rw [e]
  exact rz1 (jn @t1 (jn @t2 (jn @t3 (jn @t4 (jn @t5 (jn @t6 (jn @tA_allD (jn @itE.eq_1 (jn @c0 (jn @c1 (jn @c3 (jn @c4 @cc))))))))))))
end Go.Proofs.YtdbicadncccpoaaDoor

set_option linter.unusedVariables false
set_option linter.unusedSimpArgs false
set_option maxRecDepth 100000
namespace Go.Proofs.YtdbicadncccpoaaDoor
open Go Go.ChangeShapes Go.WideShapes
set_option maxHeartbeats 400000 in
theorem mname_ac (s : ByteArray) : AC Tryd.prog noG 57 [.d (.c (.string s))] [] (fun v r' => v = .d (.c (.bool (txtOK s))) ∧ r' = []) := by
  refine AC_of_R (N := 11) (res := [.tmp 2]) ty_ok Tryd.call57 Tryd.func57 rfl rfl rfl (Nat.le_of_ble_eq_true rfl) ?_
  by_cases h1 : 1 ≤ s.size
  · have g1 : 1 ≤ (s.size : Int) := by omega
    by_cases h2 : s.size ≤ 32
    · have g2 : (s.size : Int) ≤ 32 := by omega
      have e : txtOK s = true := by simp [txtOK, h1, h2]
      exact rz1 (jn @g1 (jn @g2 @e))
    · have g2 : ¬ (s.size : Int) ≤ 32 := by omega
      have e : txtOK s = false := by simp [txtOK, h1, h2]
      exact rz1 (jn @g1 (jn @g2 @e))
  · have g1 : ¬ 1 ≤ (s.size : Int) := by omega
    have e : txtOK s = false := by simp [txtOK, h1]
    exact rz1 (jn @g1 @e)
theorem b_tf : (true == false) = false := rfl
theorem b_ft : (false == true) = false := rfl
theorem itemB_eq (p : Pkt) : itemB p = itemB ⟨⟨#[]⟩, ⟨#[]⟩, 0, 0, p.kd, p.ep, p.f, p.tg⟩ := rfl
set_option maxHeartbeats 400000 in
theorem may_ac (p : Pkt) (hf : p.f.l.length ≤ 140737488352000) (ht : p.tg.length = 32) :
    AC Tryd.prog noG 33 [.d (.agg (pktE p))] [] (fun v r' => v = .d (.c (.bool (mayB p))) ∧ r' = []) := by
  refine AC.pure ?_ (by rintro v rfl; rfl)
  refine AC_of_R (N := 39) (res := [.tmp 2]) ty_ok Tryd.call33 Tryd.func33 rfl rfl rfl (Nat.le_of_ble_eq_true rfl) ?_
  obtain ⟨fr, to, sq, ak, kd, ep, f, tg⟩ := p
  simp only at hf ht
  have k1 := mname_ac fr
  have k2 := mname_ac to
  have k3 := mitem_ac kd ep f tg hf ht
  obtain ⟨t1, t2, t3, t4, t5, t6⟩ := tg32 tg ht
  simp only [itE, List.cons_append, List.nil_append] at k3
  obtain ⟨m, hm⟩ : ∃ m, m = mayB ⟨fr, to, sq, ak, kd, ep, f, tg⟩ := ⟨_, rfl⟩
  rw [← hm]
  rw [mayB, itemB_eq] at hm
  simp only at hm
  generalize itemB ⟨⟨#[]⟩, ⟨#[]⟩, 0, 0, kd, ep, f, tg⟩ = w at *
  cases h1 : txtOK fr with
  | false =>
    rw [h1] at hm k1
    simp only [Bool.false_and] at hm
    subst hm
    refine rn1 (jn @pktE.eq_1 (jn @itE.eq_1 (jn @t1 (jn @t2 (jn @t3 (jn @t4 (jn @t5 (jn @t6 (jn @tA_allD (jn @b_tf (jn @b_ft @t1))))))))))) ?_
    refine HO_pureA ty_ok k1 ?_
    exact rz0
  | true =>
  cases h2 : txtOK to with
  | false =>
    rw [h1, h2] at hm
    rw [h1] at k1
    rw [h2] at k2
    simp only [Bool.false_and, Bool.true_and] at hm
    subst hm
    refine rn1 (jn @pktE.eq_1 (jn @itE.eq_1 (jn @t1 (jn @t2 (jn @t3 (jn @t4 (jn @t5 (jn @t6 (jn @tA_allD (jn @b_tf (jn @b_ft @t1))))))))))) ?_
    refine HO_pureA ty_ok k1 ?_
    refine rn1 (jn @pktE.eq_1 (jn @itE.eq_1 (jn @t1 (jn @t2 (jn @t3 (jn @t4 (jn @t5 (jn @t6 (jn @tA_allD (jn @b_tf (jn @b_ft @t1))))))))))) ?_
    refine HO_pureA ty_ok k2 ?_
    exact rz0
  | true =>
  rw [h1, h2, Bool.true_and, Bool.true_and] at hm
  rw [h1] at k1
  rw [h2] at k2
  refine rn1 (jn @pktE.eq_1 (jn @itE.eq_1 (jn @t1 (jn @t2 (jn @t3 (jn @t4 (jn @t5 (jn @t6 (jn @tA_allD (jn @b_tf (jn @b_ft @t1))))))))))) ?_
  refine HO_pureA ty_ok k1 ?_
  refine rn1 (jn @pktE.eq_1 (jn @itE.eq_1 (jn @t1 (jn @t2 (jn @t3 (jn @t4 (jn @t5 (jn @t6 (jn @tA_allD (jn @b_tf (jn @b_ft @t1))))))))))) ?_
  refine HO_pureA ty_ok k2 ?_
  by_cases g1 : 0 ≤ sq
  · have n1 : ¬ sq < 0 := by omega
    by_cases g2 : 0 ≤ ak
    · have n2 : ¬ ak < 0 := by omega
      rw [decide_eq_true g1, decide_eq_true g2, Bool.true_and, Bool.true_and] at hm
      refine rn1 (jn @pktE.eq_1 (jn @itE.eq_1 (jn @t1 (jn @t2 (jn @t3 (jn @t4 (jn @t5 (jn @t6 (jn @tA_allD (jn @b_tf (jn @b_ft (jn @g1 (jn @g2 (jn @n1 @n2)))))))))))))) ?_
      refine HO_pureA ty_ok k3 ?_
      cases w with
      | false =>
        rw [Bool.false_and] at hm
        subst hm
        exact rz0
      | true =>
        rw [Bool.true_and] at hm
        by_cases g3 : sq = 0
        · by_cases g4 : kd = 0
          · rw [decide_eq_true (show sq = 0 ↔ kd = 0 by omega)] at hm
            subst hm
            exact rz1 (jn @pktE.eq_1 (jn @itE.eq_1 (jn @t1 (jn @t2 (jn @t3 (jn @t4 (jn @t5 (jn @t6 (jn @tA_allD (jn @b_tf (jn @b_ft (jn @g3 @g4))))))))))))
          · rw [decide_eq_false (show ¬ (sq = 0 ↔ kd = 0) by omega)] at hm
            subst hm
            exact rz1 (jn @pktE.eq_1 (jn @itE.eq_1 (jn @t1 (jn @t2 (jn @t3 (jn @t4 (jn @t5 (jn @t6 (jn @tA_allD (jn @b_tf (jn @b_ft (jn @g3 @g4))))))))))))
        · by_cases g4 : kd = 0
          · rw [decide_eq_false (show ¬ (sq = 0 ↔ kd = 0) by omega)] at hm
            subst hm
            exact rz1 (jn @pktE.eq_1 (jn @itE.eq_1 (jn @t1 (jn @t2 (jn @t3 (jn @t4 (jn @t5 (jn @t6 (jn @tA_allD (jn @b_tf (jn @b_ft (jn @g3 @g4))))))))))))
          · rw [decide_eq_true (show sq = 0 ↔ kd = 0 by omega)] at hm
            subst hm
            exact rz1 (jn @pktE.eq_1 (jn @itE.eq_1 (jn @t1 (jn @t2 (jn @t3 (jn @t4 (jn @t5 (jn @t6 (jn @tA_allD (jn @b_tf (jn @b_ft (jn @g3 @g4))))))))))))
    · have n2 : ak < 0 := by omega
      rw [decide_eq_true g1, decide_eq_false g2, Bool.true_and, Bool.false_and] at hm
      subst hm
      exact rz1 (jn @pktE.eq_1 (jn @itE.eq_1 (jn @t1 (jn @t2 (jn @t3 (jn @t4 (jn @t5 (jn @t6 (jn @tA_allD (jn @b_tf (jn @b_ft (jn @g1 (jn @g2 (jn @n1 @n2))))))))))))))
  · have n1 : sq < 0 := by omega
    rw [decide_eq_false g1, Bool.false_and] at hm
    subst hm
    exact rz1 (jn @pktE.eq_1 (jn @itE.eq_1 (jn @t1 (jn @t2 (jn @t3 (jn @t4 (jn @t5 (jn @t6 (jn @tA_allD (jn @b_tf (jn @b_ft (jn @g1 @n1))))))))))))
set_option maxHeartbeats 400000 in
theorem rmay_ac (p : Pkt) (hf : p.f.l.length ≤ 140737488352000) (ht : p.tg.length = 32) :
    AC Tryd.prog noG 45 [.d (.agg (pktE p))] [] (fun v r' => v = .d (.c (.bool (mayB p))) ∧ r' = []) := by
  refine AC.pure ?_ (by rintro v rfl; rfl)
  refine AC_of_R (N := 42) (res := [.tmp 2]) ty_ok Tryd.call45 Tryd.func45 rfl rfl rfl (Nat.le_of_ble_eq_true rfl) ?_
  obtain ⟨fr, to, sq, ak, kd, ep, f, tg⟩ := p
  simp only at hf ht
  have k1 := rftext_ac fr
  have k2 := rftext_ac to
  have k3 := ritem_ac kd ep f tg hf ht
  obtain ⟨t1, t2, t3, t4, t5, t6⟩ := tg32 tg ht
  simp only [itE, List.cons_append, List.nil_append] at k3
  obtain ⟨m, hm⟩ : ∃ m, m = mayB ⟨fr, to, sq, ak, kd, ep, f, tg⟩ := ⟨_, rfl⟩
  rw [← hm]
  rw [mayB, itemB_eq] at hm
  simp only at hm
  generalize itemB ⟨⟨#[]⟩, ⟨#[]⟩, 0, 0, kd, ep, f, tg⟩ = w at *
  cases h1 : txtOK fr with
  | false =>
    rw [h1] at hm k1
    simp only [Bool.false_and] at hm
    subst hm
    refine rn1 (jn @pktE.eq_1 (jn @itE.eq_1 (jn @t1 (jn @t2 (jn @t3 (jn @t4 (jn @t5 (jn @t6 (jn @tA_allD (jn @b_tf (jn @b_ft @t1))))))))))) ?_
    refine HO_pureA ty_ok k1 ?_
    exact rz0
  | true =>
  cases h2 : txtOK to with
  | false =>
    rw [h1, h2] at hm
    rw [h1] at k1
    rw [h2] at k2
    simp only [Bool.false_and, Bool.true_and] at hm
    subst hm
    refine rn1 (jn @pktE.eq_1 (jn @itE.eq_1 (jn @t1 (jn @t2 (jn @t3 (jn @t4 (jn @t5 (jn @t6 (jn @tA_allD (jn @b_tf (jn @b_ft @t1))))))))))) ?_
    refine HO_pureA ty_ok k1 ?_
    refine rn1 (jn @pktE.eq_1 (jn @itE.eq_1 (jn @t1 (jn @t2 (jn @t3 (jn @t4 (jn @t5 (jn @t6 (jn @tA_allD (jn @b_tf (jn @b_ft @t1))))))))))) ?_
    refine HO_pureA ty_ok k2 ?_
    exact rz0
  | true =>
  rw [h1, h2, Bool.true_and, Bool.true_and] at hm
  rw [h1] at k1
  rw [h2] at k2
  refine rn1 (jn @pktE.eq_1 (jn @itE.eq_1 (jn @t1 (jn @t2 (jn @t3 (jn @t4 (jn @t5 (jn @t6 (jn @tA_allD (jn @b_tf (jn @b_ft @t1))))))))))) ?_
  refine HO_pureA ty_ok k1 ?_
  refine rn1 (jn @pktE.eq_1 (jn @itE.eq_1 (jn @t1 (jn @t2 (jn @t3 (jn @t4 (jn @t5 (jn @t6 (jn @tA_allD (jn @b_tf (jn @b_ft @t1))))))))))) ?_
  refine HO_pureA ty_ok k2 ?_
  by_cases g1 : 0 ≤ sq
  · have n1 : ¬ sq < 0 := by omega
    by_cases g2 : 0 ≤ ak
    · have n2 : ¬ ak < 0 := by omega
      rw [decide_eq_true g1, decide_eq_true g2, Bool.true_and, Bool.true_and] at hm
      refine rn1 (jn @pktE.eq_1 (jn @itE.eq_1 (jn @t1 (jn @t2 (jn @t3 (jn @t4 (jn @t5 (jn @t6 (jn @tA_allD (jn @b_tf (jn @b_ft (jn @g1 (jn @g2 (jn @n1 @n2)))))))))))))) ?_
      refine HO_pureA ty_ok k3 ?_
      cases w with
      | false =>
        rw [Bool.false_and] at hm
        subst hm
        exact rz0
      | true =>
        rw [Bool.true_and] at hm
        by_cases g3 : sq = 0
        · by_cases g4 : kd = 0
          · rw [decide_eq_true (show sq = 0 ↔ kd = 0 by omega)] at hm
            subst hm
            exact rz1 (jn @pktE.eq_1 (jn @itE.eq_1 (jn @t1 (jn @t2 (jn @t3 (jn @t4 (jn @t5 (jn @t6 (jn @tA_allD (jn @b_tf (jn @b_ft (jn @g3 @g4))))))))))))
          · rw [decide_eq_false (show ¬ (sq = 0 ↔ kd = 0) by omega)] at hm
            subst hm
            exact rz1 (jn @pktE.eq_1 (jn @itE.eq_1 (jn @t1 (jn @t2 (jn @t3 (jn @t4 (jn @t5 (jn @t6 (jn @tA_allD (jn @b_tf (jn @b_ft (jn @g3 @g4))))))))))))
        · by_cases g4 : kd = 0
          · rw [decide_eq_false (show ¬ (sq = 0 ↔ kd = 0) by omega)] at hm
            subst hm
            exact rz1 (jn @pktE.eq_1 (jn @itE.eq_1 (jn @t1 (jn @t2 (jn @t3 (jn @t4 (jn @t5 (jn @t6 (jn @tA_allD (jn @b_tf (jn @b_ft (jn @g3 @g4))))))))))))
          · rw [decide_eq_true (show sq = 0 ↔ kd = 0 by omega)] at hm
            subst hm
            exact rz1 (jn @pktE.eq_1 (jn @itE.eq_1 (jn @t1 (jn @t2 (jn @t3 (jn @t4 (jn @t5 (jn @t6 (jn @tA_allD (jn @b_tf (jn @b_ft (jn @g3 @g4))))))))))))
    · have n2 : ak < 0 := by omega
      rw [decide_eq_true g1, decide_eq_false g2, Bool.true_and, Bool.false_and] at hm
      subst hm
      exact rz1 (jn @pktE.eq_1 (jn @itE.eq_1 (jn @t1 (jn @t2 (jn @t3 (jn @t4 (jn @t5 (jn @t6 (jn @tA_allD (jn @b_tf (jn @b_ft (jn @g1 (jn @g2 (jn @n1 @n2))))))))))))))
  · have n1 : sq < 0 := by omega
    rw [decide_eq_false g1, Bool.false_and] at hm
    subst hm
    exact rz1 (jn @pktE.eq_1 (jn @itE.eq_1 (jn @t1 (jn @t2 (jn @t3 (jn @t4 (jn @t5 (jn @t6 (jn @tA_allD (jn @b_tf (jn @b_ft (jn @g1 @n1))))))))))))
end Go.Proofs.YtdbicadncccpoaaDoor

set_option linter.unusedVariables false
set_option linter.unusedSimpArgs false
set_option maxRecDepth 100000
namespace Go.Proofs.YtdbicadncccpoaaDoor
open Go Go.ChangeShapes Go.WideShapes
def putX (p : Pkt) : List UInt8 := if mayB p then putP p else []
def putE (p : Pkt) : Int := if mayB p then 0 else 2
def ptV (p : Pkt) : AV := .tup [.d (.sl 1 (putX p).length (bD (putX p))), .d (.c (.int .i64 (putE p)))]
theorem putI_le (b : List UInt8) (n : Int) (h0 : -9223372036854775808 ≤ n) (h1 : n ≤ 9223372036854775807) : (putI b n).length ≤ b.length + 10 := by
  have hz := zig_lt h0 h1
  have hl := leb_len 9 (zig n) (by omega)
  rw [putI, List.length_append]; omega
theorem putTx_le (b : List UInt8) (s : ByteArray) (h : s.size ≤ 1000000) : (putTx b s).length ≤ b.length + 10 + s.size := by
  have hz := zig_nat s.size
  have hl := leb_len 9 (zig s.size) (by omega)
  rw [putTx_len]; omega
set_option maxHeartbeats 400000 in
theorem rput_own (p : Pkt) (hf : p.f.l.length ≤ 140737488352000) (ho : okP p) (hm : mayB p = true) :
    AC Tryd.prog noG 26 [.d (.agg (pktE p))] [] (fun v r' => v = .tup [.sl (.own 0) 1 (putP p).length (bD (putP p)), .d (.c (.int .i64 0))] ∧ r' = [some (.tok (putP p).length)]) := by
  refine AC.fit ?_
  refine AC_of_R (N := 55) (res := [.tmp 2, .tmp 3]) ty_ok Tryd.call26 Tryd.func26 rfl rfl rfl (Nat.le_of_ble_eq_true rfl) ?_
  have km := rmay_ac p hf ho.2.2.2.2.2
  obtain ⟨o1, o2, o3, o4, o5, o6⟩ := ho
  obtain ⟨t1, t2, t3, t4, t5, t6⟩ := tg32 p.tg o6
  obtain ⟨W, hW⟩ : ∃ W, W = putP p := ⟨_, rfl⟩
  rw [← hW]
  rw [putP] at hW
  rw [hm] at km
  simp only [pktE, itE, List.cons_append, List.nil_append] at km
  obtain ⟨fr, to, sq, ak, kd, ep, f, tg⟩ := p
  simp only at *
  refine rn1 (jn @pktE.eq_1 (jn @itE.eq_1 (jn @fctE.eq_1 (jn @t1 (jn @t2 (jn @t3 (jn @t4 (jn @t5 (jn @t6 (jn @tA_allD @t1)))))))))) ?_
  refine HO_pureA ty_ok km ?_
  refine rn1 (jn @pktE.eq_1 (jn @itE.eq_1 (jn @fctE.eq_1 (jn @t1 (jn @t2 (jn @t3 (jn @t4 (jn @t5 (jn @t6 (jn @tA_allD @t1)))))))))) ?_
  obtain ⟨⟨m1, m2, _⟩, _, _, m5⟩ := may_parts hm
  have m1 := txtOK_size m1
  have m2 := txtOK_size m2
  simp only at m1 m2 m5
  have p1 := rputText_dat [] fr (by simp) (by simp; omega)
  have l1 := putTx_le [] fr (by omega)
  rw [List.length_nil] at l1
  generalize putTx [] fr = b1 at *
  have p2 := rputText_dat b1 to (by omega) (by omega)
  have l2 := putTx_le b1 to (by omega)
  generalize putTx b1 to = b2 at *
  have p3 := rputInt_dat b2 sq o1.1 o1.2 (by omega)
  have l3 := putI_le b2 sq o1.1 o1.2
  generalize putI b2 sq = b3 at *
  have p4 := rputInt_dat b3 ak o2.1 o2.2 (by omega)
  have l4 := putI_le b3 ak o2.1 o2.2
  generalize putI b3 ak = b4 at *
  have p5 := rputInt_dat b4 kd o3.1 o3.2 (by omega)
  have p5o : AC Tryd.prog noG 47 [.d (.sl 1 b4.length (bD b4)), .d (.c (.int .i64 kd))] [] (fun v r' => v = .sl (.own 0) 1 (putI b4 kd).length (bD (putI b4 kd)) ∧ r' = [some (.tok (putI b4 kd).length)]) := rputInt_ac b4 kd o3.1 o3.2 (by omega)
  have l5 := putI_le b4 kd o3.1 o3.2
  generalize putI b4 kd = b5 at *
  have p6 := rputInt_dat b5 ep o4.1 o4.2 (by omega)
  have p6o : AC Tryd.prog noG 47 [.d (.sl 1 b5.length (bD b5)), .d (.c (.int .i64 ep))] [] (fun v r' => v = .sl (.own 0) 1 (putI b5 ep).length (bD (putI b5 ep)) ∧ r' = [some (.tok (putI b5 ep).length)]) := rputInt_ac b5 ep o4.1 o4.2 (by omega)
  have l6 := putI_le b5 ep o4.1 o4.2
  generalize putI b5 ep = b6 at *
  refine HO_pureA ty_ok p1 ?_
  refine rn1 (jn @pktE.eq_1 (jn @itE.eq_1 (jn @fctE.eq_1 (jn @t1 (jn @t2 (jn @t3 (jn @t4 (jn @t5 (jn @t6 (jn @tA_allD @t1)))))))))) ?_
  refine HO_pureA ty_ok p2 ?_
  refine rn1 (jn @pktE.eq_1 (jn @itE.eq_1 (jn @fctE.eq_1 (jn @t1 (jn @t2 (jn @t3 (jn @t4 (jn @t5 (jn @t6 (jn @tA_allD @t1)))))))))) ?_
  refine HO_pureA ty_ok p3 ?_
  refine rn1 (jn @pktE.eq_1 (jn @itE.eq_1 (jn @fctE.eq_1 (jn @t1 (jn @t2 (jn @t3 (jn @t4 (jn @t5 (jn @t6 (jn @tA_allD @t1)))))))))) ?_
  refine HO_pureA ty_ok p4 ?_
  refine rn1 (jn @pktE.eq_1 (jn @itE.eq_1 (jn @fctE.eq_1 (jn @t1 (jn @t2 (jn @t3 (jn @t4 (jn @t5 (jn @t6 (jn @tA_allD @t1)))))))))) ?_
  by_cases c0 : kd = 0
  · rw [if_pos c0] at hW
    subst hW
    refine HO_callX ty_ok [] p5o (trivial) rfl ?_
    rintro v r' ⟨rfl, rfl⟩ _
    refine rn1 (jn @pktE.eq_1 (jn @itE.eq_1 (jn @fctE.eq_1 (jn @t1 (jn @t2 (jn @t3 (jn @t4 (jn @t5 (jn @t6 (jn @tA_allD @c0)))))))))) ?_
    exact fv0 [2] []
  · rw [if_neg c0] at hW
    refine HO_pureA ty_ok p5 ?_
    refine rn1 (jn @pktE.eq_1 (jn @itE.eq_1 (jn @fctE.eq_1 (jn @t1 (jn @t2 (jn @t3 (jn @t4 (jn @t5 (jn @t6 (jn @tA_allD @c0)))))))))) ?_
    by_cases c2 : kd = 2
    · refine HO_pureA ty_ok p6 ?_
      rw [if_pos c2] at hW
      have p7 := rputF_ac b6 f o5 hf (by omega)
      have l7 := putFR_len (b := b6) (f := f) o5
      have hR : putFR b6 f = putF b6 f := by rw [putFR, if_pos (m5 c2)]
      rw [chkE_ok (m5 c2)] at p7
      rw [hR] at p7 l7
      generalize putF b6 f = b7 at *
      simp only [fctE] at p7
      refine rn1 (jn @pktE.eq_1 (jn @itE.eq_1 (jn @fctE.eq_1 (jn @t1 (jn @t2 (jn @t3 (jn @t4 (jn @t5 (jn @t6 (jn @tA_allD @c2)))))))))) ?_
      refine HO_callX ty_ok [] p7 (trivial) rfl ?_
      rintro v r' ⟨rfl, rfl⟩ _
      refine rn1 (jn @pktE.eq_1 (jn @itE.eq_1 (jn @fctE.eq_1 (jn @t1 (jn @t2 (jn @t3 (jn @t4 (jn @t5 (jn @t6 (jn @tA_allD @t1)))))))))) ?_
      refine ⟨⟨by decide, by decide⟩, ⟨by omega, by omega⟩, ?_⟩
      have hWl : W.length = b7.length + 32 := by rw [hW, List.length_append, t1]
      rw [← hW, ← hWl]
      exact fv0 [2] []
    · rw [if_neg c2] at hW
      subst hW
      refine HO_callX ty_ok [] p6o (trivial) rfl ?_
      rintro v r' ⟨rfl, rfl⟩ _
      refine rn1 (jn @pktE.eq_1 (jn @itE.eq_1 (jn @fctE.eq_1 (jn @t1 (jn @t2 (jn @t3 (jn @t4 (jn @t5 (jn @t6 (jn @tA_allD @c2)))))))))) ?_
      exact fv0 [2] []
set_option maxHeartbeats 400000 in
theorem rput_ac (p : Pkt) (hf : p.f.l.length ≤ 140737488352000) (ho : okP p) :
    AC Tryd.prog noG 26 [.d (.agg (pktE p))] [] (fun v r' => v = ptV p ∧ r' = []) := by
  cases hm : mayB p with
  | false =>
    refine AC.fit ?_
    refine AC_of_R (N := 55) (res := [.tmp 2, .tmp 3]) ty_ok Tryd.call26 Tryd.func26 rfl rfl rfl (Nat.le_of_ble_eq_true rfl) ?_
    have km := rmay_ac p hf ho.2.2.2.2.2
    obtain ⟨o1, o2, o3, o4, o5, o6⟩ := ho
    obtain ⟨t1, t2, t3, t4, t5, t6⟩ := tg32 p.tg o6
    have e1 : putX p = [] := by rw [putX, hm]; rfl
    have e2 : putE p = 2 := by rw [putE, hm]; rfl
    rw [ptV, e1, e2]
    rw [hm] at km
    simp only [pktE, itE, List.cons_append, List.nil_append] at km
    refine rn1 (jn @pktE.eq_1 (jn @itE.eq_1 (jn @fctE.eq_1 (jn @t1 (jn @t2 (jn @t3 (jn @t4 (jn @t5 (jn @t6 (jn @tA_allD @t1)))))))))) ?_
    refine HO_pureA ty_ok km ?_
    refine rn0 ?_
    exact fv0 [] []
  | true =>
    have e1 : putX p = putP p := by rw [putX, hm]; rfl
    have e2 : putE p = 0 := by rw [putE, hm]; rfl
    rw [ptV, e1, e2]
    exact AC_tup2 (rput_own p hf ho hm) (by rintro v r' ⟨rfl, _⟩; rfl)
end Go.Proofs.YtdbicadncccpoaaDoor

set_option linter.unusedVariables false
set_option linter.unusedSimpArgs false
set_option maxRecDepth 100000
namespace Go.Proofs.YtdbicadncccpoaaDoor
open Go Go.ChangeShapes Go.WideShapes
def mpP (b2 b3 b4 b5 : List UInt8) (x : Nat × AV × Rs) : Prop := x = (0, .d (.sl 1 b2.length (bD b2)), [none]) ∨ x = (1, .d (.sl 1 b3.length (bD b3)), [none]) ∨ x = (2, .d (.sl 1 b4.length (bD b4)), [none]) ∨ x = (3, .sl (.own 2) 1 b5.length (bD b5), [some (.tok b5.length)])
def mpSt (a b c : Int) (i : Nat) (v : AV) : List (Nat × AV) := [(3, .d (.c (.int .i64 0))), (4, v), (5, .ptr 1 0), (28, .d (.sl 1 3 [.c (.int .i64 a), .c (.int .i64 b), .c (.int .i64 c)])), (29, .d (.c (.int .i64 3))), (30, .d (.c (.int .i64 i)))]
def mpRe (kd ep : Int) (f : Fct) (tg : List UInt8) (R : Rs) : Rs := none :: some (.obj ([.d (.c (.int .i64 kd)), .d (.c (.int .i64 ep)), .d (.c (.string f.a)), .d (.c (.string f.b)), .d (.c (.string f.p)), .d (.sl 3 f.l.length (flatE cstE f.l))] ++ tA tg)) :: R
def dB (b : List UInt8) : AV := .d (.sl 1 b.length (bD b))
set_option maxHeartbeats 400000 in
theorem put_own (p : Pkt) (hf : p.f.l.length ≤ 140737488352000) (ho : okP p) (hm : mayB p = true) :
    AC Tryd.prog noG 19 [.d (.agg (pktE p))] [] (fun v r' => v = .tup [.sl (.own 0) 1 (putP p).length (bD (putP p)), .d (.c (.int .i64 0))] ∧ r' = [some (.tok (putP p).length)]) := by
  refine AC.fit ?_
  refine AC_of_R (N := 61) (res := [.tmp 2, .tmp 3]) ty_ok Tryd.call19 Tryd.func19 rfl rfl rfl (Nat.le_of_ble_eq_true rfl) ?_
  have km := may_ac p hf ho.2.2.2.2.2
  obtain ⟨o1, o2, o3, o4, o5, o6⟩ := ho
  obtain ⟨t1, t2, t3, t4, t5, t6⟩ := tg32 p.tg o6
  obtain ⟨W, hW⟩ : ∃ W, W = putP p := ⟨_, rfl⟩
  rw [← hW]
  rw [putP] at hW
  rw [hm] at km
  simp only [pktE, itE, List.cons_append, List.nil_append] at km
  obtain ⟨fr, to, sq, ak, kd, ep, f, tg⟩ := p
  simp only at *
  refine rn1 (jn @pktE.eq_1 (jn @itE.eq_1 (jn @fctE.eq_1 (jn @t1 (jn @t2 (jn @t3 (jn @t4 (jn @t5 (jn @t6 @tA_allD))))))))) ?_
  refine HO_pureA ty_ok km ?_
  obtain ⟨⟨m1, m2, _⟩, _, _, m5⟩ := may_parts hm
  have m1 := txtOK_size m1
  have m2 := txtOK_size m2
  simp only at m1 m2 m5
  have p1 := putText_dat [] fr (by simp) (by simp; omega)
  have l1 := putTx_le [] fr (by omega)
  rw [List.length_nil] at l1
  generalize putTx [] fr = b1 at *
  have p2 := putText_dat b1 to (by omega) (by omega)
  have l2 := putTx_le b1 to (by omega)
  generalize putTx b1 to = b2 at *
  have p3 := putInt_dat b2 sq o1.1 o1.2 (by omega)
  have l3 := putI_le b2 sq o1.1 o1.2
  generalize putI b2 sq = b3 at *
  have p4 := putInt_dat b3 ak o2.1 o2.2 (by omega)
  have l4 := putI_le b3 ak o2.1 o2.2
  generalize putI b3 ak = b4 at *
  have p5 : AC Tryd.prog noG 35 [.d (.sl 1 b4.length (bD b4)), .d (.c (.int .i64 kd))] [] (fun v r' => v = .sl (.own 0) 1 (putI b4 kd).length (bD (putI b4 kd)) ∧ r' = [some (.tok (putI b4 kd).length)]) := putInt_ac b4 kd o3.1 o3.2 (by omega)
  have l5 := putI_le b4 kd o3.1 o3.2
  generalize putI b4 kd = b5 at *
  have p6 := putInt_dat b5 ep o4.1 o4.2 (by omega)
  have p6o : AC Tryd.prog noG 35 [.d (.sl 1 b5.length (bD b5)), .d (.c (.int .i64 ep))] [] (fun v r' => v = .sl (.own 0) 1 (putI b5 ep).length (bD (putI b5 ep)) ∧ r' = [some (.tok (putI b5 ep).length)]) := putInt_ac b5 ep o4.1 o4.2 (by omega)
  have l6 := putI_le b5 ep o4.1 o4.2
  generalize putI b5 ep = b6 at *
  refine rn1 (jn @pktE.eq_1 (jn @itE.eq_1 (jn @fctE.eq_1 (jn @t1 (jn @t2 (jn @t3 (jn @t4 (jn @t5 (jn @t6 @tA_allD))))))))) ?_
  refine HC_order [2] ty_ok mix [0, 1, 3, 4, 2, 5, 6] (by kernel_rfl) rfl _ rfl ?_
  simp only [opl_nil', opl_cons', oplC_some, List.getElem?_toArray, List.getElem?_cons_zero, List.getElem?_cons_succ]
  refine rn1 (jn @t1 (jn @t2 (jn @t3 (jn @t4 (jn @t5 (jn @t6 @tA_allD)))))) ?_
  refine HO_pureA ty_ok p1 ?_
  refine rn1 (jn @t1 (jn @t2 (jn @t3 (jn @t4 (jn @t5 (jn @t6 @tA_allD)))))) ?_
  refine HO_pureA ty_ok p2 ?_
  refine rn1 (jn @t1 (jn @t2 (jn @t3 (jn @t4 (jn @t5 (jn @t6 @tA_allD)))))) ?_
  refine HC_loopR (fun x : Nat × AV × Rs => mpSt sq ak kd x.1 x.2.1) (fun x => mpRe kd ep f tg x.2.2) (mpP b2 b3 b4 b5) (fun x => 3 - x.1) (0, dB b2, [none]) [0, 1, 0] [] (.inl rfl) ?_ ?_
  · exact ft1 (jn @mpSt.eq_1 (jn @mpRe.eq_1 (jn @dB.eq_1 @tA_wf)))
  rintro _ (rfl | rfl | rfl | rfl)
  · refine HC_of_R ty_ok ?_
    refine rn1 (jn @mpSt.eq_1 (jn @mpRe.eq_1 (jn @dB.eq_1 (jn @t1 (jn @t2 (jn @t3 (jn @t4 (jn @t5 (jn @t6 @tA_allD))))))))) ?_
    (repeat (refine And.intro (by omega) ?_))
    refine HO_pureA ty_ok p3 ?_
    refine rn0 ?_
    (repeat (refine And.intro (by omega) ?_))
    refine ⟨(1, dB b3, [none]), .inr (.inl rfl), by simp only; omega, [0, 1, 0], [], ?_⟩
    exact ft1 (jn @mpSt.eq_1 (jn @mpRe.eq_1 (jn @dB.eq_1 @tA_wf)))
  · refine HC_of_R ty_ok ?_
    refine rn1 (jn @mpSt.eq_1 (jn @mpRe.eq_1 (jn @dB.eq_1 (jn @t1 (jn @t2 (jn @t3 (jn @t4 (jn @t5 (jn @t6 @tA_allD))))))))) ?_
    (repeat (refine And.intro (by omega) ?_))
    refine HO_pureA ty_ok p4 ?_
    refine rn0 ?_
    (repeat (refine And.intro (by omega) ?_))
    refine ⟨(2, dB b4, [none]), .inr (.inr (.inl rfl)), by simp only; omega, [0, 1, 0], [], ?_⟩
    exact ft1 (jn @mpSt.eq_1 (jn @mpRe.eq_1 (jn @dB.eq_1 @tA_wf)))
  · refine HC_of_R ty_ok ?_
    refine rn1 (jn @mpSt.eq_1 (jn @mpRe.eq_1 (jn @dB.eq_1 (jn @t1 (jn @t2 (jn @t3 (jn @t4 (jn @t5 (jn @t6 @tA_allD))))))))) ?_
    (repeat (refine And.intro (by omega) ?_))
    refine HO_callX ty_ok [] p5 (trivial) rfl ?_
    rintro v r' ⟨rfl, rfl⟩ _
    refine rn0 ?_
    (repeat (refine And.intro (by omega) ?_))
    refine ⟨(3, .sl (.own 2) 1 b5.length (bD b5), [some (.tok b5.length)]), .inr (.inr (.inr rfl)), by simp only; omega, [0, 1, 3], [], ?_⟩
    exact ft1 (jn @mpSt.eq_1 (jn @mpRe.eq_1 (jn @dB.eq_1 @tA_wf)))
  · refine HC_of_R ty_ok ?_
    by_cases c0 : kd = 0
    · rw [if_pos c0] at hW
      subst hW
      refine rn1 (jn @mpSt.eq_1 (jn @mpRe.eq_1 (jn @t1 (jn @t2 (jn @t3 (jn @t4 (jn @t5 (jn @t6 (jn @tA_allD @c0))))))))) ?_
      exact fv0 [2] []
    · rw [if_neg c0] at hW
      by_cases c2 : kd = 2
      · refine rn1 (jn @mpSt.eq_1 (jn @mpRe.eq_1 (jn @t1 (jn @t2 (jn @t3 (jn @t4 (jn @t5 (jn @t6 (jn @tA_allD @c0))))))))) ?_
        refine HO_pureA ty_ok p6 ?_
        rw [if_pos c2] at hW
        have p7 := putF_ac b6 f o5 hf (by omega)
        have l7 := putFR_len (b := b6) (f := f) o5
        have hR : putFR b6 f = putF b6 f := by rw [putFR, if_pos (m5 c2)]
        rw [chkE_ok (m5 c2)] at p7
        rw [hR] at p7 l7
        generalize putF b6 f = b7 at *
        simp only [fctE] at p7
        refine rn1 (jn @t1 (jn @t2 (jn @t3 (jn @t4 (jn @t5 (jn @t6 (jn @tA_allD @c2))))))) ?_
        refine HO_callX ty_ok [] p7 (trivial) rfl ?_
        rintro v r' ⟨rfl, rfl⟩ _
        refine rn1 (jn @t1 (jn @t2 (jn @t3 (jn @t4 (jn @t5 (jn @t6 @tA_allD)))))) ?_
        refine ⟨⟨by decide, by decide⟩, ⟨by omega, by omega⟩, ?_⟩
        have hWl : W.length = b7.length + 32 := by rw [hW, List.length_append, t1]
        rw [← hW, ← hWl]
        exact fv0 [3] []
      · rw [if_neg c2] at hW
        subst hW
        refine rn1 (jn @mpSt.eq_1 (jn @mpRe.eq_1 (jn @t1 (jn @t2 (jn @t3 (jn @t4 (jn @t5 (jn @t6 (jn @tA_allD @c0))))))))) ?_
        refine HO_callX ty_ok [] p6o (trivial) rfl ?_
        rintro v r' ⟨rfl, rfl⟩ _
        refine rn1 (jn @t1 (jn @t2 (jn @t3 (jn @t4 (jn @t5 (jn @t6 (jn @tA_allD @c2))))))) ?_
        exact fv0 [3] []
set_option maxHeartbeats 400000 in
theorem put_ac (p : Pkt) (hf : p.f.l.length ≤ 140737488352000) (ho : okP p) :
    AC Tryd.prog noG 19 [.d (.agg (pktE p))] [] (fun v r' => v = ptV p ∧ r' = []) := by
  cases hm : mayB p with
  | false =>
    refine AC.fit ?_
    refine AC_of_R (N := 61) (res := [.tmp 2, .tmp 3]) ty_ok Tryd.call19 Tryd.func19 rfl rfl rfl (Nat.le_of_ble_eq_true rfl) ?_
    have km := may_ac p hf ho.2.2.2.2.2
    obtain ⟨o1, o2, o3, o4, o5, o6⟩ := ho
    obtain ⟨t1, t2, t3, t4, t5, t6⟩ := tg32 p.tg o6
    have e1 : putX p = [] := by rw [putX, hm]; rfl
    have e2 : putE p = 2 := by rw [putE, hm]; rfl
    rw [ptV, e1, e2]
    rw [hm] at km
    simp only [pktE, itE, List.cons_append, List.nil_append] at km
    refine rn1 (jn @pktE.eq_1 (jn @itE.eq_1 (jn @fctE.eq_1 (jn @t1 (jn @t2 (jn @t3 (jn @t4 (jn @t5 (jn @t6 @tA_allD))))))))) ?_
    refine HO_pureA ty_ok km ?_
    refine rn0 ?_
    exact fv0 [] []
  | true =>
    have e1 : putX p = putP p := by rw [putX, hm]; rfl
    have e2 : putE p = 0 := by rw [putE, hm]; rfl
    rw [ptV, e1, e2]
    exact AC_tup2 (put_own p hf ho hm) (by rintro v r' ⟨rfl, _⟩; rfl)
end Go.Proofs.YtdbicadncccpoaaDoor
