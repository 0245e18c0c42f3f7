/- Contracts: kv.Do and consistoryref14.Do on any cells; events; the small functions on them. -/
import Derived.Test.YthpfadbdkkmagaaPlainHist
import Derived.Test.YthpfadbdkkmagaaIrHist
set_option linter.unusedVariables false
set_option linter.unusedSimpArgs false
namespace Go.Proofs.Ythpfadbdkkmagaa
open Go.Abs Go.RowKit Go.Ours

theorem some_c (n : Int) : ACall Try.prog 25 [.pv (.int .i64 n)] [] (.pagg (clP (true, n))) [] [] := by
  refine ACall.fn (fn := Try.f25) rfl okKvSome rfl (by simp) ?_
  simp only [argT, irKvSome.eq_1, clP]
  simp
theorem cellsP_put {l : List Cl} {k : Nat} (hk : k < l.length) (x : Cl) : (cellsP l).take (k * 2) ++ PV.bool x.1 :: PV.int .i64 x.2 :: (cellsP l).drop (k * 2 + 2) = cellsP (l.set k x) := cellsP_set hk x
theorem kvOne_c (x : Cl) (kd ky a b : Int) (h1 : 1 ≤ kd) (h5 : kd ≤ 5) : ACall Try.prog 24 [.pagg (clP x), .pagg (opP kd ky a b)] [] (.tup [.pagg (clP (oneF (nz x) kd a b).1), .pagg (clP (oneF (nz x) kd a b).2)]) [] [] := by
  refine ACall.fn (fn := Try.f24) rfl okKvOne rfl (by simp) ?_
  simp only [argT, irKvOne.eq_1, opP]
  have sa := some_c a
  have sb := some_c b
  have hc : kd = 1 ∨ kd = 2 ∨ kd = 3 ∨ kd = 4 ∨ kd = 5 := by omega
  obtain ⟨t, n⟩ := x
  have s3 := some_c (IntKind.i64.wrap (n + a))
  have s30 := some_c (IntKind.i64.wrap a)
  simp only [clP] at sa sb s3 s30 ⊢
  cases t
  · rcases hc with rfl | rfl | rfl | rfl | rfl
    · simp [nz, oneF]
    · simp [nz, oneF]
      refine CallG.go sa ?_
      simp
    · simp [nz, oneF]
      refine CallG.go s30 ?_
      simp
    · simp [nz, oneF]
    · simp [nz, oneF]
  · rcases hc with rfl | rfl | rfl | rfl | rfl
    · simp [nz, oneF]
    · simp [nz, oneF]
      refine CallG.go sa ?_
      simp
    · simp [nz, oneF]
      refine CallG.go s3 ?_
      simp
    · by_cases h : n = a
      · subst h
        simp [nz, oneF]
        refine CallG.go sb ?_
        simp
      · simp [nz, oneF, h]
    · simp [nz, oneF]
set_option maxHeartbeats 2000000 in
theorem kvDo_c (l : List Cl) (hl : l.length = 16) (kd ky a b : Int) : ACall Try.prog 20 [.pagg (cellsP l), .pagg (opP kd ky a b)] [] (.tup [.pagg (cellsP (doG l kd ky a b).1), .pagg (clP (doG l kd ky a b).2)]) [] [] := by
  refine ACall.fn (fn := Try.f20) rfl okKvDo rfl (by simp) ?_
  simp only [argT, irKvDo.eq_1]
  have hcl : (cellsP l).length = 32 := by rw [cellsP_len, hl]
  unfold doG okKv
  by_cases h1 : ky < 0
  · have h1' : ¬ 0 ≤ ky := by omega
    simp [opP, h1, h1', hcl, clP]
  · by_cases h2 : 16 ≤ ky
    · have h2' : ¬ ky ≤ 15 := by omega
      simp [opP, h1, h2, h2', hcl, clP]
    · by_cases h3 : kd < 1
      · have h3' : ¬ 1 ≤ kd := by omega
        simp [opP, h1, h2, h3, h3', hcl, clP]
      · by_cases h4 : 5 < kd
        · have h4' : ¬ kd ≤ 5 := by omega
          simp [opP, h1, h2, h3, h4, h4', hcl, clP]
        · have hok : decide (0 ≤ ky ∧ ky ≤ 15 ∧ 1 ≤ kd ∧ kd ≤ 5) = true := by simp; omega
          rw [if_pos hok]
          obtain ⟨k, rfl⟩ : ∃ k : Nat, ky = k := ⟨ky.toNat, by omega⟩
          have hk : k < 16 := by omega
          have hk' : (k : Int) < 16 := by omega
          have h1' : ¬ (k : Int) < 0 := by omega
          have h2' : ¬ (16 : Int) ≤ (k : Int) := by omega
          obtain ⟨x, hx⟩ : ∃ x, l[k]? = some x := ⟨_, List.getElem?_eq_getElem (by omega)⟩
          have hxd : l.getD (k : Int).toNat (false, 0) = x := by rw [Int.toNat_natCast, List.getD_eq_getElem?_getD, hx]; rfl
          rw [hxd, Int.toNat_natCast]
          have hc := kvOne_c x kd k a b (by omega) (by omega)
          have hp := cellsP_part hx
          have hs := fun y => cellsP_put (l := l) (k := k) (by omega) y
          have hkk : k * 2 + 2 ≤ 32 := by omega
          have hcl2 : ∀ y, (cellsP (l.set k y)).length = 32 := fun y => by rw [cellsP_len, List.length_set, hl]
          by_cases g1 : kd = 1
          · have e1 : stays x kd a b = true := by simp [stays, g1]
            rw [if_pos e1]
            subst g1
            generalize oneF (nz x) 1 a b = y at *
            simp only [opP, clP] at *
            simp [h1', h2', hk, hk', hp, hcl, hkk]
            refine CallG.go hc ?_
            simp [hcl]
          · by_cases g4 : kd = 4
            · subst g4
              have e1 : stays x 4 a b = !(oneF (nz x) 4 a b).2.1 := by simp [stays]
              rw [e1]
              have hs1 := hs (oneF (nz x) 4 a b).1
              have hc2 := hcl2 (oneF (nz x) 4 a b).1
              generalize oneF (nz x) 4 a b = y at *
              obtain ⟨y1, y2, y3⟩ := y
              simp only [opP, clP] at *
              cases y2
              · simp [h1', h2', hk, hk', hp, hcl, hkk]
                refine CallG.go hc ?_
                simp [hcl]
              · simp [h1', h2', hk, hk', hp, hcl, hkk]
                refine CallG.go hc ?_
                simp [hcl, hk, hk', h1', hkk, hs1, hc2]
            · have e1 : stays x kd a b = false := by simp [stays, g1, g4]
              rw [if_neg (by rw [e1]; simp)]
              have hs1 := hs (oneF (nz x) kd a b).1
              have hc2 := hcl2 (oneF (nz x) kd a b).1
              generalize (oneF (nz x) kd a b).1 = y1 at *
              generalize (oneF (nz x) kd a b).2 = y2 at *
              simp only [opP, clP] at *
              simp [h1', h2', h3, h4, hk, hk', hp, hcl, hkk]
              refine CallG.go hc ?_
              simp [g1, g4, hcl, hk, hk', h1', hkk, hs1, hc2]
set_option maxHeartbeats 2000000 in
theorem refDo_c (l : List Cl) (hl : l.length = 16) (kd ky a b : Int) : ACall Try.prog 12 [.pagg (cellsP l), .pagg (opP kd ky a b)] [] (.tup [.pagg (cellsP (doG l kd ky a b).1), .pagg (clP (doG l kd ky a b).2)]) [] [] := by
  refine ACall.fn (fn := Try.f12) rfl okRef14Do rfl (by simp) ?_
  simp only [argT, irRef14Do.eq_1]
  have hcl : (cellsP l).length = 32 := by rw [cellsP_len, hl]
  unfold doG okKv
  by_cases h1 : ky < 0
  · have h1' : ¬ 0 ≤ ky := by omega
    simp [opP, h1, h1', hcl, clP]
  · by_cases h2 : 15 < ky
    · have h2' : ¬ ky ≤ 15 := by omega
      simp [opP, h1, h2, h2', hcl, clP]
    · by_cases h3 : kd < 1
      · have h3' : ¬ 1 ≤ kd := by omega
        simp [opP, h1, h2, h3, h3', hcl, clP]
      · by_cases h4 : 5 < kd
        · have h4' : ¬ kd ≤ 5 := by omega
          simp [opP, h1, h2, h3, h4, h4', hcl, clP]
        · have hok : decide (0 ≤ ky ∧ ky ≤ 15 ∧ 1 ≤ kd ∧ kd ≤ 5) = true := by simp; omega
          rw [if_pos hok]
          obtain ⟨k, rfl⟩ : ∃ k : Nat, ky = k := ⟨ky.toNat, by omega⟩
          have hk : k < 16 := by omega
          have hk' : (k : Int) < 16 := by omega
          have h1' : ¬ (k : Int) < 0 := by omega
          have h2' : ¬ (15 : Int) < (k : Int) := by omega
          have h2'' : ¬ 15 < k := by omega
          obtain ⟨x, hx⟩ : ∃ x, l[k]? = some x := ⟨_, List.getElem?_eq_getElem (by omega)⟩
          have hxd : l.getD (k : Int).toNat (false, 0) = x := by rw [Int.toNat_natCast, List.getD_eq_getElem?_getD, hx]; rfl
          rw [hxd, Int.toNat_natCast]
          obtain ⟨p0, p1⟩ := cellsP_get hx
          have hs := fun y => cellsP_put (l := l) (k := k) (by omega) y
          have hkk : k * 2 + 2 ≤ 32 := by omega
          have hk3 : k * 2 + 1 < 32 := by omega
          have hk4 : k * 2 < 32 := by omega
          have hcl2 : ∀ y, (cellsP (l.set k y)).length = 32 := fun y => by rw [cellsP_len, List.length_set, hl]
          have hc : kd = 1 ∨ kd = 2 ∨ kd = 3 ∨ kd = 4 ∨ kd = 5 := by omega
          obtain ⟨t, n⟩ := x
          have s2 := hs (true, a)
          have s3 := hs (true, IntKind.i64.wrap (n + a))
          have s30 := hs (true, IntKind.i64.wrap a)
          have s4 := hs (true, b)
          have s5 := hs (false, 0)
          simp only [opP, clP] at *
          cases t
          · rcases hc with rfl | rfl | rfl | rfl | rfl
            · simp [-getElem?_pos, nz, stays, oneF, h1', h2', h2'', hk, hk', hcl, hkk, hk3, hk4, p0, p1]
            · simp [-getElem?_pos, nz, stays, oneF, h1', h2', h2'', hk, hk', hcl, hkk, hk3, hk4, p0, p1, s2, hcl2]
            · simp [-getElem?_pos, nz, stays, oneF, h1', h2', h2'', hk, hk', hcl, hkk, hk3, hk4, p0, p1, s30, hcl2]
            · simp [-getElem?_pos, nz, stays, oneF, h1', h2', h2'', hk, hk', hcl, hkk, hk3, hk4, p0, p1]
            · simp [-getElem?_pos, nz, stays, oneF, h1', h2', h2'', hk, hk', hcl, hkk, hk3, hk4, p0, p1, s5, hcl2]
          · rcases hc with rfl | rfl | rfl | rfl | rfl
            · simp [-getElem?_pos, nz, stays, oneF, h1', h2', h2'', hk, hk', hcl, hkk, hk3, hk4, p0, p1]
            · simp [-getElem?_pos, nz, stays, oneF, h1', h2', h2'', hk, hk', hcl, hkk, hk3, hk4, p0, p1, s2, hcl2]
            · simp [-getElem?_pos, nz, stays, oneF, h1', h2', h2'', hk, hk', hcl, hkk, hk3, hk4, p0, p1, s3, hcl2]
            · by_cases h : n = a
              · subst h
                simp [-getElem?_pos, nz, stays, oneF, h1', h2', h2'', hk, hk', hcl, hkk, hk3, hk4, p0, p1, s4, hcl2]
              · simp [-getElem?_pos, nz, stays, oneF, h1', h2', h2'', hk, hk', hcl, hkk, hk3, hk4, p0, p1, h]
            · simp [-getElem?_pos, nz, stays, oneF, h1', h2', h2'', hk, hk', hcl, hkk, hk3, hk4, p0, p1, s5, hcl2]

/-- An event's cells. -/
def evP (e : Ev) : List PV := [.int .i64 e.kd, .int .i64 e.ky, .int .i64 e.a, .int .i64 e.b, .int .i64 e.bg, .int .i64 e.en, .bool e.dn, .bool e.rs.1, .int .i64 e.rs.2]
def evs (l : List Ev) : List (List PV) := l.map evP
theorem evs_get (l : List Ev) (i : Nat) : (evs l)[i]? = l[i]?.map evP := by simp [evs]
theorem evs_length (l : List Ev) : (evs l).length = l.length := by simp [evs]
theorem ahead_c (a b : Ev) : ACall Try.prog 23 [.pagg (evP a), .pagg (evP b)] [] (.pv (.bool (aheadB a b))) [] [] := by
  refine ACall.fn (fn := Try.f23) rfl okHistAhead rfl (by simp) ?_
  simp only [argT, irHistAhead.eq_1, evP, aheadB]
  obtain ⟨k1, k2, k3, k4, k5, k6, d, k8⟩ := a
  cases d <;> simp
theorem right_c (e : Ev) : ACall Try.prog 15 [.pagg (evP e)] [] (.pv (.bool (rightE e))) [] [] := by
  refine ACall.fn (fn := Try.f15) rfl okHistRight rfl (by simp) ?_
  simp only [argT, irHistRight.eq_1, evP, rightE, okKv]
  obtain ⟨k1, k2, k3, k4, k5, k6, d, k8⟩ := e
  by_cases h1 : 1 ≤ k1
  · by_cases h2 : k1 ≤ 5
    · by_cases h3 : 0 ≤ k2
      · by_cases h4 : k2 ≤ 15
        · have h4' : k2 < 16 := by omega
          cases d
          · simp [h1, h2, h3, h4, h4']
          · simp [h1, h2, h3, h4, h4']
        · have h4' : ¬ k2 < 16 := by omega
          simp [h1, h2, h3, h4, h4']
      · simp [h1, h2, h3]
    · simp [h1, h2]
  · simp [h1]
theorem refRight_c (e : Ev) : ACall Try.prog 17 [.pagg (evP e)] [] (.pv (.bool (rightE e))) [] [] := by
  refine ACall.fn (fn := Try.f17) rfl okRef26Right rfl (by simp) ?_
  simp only [argT, irRef26Right.eq_1, evP, rightE, okKv]
  obtain ⟨k1, k2, k3, k4, k5, k6, d, k8⟩ := e
  by_cases h1 : 1 ≤ k1
  · by_cases h2 : k1 ≤ 5
    · by_cases h3 : 0 ≤ k2
      · by_cases h4 : k2 ≤ 15
        · have h4' : k2 < 16 := by omega
          cases d
          · simp [h1, h2, h3, h4, h4']
          · simp [h1, h2, h3, h4, h4']
        · have h4' : ¬ k2 < 16 := by omega
          simp [h1, h2, h3, h4, h4']
      · simp [h1, h2, h3]
    · simp [h1, h2]
  · simp [h1]
end Go.Proofs.Ythpfadbdkkmagaa
