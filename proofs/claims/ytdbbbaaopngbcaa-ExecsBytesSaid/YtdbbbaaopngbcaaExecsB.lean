/- Ops right for a client; what an op on the values of keys comes to: contracts. -/
import Derived.Test.YtdbbbaaopngbcaaExecsA
set_option linter.unusedVariables false
set_option linter.unusedSimpArgs false
namespace Go.Proofs.Ytdbbbaaopngbcaa
open Go.Abs Go.RowKit Go.Ours

set_option maxHeartbeats 2000000 in
theorem reqRight_c (c kd ky a b : Int) : ACall Try.prog 49 [.pv (.int .i64 c), .pagg (opP kd ky a b)] [] (.pv (.bool (opOk c kd ky a b))) [] [] := by
  refine ACall.fn (fn := Try.f49) rfl okReqsRight rfl (by simp) ?_
  simp only [argT, irReqsRight.eq_1, opP]
  unfold opOk
  by_cases h0 : c = 0
  · subst h0
    by_cases h1 : kd = 6
    · by_cases h2 : ky = 0
      · by_cases h3 : b = 0
        · by_cases h4 : 0 ≤ a
          · by_cases h5 : a ≤ 65535
            · simp [h1, h2, h3, h4, h5]
            · simp [h1, h2, h3, h4, h5]
          · simp [h1, h2, h3, h4]
        · simp [h1, h2, h3]
      · simp [h1, h2]
    · simp [h1]
  · by_cases h1 : ky < 0
    · have h1' : ¬ 0 ≤ ky := by omega
      simp [h0, h1, h1']
    · have h1' : 0 ≤ ky := by omega
      by_cases h2 : 16 ≤ ky
      · have h2' : ¬ ky ≤ 15 := by omega
        simp [h0, h1, h1', h2, h2']
      · have h2' : ky ≤ 15 := by omega
        by_cases k1 : kd = 1
        · subst k1
          by_cases h3 : a = 0 <;> by_cases h4 : b = 0 <;> simp [h0, h1, h1', h2, h2', h3, h4]
        · by_cases k5 : kd = 5
          · subst k5
            by_cases h3 : a = 0 <;> by_cases h4 : b = 0 <;> simp [h0, h1, h1', h2, h2', h3, h4]
          · by_cases k2 : kd = 2
            · subst k2
              by_cases h4 : b = 0 <;> simp [h0, h1, h1', h2, h2', h4]
            · by_cases k3 : kd = 3
              · subst k3
                by_cases h4 : b = 0 <;> simp [h0, h1, h1', h2, h2', h4]
              · by_cases k4 : kd = 4
                · subst k4
                  simp [h0, h1, h1', h2, h2']
                · have hk : ¬ (1 ≤ kd ∧ kd ≤ 5) := by omega
                  simp [h0, h1, h1', h2, h2', k1, k2, k3, k4, k5]
                  omega
set_option maxHeartbeats 2000000 in
theorem refReqRight_c (c kd ky a b : Int) : ACall Try.prog 25 [.pv (.int .i64 c), .pagg (opP kd ky a b)] [] (.pv (.bool (opOk c kd ky a b))) [] [] := by
  refine ACall.fn (fn := Try.f25) rfl okRef07Right rfl (by simp) ?_
  simp only [argT, irRef07Right.eq_1, opP]
  unfold opOk
  by_cases h0 : c = 0
  · subst h0
    by_cases h1 : kd = 6
    · by_cases h2 : ky = 0
      · by_cases h3 : b = 0
        · by_cases h4 : 0 ≤ a
          · by_cases h5 : a ≤ 65535
            · simp [h1, h2, h3, h4, h5]
            · simp [h1, h2, h3, h4, h5]
          · simp [h1, h2, h3, h4]
        · simp [h1, h2, h3]
      · simp [h1, h2]
    · simp [h1]
  · by_cases k0 : kd < 1
    · have k0' : ¬ 1 ≤ kd := by omega
      simp [h0, k0, k0']
    · have k0' : 1 ≤ kd := by omega
      by_cases k6 : 5 < kd
      · have k6' : ¬ kd ≤ 5 := by omega
        simp [h0, k0, k0', k6, k6']
      · have k6' : kd ≤ 5 := by omega
        by_cases h1 : ky < 0
        · have h1' : ¬ 0 ≤ ky := by omega
          simp [h0, k0, k0', k6, k6', h1, h1']
        · have h1' : 0 ≤ ky := by omega
          by_cases h2 : 15 < ky
          · have h2' : ¬ ky ≤ 15 := by omega
            simp [h0, k0, k0', k6, k6', h1, h1', h2, h2']
          · have h2' : ky ≤ 15 := by omega
            by_cases k1 : kd = 1
            · subst k1
              by_cases h3 : a = 0 <;> by_cases h4 : b = 0 <;> simp [h0, h1, h1', h2, h2', h3, h4]
            · by_cases k5 : kd = 5
              · subst k5
                by_cases h3 : a = 0 <;> by_cases h4 : b = 0 <;> simp [h0, h1, h1', h2, h2', h3, h4]
              · by_cases k4 : kd = 4
                · subst k4
                  simp [h0, h1, h1', h2, h2']
                · by_cases h4 : b = 0 <;> simp [h0, k0, k0', k6, k6', h1, h1', h2, h2', k1, k4, k5, h4]
theorem some_c (n : Int) : ACall Try.prog 69 [.pv (.int .i64 n)] [] (.pagg (clP (true, n))) [] [] := by
  refine ACall.fn (fn := Try.f69) rfl okKvSome rfl (by simp) ?_
  simp only [argT, irKvSome.eq_1, clP]
  simp
theorem cellsP_put {l : List Cl} {k : Nat} (hk : k < l.length) (x : Cl) : (cellsP l).take (k * 2) ++ PV.bool x.1 :: PV.int .i64 x.2 :: (cellsP l).drop (k * 2 + 2) = cellsP (l.set k x) := cellsP_set hk x
theorem kvOne_c (x : Cl) (hx : nrm x) (kd ky a b : Int) (h1 : 1 ≤ kd) (h5 : kd ≤ 5) : ACall Try.prog 51 [.pagg (clP x), .pagg (opP kd ky a b)] [] (.tup [.pagg (clP (oneF x kd a b).1), .pagg (clP (oneF x kd a b).2)]) [] [] := by
  refine ACall.fn (fn := Try.f51) rfl okKvOne rfl (by simp) ?_
  simp only [argT, irKvOne.eq_1, opP]
  have sa := some_c a
  have sb := some_c b
  have hc : kd = 1 ∨ kd = 2 ∨ kd = 3 ∨ kd = 4 ∨ kd = 5 := by omega
  obtain ⟨t, n⟩ := x
  have s3 := some_c (IntKind.i64.wrap (n + a))
  have s30 := some_c (IntKind.i64.wrap a)
  simp only [clP] at sa sb s3 s30 ⊢
  cases t
  · have hn : n = 0 := hx rfl
    subst hn
    rcases hc with rfl | rfl | rfl | rfl | rfl
    · simp [oneF]
    · simp [oneF]
      refine CallG.go sa ?_
      simp
    · simp [oneF]
      refine CallG.go s30 ?_
      simp
    · simp [oneF]
    · simp [oneF]
  · rcases hc with rfl | rfl | rfl | rfl | rfl
    · simp [oneF]
    · simp [oneF]
      refine CallG.go sa ?_
      simp
    · simp [oneF]
      refine CallG.go s3 ?_
      simp
    · by_cases h : n = a
      · subst h
        simp [oneF]
        refine CallG.go sb ?_
        simp
      · simp [oneF, h]
    · simp [oneF]
theorem set_same {α : Type} {l : List α} {k : Nat} {x : α} (h : l[k]? = some x) : l.set k x = l := by
  apply List.ext_getElem?
  intro i
  rw [List.getElem?_set]
  split
  · rename_i hi
    subst hi
    split
    · exact h.symm
    · rename_i hl
      rw [List.getElem?_eq_none (by omega)]
  · rfl
set_option maxHeartbeats 2000000 in
theorem kvDo_c (l : List Cl) (hl : l.length = 16) (hn : ∀ x ∈ l, nrm x) (kd ky a b : Int) : ACall Try.prog 24 [.pagg (cellsP l), .pagg (opP kd ky a b)] [] (.tup [.pagg (cellsP (doF l kd ky a b).1), .pagg (clP (doF l kd ky a b).2)]) [] [] := by
  refine ACall.fn (fn := Try.f24) rfl okKvDo rfl (by simp) ?_
  simp only [argT, irKvDo.eq_1]
  have hcl : (cellsP l).length = 32 := by rw [cellsP_len, hl]
  unfold doF okKv
  by_cases h1 : ky < 0
  · have h1' : ¬ 0 ≤ ky := by omega
    simp [opP, h1, h1', hcl, clP]
  · by_cases h2 : 16 ≤ ky
    · have h2' : ¬ ky ≤ 15 := by omega
      simp [opP, h1, h2, h2', hcl, clP]
    · by_cases h3 : kd < 1
      · have h3' : ¬ 1 ≤ kd := by omega
        simp [opP, h1, h2, h3, h3', hcl, clP]
      · by_cases h4 : 5 < kd
        · have h4' : ¬ kd ≤ 5 := by omega
          simp [opP, h1, h2, h3, h4, h4', hcl, clP]
        · have hok : decide (0 ≤ ky ∧ ky ≤ 15 ∧ 1 ≤ kd ∧ kd ≤ 5) = true := by simp; omega
          rw [if_pos hok]
          obtain ⟨k, rfl⟩ : ∃ k : Nat, ky = k := ⟨ky.toNat, by omega⟩
          have hk : k < 16 := by omega
          have hk' : (k : Int) < 16 := by omega
          have h1' : ¬ (k : Int) < 0 := by omega
          have h2' : ¬ (16 : Int) ≤ (k : Int) := by omega
          obtain ⟨x, hx⟩ : ∃ x, l[k]? = some x := ⟨_, List.getElem?_eq_getElem (by omega)⟩
          have hxd : l.getD (k : Int).toNat (false, 0) = x := by rw [Int.toNat_natCast, List.getD_eq_getElem?_getD, hx]; rfl
          rw [hxd, Int.toNat_natCast]
          have hxn := hn x (List.mem_of_getElem? hx)
          have hc := kvOne_c x hxn kd k a b (by omega) (by omega)
          have hp := cellsP_part hx
          have hs := fun y => cellsP_put (l := l) (k := k) (by omega) y
          have hlen : (clP (oneF x kd a b).1).length = 2 := rfl
          have hkk : k * 2 + 2 ≤ 32 := by omega
          have hcl2 : ∀ y, (cellsP (l.set k y)).length = 32 := fun y => by rw [cellsP_len, List.length_set, hl]
          by_cases g1 : kd = 1
          · have e1 : (oneF x kd a b).1 = x := by simp [oneF, g1]
            have e2 : l.set k x = l := set_same hx
            rw [e1, e2]
            rw [e1] at hc
            simp only [opP] at hc ⊢
            subst g1
            generalize (oneF x 1 a b).2 = y at *
            simp only [clP] at *
            simp [h1', h2', hk, hk', hp, hcl, hkk]
            refine CallG.go hc ?_
            simp [hcl]
          · by_cases g4 : kd = 4
            · subst g4
              by_cases g : x.1 = true ∧ x.2 = a
              · have e1 : oneF x 4 a b = ((true, b), (true, b)) := by simp [oneF, g]
                rw [e1] at hc ⊢
                have hs1 := hs (true, b)
                simp only [opP, clP] at *
                simp [h1', h2', hk, hk', hp, hcl, hkk]
                refine CallG.go hc ?_
                simp [hcl, hk, hk', h1', hkk, hs1, hcl2]
              · have e1 : oneF x 4 a b = (x, (false, x.2)) := by simp [oneF, g]
                have e2 : l.set k x = l := set_same hx
                rw [e1] at hc ⊢
                rw [e2]
                simp only [opP, clP] at *
                simp [h1', h2', hk, hk', hp, hcl, hkk]
                refine CallG.go hc ?_
                simp [hcl]
            · have hs1 := hs (oneF x kd a b).1
              have hc2 := hcl2 (oneF x kd a b).1
              generalize (oneF x kd a b).1 = y1 at *
              generalize (oneF x kd a b).2 = y2 at *
              simp only [opP, clP] at *
              simp [h1', h2', h3, h4, hk, hk', hp, hcl, hkk]
              refine CallG.go hc ?_
              simp [g1, g4, hcl, hk, hk', h1', hkk, hs1, hc2]
set_option maxHeartbeats 2000000 in
theorem refDo_c (l : List Cl) (hl : l.length = 16) (hn : ∀ x ∈ l, nrm x) (kd ky a b : Int) : ACall Try.prog 27 [.pagg (cellsP l), .pagg (opP kd ky a b)] [] (.tup [.pagg (cellsP (doF l kd ky a b).1), .pagg (clP (doF l kd ky a b).2)]) [] [] := by
  refine ACall.fn (fn := Try.f27) rfl okRef14Do rfl (by simp) ?_
  simp only [argT, irRef14Do.eq_1]
  have hcl : (cellsP l).length = 32 := by rw [cellsP_len, hl]
  unfold doF okKv
  by_cases h1 : ky < 0
  · have h1' : ¬ 0 ≤ ky := by omega
    simp [opP, h1, h1', hcl, clP]
  · by_cases h2 : 15 < ky
    · have h2' : ¬ ky ≤ 15 := by omega
      simp [opP, h1, h2, h2', hcl, clP]
    · by_cases h3 : kd < 1
      · have h3' : ¬ 1 ≤ kd := by omega
        simp [opP, h1, h2, h3, h3', hcl, clP]
      · by_cases h4 : 5 < kd
        · have h4' : ¬ kd ≤ 5 := by omega
          simp [opP, h1, h2, h3, h4, h4', hcl, clP]
        · have hok : decide (0 ≤ ky ∧ ky ≤ 15 ∧ 1 ≤ kd ∧ kd ≤ 5) = true := by simp; omega
          rw [if_pos hok]
          obtain ⟨k, rfl⟩ : ∃ k : Nat, ky = k := ⟨ky.toNat, by omega⟩
          have hk : k < 16 := by omega
          have hk' : (k : Int) < 16 := by omega
          have h1' : ¬ (k : Int) < 0 := by omega
          have h2' : ¬ (15 : Int) < (k : Int) := by omega
          have h2'' : ¬ 15 < k := by omega
          obtain ⟨x, hx⟩ : ∃ x, l[k]? = some x := ⟨_, List.getElem?_eq_getElem (by omega)⟩
          have hxd : l.getD (k : Int).toNat (false, 0) = x := by rw [Int.toNat_natCast, List.getD_eq_getElem?_getD, hx]; rfl
          rw [hxd, Int.toNat_natCast]
          have hxn := hn x (List.mem_of_getElem? hx)
          obtain ⟨p0, p1⟩ := cellsP_get hx
          have e2 : l.set k x = l := set_same hx
          have hs := fun y => cellsP_put (l := l) (k := k) (by omega) y
          have hkk : k * 2 + 2 ≤ 32 := by omega
          have hk3 : k * 2 + 1 < 32 := by omega
          have hk4 : k * 2 < 32 := by omega
          have hcl2 : ∀ y, (cellsP (l.set k y)).length = 32 := fun y => by rw [cellsP_len, List.length_set, hl]
          have hc : kd = 1 ∨ kd = 2 ∨ kd = 3 ∨ kd = 4 ∨ kd = 5 := by omega
          obtain ⟨t, n⟩ := x
          have s2 := hs (true, a)
          have s3 := hs (true, IntKind.i64.wrap (n + a))
          have s4 := hs (true, b)
          have s5 := hs (false, 0)
          simp only [opP, clP] at *
          cases t
          · have hn0 : n = 0 := hxn rfl
            subst hn0
            rcases hc with rfl | rfl | rfl | rfl | rfl
            · simp [-getElem?_pos, oneF, h1', h2', h2'', hk, hk', hcl, hkk, hk3, hk4, p0, p1, e2]
            · simp [-getElem?_pos, oneF, h1', h2', h2'', hk, hk', hcl, hkk, hk3, hk4, p0, p1, s2, hcl2]
            · rw [Int.zero_add] at s3
              simp [-getElem?_pos, oneF, h1', h2', h2'', hk, hk', hcl, hkk, hk3, hk4, p0, p1, s3, hcl2]
            · simp [-getElem?_pos, oneF, h1', h2', h2'', hk, hk', hcl, hkk, hk3, hk4, p0, p1, e2]
            · simp [-getElem?_pos, oneF, h1', h2', h2'', hk, hk', hcl, hkk, hk3, hk4, p0, p1, s5, hcl2]
          · rcases hc with rfl | rfl | rfl | rfl | rfl
            · simp [-getElem?_pos, oneF, h1', h2', h2'', hk, hk', hcl, hkk, hk3, hk4, p0, p1, e2]
            · simp [-getElem?_pos, oneF, h1', h2', h2'', hk, hk', hcl, hkk, hk3, hk4, p0, p1, s2, hcl2]
            · simp [-getElem?_pos, oneF, h1', h2', h2'', hk, hk', hcl, hkk, hk3, hk4, p0, p1, s3, hcl2]
            · by_cases h : n = a
              · subst h
                simp [-getElem?_pos, oneF, h1', h2', h2'', hk, hk', hcl, hkk, hk3, hk4, p0, p1, s4, hcl2]
              · simp [-getElem?_pos, oneF, h1', h2', h2'', hk, hk', hcl, hkk, hk3, hk4, p0, p1, h, e2]
            · simp [-getElem?_pos, oneF, h1', h2', h2'', hk, hk', hcl, hkk, hk3, hk4, p0, p1, s5, hcl2]
end Go.Proofs.Ytdbbbaaopngbcaa
