/- The law KvSame. -/
import Derived.Test.YtphkfhgeliefcaaKvPutIr
import Derived.Test.YtphkfhgeliefcaaArgTxt
set_option linter.unusedVariables false
set_option linter.unusedSimpArgs false
namespace Go.Proofs.Ytphkfhgeliefcaa
open Go.Abs Go.RowKit Go.Ours

theorem ksl (A B : List Cl) (hA : A.length = 16) (hB : B.length = 16) : ∀ (a b : List Cl) (k : Nat), A.drop k = a → B.drop k = b → k ≤ 16 → ∀ (Q : Exit → S → Prop),
   (sameK a b = true → ∀ c d, Q (.exit 0) (mk [(2, .ptr 2 0), (3, .ptr 3 0), (5, c), (6, d), (7, .pv (.bool false))] [(2, .pagg (cellsP A)), (3, .pagg (cellsP B))])) →
   (sameK a b = false → Q .ret (mk [(4, .pv (.bool false))] [])) →
   LoopW Try.prog [2, 3, 5] [2, 3] irRef14Same_L1 (mk [(2, .ptr 2 0), (3, .ptr 3 0), (5, .pv (.int .i64 (k : Nat)))] [(2, .pagg (cellsP A)), (3, .pagg (cellsP B))]) Q := by
  intro a
  have hcA : (cellsP A).length = 32 := by rw [cellsP_len, hA]
  have hcB : (cellsP B).length = 32 := by rw [cellsP_len, hB]
  induction a with
  | nil =>
    intro b k ha hb hk Q h1 h2
    have hk2 : k = 16 := by
      have := congrArg List.length ha
      simp [hA] at this
      omega
    subst hk2
    refine LoopW.go irRef14Same_L1.eq_1 (by simp) ?_
    simp
    exact h1 (by simp [sameK]) _ _
  | cons x a ih =>
    intro b k ha hb hk Q h1 h2
    have hlt : k < 16 := by
      have := congrArg List.length ha
      simp [hA] at this
      omega
    obtain ⟨y, b', rfl⟩ : ∃ y b', b = y :: b' := by
      match b, hb with
      | [], hb =>
        have := congrArg List.length hb
        simp [hB] at this
        omega
      | y :: b', _ => exact ⟨y, b', rfl⟩
    have hx : A[k]? = some x := by
      have := congrArg (·[0]?) ha
      simpa using this
    have hy : B[k]? = some y := by
      have := congrArg (·[0]?) hb
      simpa using this
    have ha' : A.drop (k + 1) = a := by
      have := congrArg (List.drop 1) ha
      simpa [List.drop_drop, Nat.add_comm] using this
    have hb' : B.drop (k + 1) = b' := by
      have := congrArg (List.drop 1) hb
      simpa [List.drop_drop, Nat.add_comm] using this
    have i1 : (k : Int) < 16 := by omega
    have wk : IntKind.i64.wrap ((k : Int) + 1) = (k + 1 : Nat) := by rw [wrap_i64] <;> omega
    obtain ⟨gx1, gx2⟩ := cellsP_get hx
    obtain ⟨gy1, gy2⟩ := cellsP_get hy
    have hn := ih b' (k + 1) ha' hb' (by omega) Q
    rw [sameK] at h1 h2
    obtain ⟨tx, nx⟩ := x
    obtain ⟨ty, ny⟩ := y
    simp only at gx1 gx2 gy1 gy2 h1 h2
    generalize cellsP A = PA at *
    generalize cellsP B = PB at *
    have k32 : k * 2 < 32 := by omega
    have k33 : k * 2 + 1 < 32 := by omega
    cases tx <;> cases ty
    · refine LoopW.go irRef14Same_L1.eq_1 (by simp) ?_
      simp [-getElem?_pos, i1, hlt, hcA, hcB, gx1, gx2, gy1, gy2, wk, k32, k33]
      exact hn (by simpa using h1) (by simpa using h2)
    · refine LoopW.go irRef14Same_L1.eq_1 (by simp) ?_
      simp [-getElem?_pos, i1, hlt, hcA, hcB, gx1, gx2, gy1, gy2, wk, k32, k33]
      exact h2 (by simp)
    · refine LoopW.go irRef14Same_L1.eq_1 (by simp) ?_
      simp [-getElem?_pos, i1, hlt, hcA, hcB, gx1, gx2, gy1, gy2, wk, k32, k33]
      exact h2 (by simp)
    · by_cases e : nx = ny
      · subst e
        refine LoopW.go irRef14Same_L1.eq_1 (by simp) ?_
        simp [-getElem?_pos, i1, hlt, hcA, hcB, gx1, gx2, gy1, gy2, wk, k32, k33]
        exact hn (by simpa using h1) (by simpa using h2)
      · refine LoopW.go irRef14Same_L1.eq_1 (by simp) ?_
        simp [-getElem?_pos, i1, hlt, hcA, hcB, gx1, gx2, gy1, gy2, wk, k32, k33, e]
        exact h2 (by simp [e])
theorem ksame_c (A B : List Cl) (hA : A.length = 16) (hB : B.length = 16) : ACall Try.prog 10 [.pagg (cellsP A), .pagg (cellsP B)] [] (.pv (.bool (sameK A B))) [] [] := by
  refine ACall.fn (fn := Try.f10) rfl okRef14Same rfl (by simp) ?_
  simp only [argT, irRef14Same.eq_1]
  have hlp := ksl A B hA hB A B 0 rfl rfl (by omega)
  generalize cellsP A = PA at *
  generalize cellsP B = PB at *
  simp
  refine hlp _ (fun h c d => ?_) fun h => ?_
  · simp [h]
  · simp [h]
theorem wakesDo : ACall Try.prog 8 [.pagg [.bool false, .int .i64 0, .bool false, .int .i64 0, .bool false, .int .i64 0, .bool false, .int .i64 0, .bool false, .int .i64 0, .bool false, .int .i64 0, .bool false, .int .i64 0, .bool false, .int .i64 0, .bool false, .int .i64 0, .bool false, .int .i64 0, .bool false, .int .i64 0, .bool false, .int .i64 0, .bool false, .int .i64 0, .bool false, .int .i64 0, .bool false, .int .i64 0, .bool false, .int .i64 0], .pagg [.int .i64 3, .int .i64 3, .int .i64 5, .int .i64 0]] [] (.tup [.pagg [.bool false, .int .i64 0, .bool false, .int .i64 0, .bool false, .int .i64 0, .bool true, .int .i64 5, .bool false, .int .i64 0, .bool false, .int .i64 0, .bool false, .int .i64 0, .bool false, .int .i64 0, .bool false, .int .i64 0, .bool false, .int .i64 0, .bool false, .int .i64 0, .bool false, .int .i64 0, .bool false, .int .i64 0, .bool false, .int .i64 0, .bool false, .int .i64 0, .bool false, .int .i64 0], .pagg [.bool true, .int .i64 5]]) [] [] := by
  have h := kvDo_c (List.replicate 16 (false, 0)) rfl (by intro x hx; rw [List.eq_of_mem_replicate hx]; intro; rfl) 3 3 5 0
  have e1 : (doF (List.replicate 16 (false, 0)) 3 3 5 0) = ([(false, 0), (false, 0), (false, 0), (true, 5), (false, 0), (false, 0), (false, 0), (false, 0), (false, 0), (false, 0), (false, 0), (false, 0), (false, 0), (false, 0), (false, 0), (false, 0)], (true, 5)) := by decide +kernel
  rw [e1] at h
  exact h
theorem kwakes_c : ACall Try.prog 7 [] [] (.pv (.bool true)) [] [] := by
  refine ACall.fn (fn := Try.f7) rfl okLaw14Wakes rfl (by simp) ?_
  simp only [argT, irLaw14Wakes.eq_1]
  have c := wakesDo
  have e : List.replicate 4 (PV.int .i64 0) = [.int .i64 0, .int .i64 0, .int .i64 0, .int .i64 0] := rfl
  simp [-List.reduceReplicate, e]
  refine CallG.go c ?_
  simp [ckAll, ckOne, eqPVs, eqPV]
theorem lawSame_c (A B : List Cl) (hA : A.length = 16) (hB : B.length = 16) (rA : ∀ x ∈ A, -9223372036854775808 ≤ x.2 ∧ x.2 < 9223372036854775808) (rB : ∀ x ∈ B, -9223372036854775808 ≤ x.2 ∧ x.2 < 9223372036854775808) : ACall Try.prog 6 [.pagg (cellsP A), .pagg (cellsP B)] [] (.pv (.bool true)) [] [] := by
  refine ACall.fn (fn := Try.f6) rfl okLaw14KvSame rfl (by simp) ?_
  simp only [argT, irLaw14KvSame.eq_1]
  have c1 := kvPut_c A hA rA
  have c2 := kvPut_c B hB rB
  have c4 := ksame_c A B hA hB
  have hs := kvPut_same A B (hA.trans hB.symm)
  have hcA : (cellsP A).length = 32 := by rw [cellsP_len, hA]
  have hcB : (cellsP B).length = 32 := by rw [cellsP_len, hB]
  have hl : (packed (cntK A) ++ putK 0 A).length < 1000000000000 := by
    have h1 := putK_len A 0 rA
    have h2 := packed_len64 (cntK A) (by have := cntK_le A; omega)
    rw [List.length_append]
    omega
  have c3 := same_c (packed (cntK A) ++ putK 0 A) (packed (cntK B) ++ putK 0 B) hl
  have hd : decide (packed (cntK A) ++ putK 0 A = packed (cntK B) ++ putK 0 B) = sameK A B := by
    cases h : sameK A B <;> simp [h] at hs ⊢ <;> exact hs
  rw [hd] at c3
  generalize packed (cntK A) ++ putK 0 A = pA at *
  generalize packed (cntK B) ++ putK 0 B = pB at *
  generalize sameK A B = s at *
  generalize cellsP A = PA at *
  generalize cellsP B = PB at *
  simp
  refine CallG.go kwakes_c ?_
  simp [hcA, hcB]
  refine CallG.go c1 ?_
  simp [hcA, hcB]
  refine CallG.go c2 ?_
  simp
  refine CallG.go c3 ?_
  simp [hcA, hcB]
  refine CallG.go c4 ?_
  simp
theorem ok_pair {a b : Shp} {ps : List PV} (h : OKs (.pair a b) ps) : ∃ p q, ps = p ++ q ∧ OKs a p ∧ OKs b q := ⟨_, _, (List.take_append_drop _ _).symm, h.1, h.2⟩
theorem ok_i {ps : List PV} (h : OKs (.int .i64) ps) : ∃ n, ps = [.int .i64 n] ∧ -9223372036854775808 ≤ n ∧ n < 9223372036854775808 := ok_i64 h
theorem ok_unit {ps : List PV} (h : OKs .unit ps) : ps = [] := h
theorem ok_arr {α : Type} {f : α → List PV} {Q : α → Prop} {e : Shp} (hf : ∀ p, OKs e p → ∃ x, Q x ∧ p = f x) : ∀ {n : Nat} {ps : List PV}, OKs (.arr n e) ps → ∃ l : List α, ps = l.flatMap f ∧ l.length = n ∧ ∀ x ∈ l, Q x
  | 0, ps, h => by
    obtain ⟨h1, _⟩ := h
    rw [Nat.zero_mul] at h1
    exact ⟨[], List.eq_nil_of_length_eq_zero h1, rfl, by simp⟩
  | n + 1, ps, h => by
    obtain ⟨h1, h2⟩ := h
    obtain ⟨x, hq, hx⟩ := hf _ (h2 0 (by omega))
    rw [Nat.zero_mul, List.drop_zero] at hx
    obtain ⟨l, g1, g2, g3⟩ := ok_arr hf (n := n) (ps := ps.drop e.size) ⟨by rw [List.length_drop, h1, Nat.succ_mul]; omega, fun i hi => by
      have := h2 (i + 1) (by omega)
      rw [List.drop_drop]
      rw [Nat.succ_mul, Nat.add_comm] at this
      exact this⟩
    refine ⟨x :: l, ?_, by simp [g2], fun y hy => by rcases List.mem_cons.1 hy with rfl | hy; exact hq; exact g3 y hy⟩
    rw [List.flatMap_cons, ← g1, ← hx, List.take_append_drop]
def shC : Shp := .pair .bool (.pair (.int .i64) .unit)
theorem ok_c {ps : List PV} (h : OKs shC ps) : ∃ x : Cl, (-9223372036854775808 ≤ x.2 ∧ x.2 < 9223372036854775808) ∧ ps = clP x := by
  obtain ⟨p, q, rfl, h1, h2⟩ := ok_pair h
  obtain ⟨q, r, rfl, h3, h4⟩ := ok_pair h2
  obtain ⟨b, rfl⟩ := h1
  obtain ⟨n, rfl, hn⟩ := ok_i h3
  rw [ok_unit h4]
  exact ⟨(b, n), hn, rfl⟩
theorem arg_cells {w : World} {c : Array Value} (h : Shp.Reads w (.arr 16 shC) c.toList) : ∃ L : List Cl, ArgR w (.agg c) (.pagg (cellsP L)) ∧ L.length = 16 ∧ ∀ x ∈ L, -9223372036854775808 ≤ x.2 ∧ x.2 < 9223372036854775808 := by
  obtain ⟨ps, h1, h2, h3⟩ := pvs_of_reads rfl h
  obtain ⟨l, rfl, g1, g2⟩ := ok_arr (fun p => ok_c) h2
  exact ⟨l, ArgR.agg h1, g1, g2⟩
theorem walkKvSame (c0 c1 : Array Value) (w : World) (k0 : Shp.Reads w (.arr 16 shC) c0.toList) (k1 : Shp.Reads w (.arr 16 shC) c1.toList) :
     Calls Try.prog 6 #[.agg c0, .agg c1] w fun e w' => e = .returned (.bool true) ∧ Below w.heap.size w w' := by
  obtain ⟨A, q0, hA, rA⟩ := arg_cells k0
  obtain ⟨B, q1, hB, rB⟩ := arg_cells k1
  refine lawCalls (lawSame_c A B hA hB rA rB) rfl fun i v av hv ha => ?_
  match i with
  | 0 => cases hv; cases ha; exact q0
  | 1 => cases hv; cases ha; exact q1
  | n + 2 => simp at hv
end Go.Proofs.Ytphkfhgeliefcaa
