/- The document's Numbers, Put, Copied, Same: contracts. No condition. -/
import Derived.Test.YtekpgcohlpkmnaaWireU
import Derived.Test.YtekpgcohlpkmnaaNumsIrS
set_option linter.unusedVariables false
set_option linter.unusedSimpArgs false
namespace Go.Proofs.Ytekpgcohlpkmnaa
open Go.Abs Go.RowKit Go.Ours

set_option maxRecDepth 10000 in
set_option maxHeartbeats 4000000 in
theorem numbers_c (M : Ms) (hh : M.hash.length = 32) : ACall Try.prog 27 [.pagg (msP M)] [] (.pv (.bool (numF M))) [] [] := by
  refine ACall.fn (fn := Try.f27) rfl okRef08Numbers rfl (by simp) ?_
  simp only [argT, irRef08Numbers.eq_1]
  have hl := msP_len M hh
  have h0 := msP_0 M
  have h1 := msP_1 M
  have h2 := msP_2 M
  have h3 := msP_3 M
  have h4 := msP_4 M
  unfold numF
  generalize msP M = q at *
  by_cases c0 : 1 ≤ M.kind
  rotate_left
  · simp [-getElem?_pos, hl, h0, c0]
  by_cases c1 : M.kind ≤ 12
  rotate_left
  · simp [-getElem?_pos, hl, h0, c0, c1]
  by_cases c2 : 0 ≤ M.src
  rotate_left
  · simp [-getElem?_pos, hl, h0, h1, c0, c1, c2]
  by_cases c3 : M.src ≤ 15
  rotate_left
  · simp [-getElem?_pos, hl, h0, h1, c0, c1, c2, c3]
  by_cases c4 : 0 ≤ M.view
  rotate_left
  · simp [-getElem?_pos, hl, h0, h1, h2, c0, c1, c2, c3, c4]
  by_cases c5 : M.view ≤ 60
  rotate_left
  · simp [-getElem?_pos, hl, h0, h1, h2, c0, c1, c2, c3, c4, c5]
  by_cases c6 : 0 ≤ M.reg
  rotate_left
  · simp [-getElem?_pos, hl, h0, h1, h2, h3, c0, c1, c2, c3, c4, c5, c6]
  by_cases c7 : M.reg ≤ 40
  rotate_left
  · simp [-getElem?_pos, hl, h0, h1, h2, h3, c0, c1, c2, c3, c4, c5, c6, c7]
  by_cases c8 : 0 ≤ M.slot
  rotate_left
  · simp [-getElem?_pos, hl, h0, h1, h2, h3, h4, c0, c1, c2, c3, c4, c5, c6, c7, c8]
  by_cases c9 : M.slot ≤ 60
  rotate_left
  · simp [-getElem?_pos, hl, h0, h1, h2, h3, h4, c0, c1, c2, c3, c4, c5, c6, c7, c8, c9]
  simp [-getElem?_pos, hl, h0, h1, h2, h3, h4, c0, c1, c2, c3, c4, c5, c6, c7, c8, c9]
theorem refPut_c (M : Ms) (h : M.Ok) : ACall Try.prog 12 [.pagg (msP M)] [] (.tup [.os 5 1 (krows .u8 (putF M).1), .pv (.int .i64 (putF M).2)]) [] [] := by
  refine ACall.fn (fn := Try.f12) rfl okRef08Put rfl (by simp) ?_
  simp only [argT, irRef08Put.eq_1]
  have hl := msP_len M h.hash
  have h38 := msP_38 M h.hash
  have c1 := refBytes_c M h
  have c2 := numbers_c M h.hash
  have hbl := bytesF_len M h.hash
  unfold putF
  rw [← hbl]
  by_cases g1 : 16 < M.parts.length
  · have g1' : (16 : Int) < (M.parts.length : Int) := by omega
    generalize msP M = q at *
    generalize bytesF M = z at *
    simp [hl]
    refine CallG.go c1 ?_
    simp [-getElem?_pos, hl, h38, trows_length, krows_length, g1, g1']
    rfl
  have g1' : ¬ (16 : Int) < (M.parts.length : Int) := by omega
  by_cases g2 : 65504 < (bytesF M).length
  · have g2' : (65504 : Int) < ((bytesF M).length : Int) := by omega
    generalize msP M = q at *
    generalize bytesF M = z at *
    simp [hl]
    refine CallG.go c1 ?_
    simp [-getElem?_pos, hl, h38, trows_length, krows_length, g1, g1', g2, g2']
    rfl
  have g2' : ¬ (65504 : Int) < ((bytesF M).length : Int) := by omega
  have g12 : ¬ (16 < M.parts.length ∨ 65504 < (bytesF M).length) := by omega
  rw [if_neg g12]
  cases g3 : numF M
  · rw [g3] at c2
    generalize msP M = q at *
    generalize bytesF M = z at *
    simp [hl]
    refine CallG.go c1 ?_
    simp [-getElem?_pos, hl, h38, trows_length, krows_length, g1, g1', g2, g2']
    refine CallG.go c2 ?_
    simp
    rfl
  · rw [g3] at c2
    generalize msP M = q at *
    generalize bytesF M = z at *
    simp [hl]
    refine CallG.go c1 ?_
    simp [-getElem?_pos, hl, h38, trows_length, krows_length, g1, g1', g2, g2']
    refine CallG.go c2 ?_
    simp
theorem cpl (P : List (List Nat)) (q z : List PV) (bo : List (List PV)) (h38 : q[38]? = some (.sl 1 (trows P))) (hq : q.length = 39) (hP : P.length ≤ 20) (hp : ∀ p ∈ P, p.length ≤ 3000) : ∀ (T : List (List Nat)) (k : Nat), P.drop k = T → k ≤ P.length → ∀ (Q : Exit → S → Prop),
   (∀ x a c d e, Q (.exit 0) (mk [(1, .ptr 1 0), (2, .ptr 2 0), (3, .os 5 1 bo), (4, .os 24 1 (trows P)), (5, x), (11, a), (12, c), (13, d), (14, e), (15, .pv (.bool false))] [(1, .pagg q), (2, .pagg z)])) →
   LoopW Try.prog [1, 2, 3, 4, 5] [1, 2] irRef08Copied_L1 (mk [(1, .ptr 1 0), (2, .ptr 2 0), (3, .os 5 1 bo), (4, .os 24 1 (trows (P.take k))), (5, .pv (.int .i64 (k : Nat)))] [(1, .pagg q), (2, .pagg z)]) Q := by
  intro T
  induction T with
  | nil =>
    intro k hd hk Q hQ
    have hk2 : k = P.length := by
      have := congrArg List.length hd
      simp at this
      omega
    subst hk2
    rw [List.take_length]
    refine LoopW.go irRef08Copied_L1.eq_1 (by simp) ?_
    simp [-getElem?_pos, h38, hq, trows_length]
    exact hQ _ _ _ _ _
  | cons t T ih =>
    intro k hd hk Q hQ
    have hlt : k < P.length := by
      have := congrArg List.length hd
      simp at this
      omega
    have hx : P[k]? = some t := by
      have := congrArg (·[0]?) hd
      simpa using this
    have hd' : P.drop (k + 1) = T := by
      have := congrArg (List.drop 1) hd
      simpa [List.drop_drop, Nat.add_comm] using this
    have ht := hp t (List.mem_of_getElem? hx)
    have i1 : (k : Int) < (P.length : Int) := by omega
    have wk : IntKind.i64.wrap ((k : Int) + 1) = (k + 1 : Nat) := by rw [wrap_i64] <;> omega
    have htk : P.take (k + 1) = P.take k ++ [t] := by rw [List.take_add_one, hx]; rfl
    have htl : (P.take k).length ≤ 20 := by rw [List.length_take]; omega
    have hn := ih (k + 1) hd' (by omega) Q hQ
    clear hQ ih
    rw [htk, ← trows_app] at hn
    refine LoopW.go irRef08Copied_L1.eq_1 (by simp) ?_
    simp [-getElem?_pos, h38, hq, i1, hlt, trows_length, trows_get, hx, krows_length, wk]
    exact ⟨by omega, by omega, hn⟩
theorem copied_c (M : Ms) (h : M.Ok) : ACall Try.prog 10 [.pagg (msP M)] [] (.pagg (msP M)) [] [] := by
  refine ACall.fn (fn := Try.f10) rfl okRef08Copied rfl (by simp) ?_
  simp only [argT, irRef08Copied.eq_1]
  have hl := msP_len M h.hash
  have h37 := msP_37 M h.hash
  have h38 := msP_38 M h.hash
  have s1 := msP_set37 M h.hash M.body
  have s2 := msP_set38 M h.hash M.parts
  have hb := h.body
  generalize hz : [PV.int .i64 0, .int .i64 0, .int .i64 0, .int .i64 0, .int .i64 0, .int .u8 0, .int .u8 0, .int .u8 0, .int .u8 0, .int .u8 0, .int .u8 0, .int .u8 0, .int .u8 0, .int .u8 0, .int .u8 0, .int .u8 0, .int .u8 0, .int .u8 0, .int .u8 0, .int .u8 0, .int .u8 0, .int .u8 0, .int .u8 0, .int .u8 0, .int .u8 0, .int .u8 0, .int .u8 0, .int .u8 0, .int .u8 0, .int .u8 0, .int .u8 0, .int .u8 0, .int .u8 0, .int .u8 0, .int .u8 0, .int .u8 0, .int .u8 0, .sl 1 [], .sl 1 []] = z
  have hzl : z.length = 39 := by rw [← hz]; rfl
  clear hz
  have hlp := fun bo => cpl M.parts (msP M) z bo h38 hl h.parts h.part M.parts 0 rfl (Nat.zero_le _)
  have e0 : ({ M with body := M.body } : Ms) = M := rfl
  have e1 : ({ M with parts := M.parts } : Ms) = M := rfl
  rw [e0] at s1
  rw [e1] at s2
  generalize msP M = q at *
  simp [-getElem?_pos, hl, h37, krows_length]
  refine ⟨by omega, ?_⟩
  refine hlp _ _ fun x a c d e => ?_
  simp [-getElem?_pos, hl, h37, s1, s2, hzl]
theorem spl (P : List (List Nat)) (hP : P.length ≤ 20) (hp : ∀ p ∈ P, p.length ≤ 3000) : ∀ (T : List (List Nat)) (k : Nat), P.drop k = T → k ≤ P.length → ∀ (Q : Exit → S → Prop),
   (∀ x a c d, Q (.exit 0) (mk [(0, .pv (.sl 1 (trows P))), (1, .pv (.sl 1 (trows P))), (5, x), (11, a), (12, c), (13, d), (14, .pv (.bool false))] [])) →
   LoopW Try.prog [0, 1, 5] [] irRef08SameParts_L1 (mk [(0, .pv (.sl 1 (trows P))), (1, .pv (.sl 1 (trows P))), (5, .pv (.int .i64 (k : Nat)))] []) Q := by
  intro T
  induction T with
  | nil =>
    intro k hd hk Q hQ
    have hk2 : k = P.length := by
      have := congrArg List.length hd
      simp at this
      omega
    subst hk2
    refine LoopW.go irRef08SameParts_L1.eq_1 (by simp) ?_
    simp [-getElem?_pos, trows_length]
    exact hQ _ _ _ _
  | cons t T ih =>
    intro k hd hk Q hQ
    have hlt : k < P.length := by
      have := congrArg List.length hd
      simp at this
      omega
    have hx : P[k]? = some t := by
      have := congrArg (·[0]?) hd
      simpa using this
    have hd' : P.drop (k + 1) = T := by
      have := congrArg (List.drop 1) hd
      simpa [List.drop_drop, Nat.add_comm] using this
    have ht := hp t (List.mem_of_getElem? hx)
    have i1 : (k : Int) < (P.length : Int) := by omega
    have wk : IntKind.i64.wrap ((k : Int) + 1) = (k + 1 : Nat) := by rw [wrap_i64] <;> omega
    have c := same_c t t (by omega)
    rw [decide_eq_true rfl] at c
    have hn := ih (k + 1) hd' (by omega) Q hQ
    clear hQ ih
    refine LoopW.go irRef08SameParts_L1.eq_1 (by simp) ?_
    simp [-getElem?_pos, i1, hlt, trows_length, trows_get, hx, wk]
    refine CallG.go c ?_
    simp [wk]
    exact hn
theorem sameParts_c (P : List (List Nat)) (hP : P.length ≤ 20) (hp : ∀ p ∈ P, p.length ≤ 3000) : ACall Try.prog 28 [.pv (.sl 1 (trows P)), .pv (.sl 1 (trows P))] [] (.pv (.bool true)) [] [] := by
  refine ACall.fn (fn := Try.f28) rfl okRef08SameParts rfl (by simp) ?_
  simp only [argT, irRef08SameParts.eq_1]
  have hlp := spl P hP hp P 0 rfl (Nat.zero_le _)
  simp
  refine hlp _ fun x a c d => ?_
  simp
theorem sameM_c (M : Ms) (h : M.Ok) : ACall Try.prog 14 [.pagg (msP M), .pagg (msP M)] [] (.pv (.bool true)) [] [] := by
  refine ACall.fn (fn := Try.f14) rfl okRef08Same rfl (by simp) ?_
  simp only [argT, irRef08Same.eq_1]
  have hl := msP_len M h.hash
  have h0 := msP_0 M
  have h1 := msP_1 M
  have h2 := msP_2 M
  have h3 := msP_3 M
  have h4 := msP_4 M
  have h5 := msP_h M h.hash
  have h37 := msP_37 M h.hash
  have h38 := msP_38 M h.hash
  have c1 := same_c M.body M.body (by have := h.body; omega)
  rw [decide_eq_true rfl] at c1
  have c2 := sameParts_c M.parts h.parts h.part
  have hkl : (kns .u8 M.hash).length = 32 := by rw [kns_length, h.hash]
  generalize msP M = q at *
  simp [-getElem?_pos, hl, h0, h1, h2, h3, h4, h5, h37, h38, hkl]
  refine CallG.go c1 ?_
  simp [-getElem?_pos, hl, h38]
  refine CallG.go c2 ?_
  simp
end Go.Proofs.Ytekpgcohlpkmnaa
