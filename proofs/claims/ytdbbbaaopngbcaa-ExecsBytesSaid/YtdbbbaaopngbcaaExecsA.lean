/- Views: how many members, right, next; ops right for a client: contracts. -/
import Derived.Test.YtdbbbaaopngbcaaPlainExecs
import Derived.Test.YtdbbbaaopngbcaaIrExecs
set_option linter.unusedVariables false
set_option linter.unusedSimpArgs false
namespace Go.Proofs.Ytdbbbaaopngbcaa
open Go.Abs Go.RowKit Go.Ours

theorem tab_at (x : Nat) (h : x < 256) : (strMathBitsOnesCount16_1.data.getD x 0).toNat = popF 8 x := by
  have h' : ∀ x : _root_.Fin 256, (strMathBitsOnesCount16_1.data.getD x.val 0).toNat = popF 8 x.val := by decide +kernel
  exact h' ⟨x, h⟩
theorem tab_size : strMathBitsOnesCount16_1.data.size = 256 := by decide +kernel
theorem ones_c (m : Nat) (hm : m < 65536) : ACall Try.prog 80 [.pv (.int .u16 (m : Nat))] [] (.pv (.int .i64 (pop m : Nat))) [] [] := by
  refine ACall.fn (fn := Try.f80) rfl okMathBitsOnesCount16 rfl (by simp) ?_
  simp only [argT, irMathBitsOnesCount16.eq_1]
  obtain ⟨q, hq⟩ : ∃ q, q = m / 256 := ⟨_, rfl⟩
  obtain ⟨r, hr⟩ : ∃ r, r = m % 256 := ⟨_, rfl⟩
  have e1 : (m : Int).fdiv (2 ^ min 8 IntKind.u16.bits) = (q : Int) := by rw [hq]; exact shr_nat m 8
  have e2 : bits BinOp.and IntKind.u16 (m : Int) 255 = (r : Int) := by
    have := (bits_op .u16 m 255 hm (by decide)).1
    rw [show ((255 : Nat) : Int) = 255 from rfl] at this
    rw [this, Nat.and_two_pow_sub_one_eq_mod m 8, hr]
    simp [IntKind.wrap, IntKind.bits, IntKind.signed]
    omega
  have hs := tab_size
  have t1 := tab_at q (by omega)
  have t2 := tab_at r (by omega)
  simp only [Array.getD_eq_getD_getElem?] at t1 t2
  have l1 := popF_le 8 q
  have l2 := popF_le 8 r
  have hp := pop_split m
  rw [← hq, ← hr] at hp
  generalize strMathBitsOnesCount16_1 = T at *
  generalize popF 8 q = a at *
  generalize popF 8 r = b at *
  obtain ⟨s, hss⟩ : ∃ s, s = a + b := ⟨_, rfl⟩
  have w1 : IntKind.u8.wrap ((a : Int) + (b : Int)) = (s : Nat) := by rw [wrap_u8] <;> omega
  have w2 : IntKind.i64.wrap ((s : Nat) : Int) = (s : Nat) := by rw [wrap_i64] <;> omega
  rw [hp, ← hss]
  simp [e1, e2, hs, t1, t2, w1, w2]
  omega
theorem count_c (n : Int) (m : Nat) (hm : m < 65536) : ACall Try.prog 71 [.pagg (vwP (n, m))] [] (.pv (.int .i64 (pop m : Nat))) [] [] := by
  refine ACall.fn (fn := Try.f71) rfl okViewsCount rfl (by simp) ?_
  simp only [argT, irViewsCount.eq_1]
  simp [vwP]
  refine CallG.go (ones_c m hm) ?_
  simp
theorem rightV_c (n : Int) (m : Nat) (hm : m < 65536) : ACall Try.prog 50 [.pagg (vwP (n, m))] [] (.pv (.bool (rightV n m))) [] [] := by
  refine ACall.fn (fn := Try.f50) rfl okViewsRight rfl (by simp) ?_
  simp only [argT, irViewsRight.eq_1]
  have hc := count_c n m hm
  unfold rightV
  simp only [vwP] at hc ⊢
  generalize pop m = p at *
  simp
  refine CallG.go hc ?_
  by_cases h1 : 0 ≤ n
  · by_cases h2 : n ≤ 60
    · by_cases h3 : 4 ≤ p
      · have h3' : (4 : Int) ≤ (p : Int) := by omega
        by_cases h4 : p ≤ 7
        · have h4' : (p : Int) ≤ 7 := by omega
          simp [h1, h2, h3, h3', h4, h4']
        · have h4' : ¬ (p : Int) ≤ 7 := by omega
          simp [h1, h2, h3, h3', h4, h4']
      · have h3' : ¬ (4 : Int) ≤ (p : Int) := by omega
        simp [h1, h2, h3, h3']
    · simp [h1, h2]
  · simp [h1]
theorem nextV_c (n : Int) (m : Nat) (a : Int) (hm : m < 65536) : ACall Try.prog 23 [.pagg (vwP (n, m)), .pv (.int .i64 a)] [] (.tup [.pagg (vwP (nextF n m a).1), .pv (.int .i64 ((nextF n m a).2 : Nat))]) [] [] := by
  refine ACall.fn (fn := Try.f23) rfl okViewsNext rfl (by simp) ?_
  simp only [argT, irViewsNext.eq_1]
  have c1 := rightV_c n m hm
  unfold nextF
  by_cases h1 : rightV n m = true
  · by_cases h2 : 0 ≤ a
    · by_cases h3 : a ≤ 65535
      · have c2 := rightV_c (n + 1) a.toNat (by omega)
        have hn : 0 ≤ n ∧ n ≤ 60 := by
          unfold rightV at h1
          simp at h1
          exact ⟨h1.1, h1.2.1⟩
        have w1 : IntKind.i64.wrap (n + 1) = n + 1 := by rw [wrap_i64] <;> omega
        have w2 : IntKind.u16.wrap a = (a.toNat : Int) := by simp [IntKind.wrap, IntKind.bits, IntKind.signed]; omega
        have h2' : ¬ a < 0 := by omega
        have h3' : ¬ 65535 < a := by omega
        rw [h1] at c1
        simp only [vwP] at c1 c2 ⊢
        simp
        refine CallG.go c1 ?_
        generalize a.toNat = k at *
        by_cases h4 : rightV (n + 1) k = true
        · rw [h4] at c2
          simp [h1, h2, h3, h2', h3', w1, w2]
          refine CallG.go c2 ?_
          simp [h4]
        · have h4' : rightV (n + 1) k = false := by simpa using h4
          rw [h4'] at c2
          simp [h1, h2, h3, h2', h3', w1, w2]
          refine CallG.go c2 ?_
          simp [h4']
      · have h2' : ¬ a < 0 := by omega
        have h3' : 65535 < a := by omega
        rw [h1] at c1
        simp only [vwP] at c1 ⊢
        simp
        refine CallG.go c1 ?_
        simp [h1, h2, h3, h2', h3']
    · have h2' : a < 0 := by omega
      rw [h1] at c1
      simp only [vwP] at c1 ⊢
      simp
      refine CallG.go c1 ?_
      simp [h1, h2, h2']
  · have h1' : rightV n m = false := by simpa using h1
    rw [h1'] at c1
    simp only [vwP] at c1 ⊢
    simp
    refine CallG.go c1 ?_
    simp [h1']
theorem mbl : ∀ (n k m : Nat) (L : List Nat), k + n = 16 → m < 65536 → L.length ≤ k → ∀ (Q : Exit → S → Prop),
   (∀ a b c, Q (.exit 0) (mk [(3, .os 3 1 (krows .i64 (L ++ memF n k m))), (4, a), (5, b), (9, c), (10, .pv (.bool false))] [])) →
   LoopW Try.prog [3, 4, 5] [] irRef06Members_L1 (mk [(3, .os 3 1 (krows .i64 L)), (4, .pv (.int .i64 (m : Nat))), (5, .pv (.int .i64 (k : Nat)))] []) Q := by
  intro n
  induction n with
  | zero =>
    intro k m L hk hm hL Q hQ
    obtain rfl : k = 16 := by omega
    rw [memF, List.append_nil] at hQ
    refine LoopW.go irRef06Members_L1.eq_1 (by simp) ?_
    simp
    exact hQ _ _ _
  | succ n ih =>
    intro k m L hk hm hL Q hQ
    rw [memF, ← List.append_assoc] at hQ
    obtain ⟨q, hq⟩ : ∃ q, q = m / 2 := ⟨_, rfl⟩
    rw [← hq] at hQ
    have v1 : (m : Int).tdiv 2 = (q : Int) := by rw [hq]; rfl
    have v2 : IntKind.i64.wrap (q : Int) = q := by rw [wrap_i64] <;> omega
    have v3 : (m : Int).tmod 2 = ((m % 2 : Nat) : Int) := rfl
    have i1 : (k : Int) < 16 := by omega
    have i2 : k < 16 := by omega
    have w : IntKind.i64.wrap ((k : Int) + 1) = (k + 1 : Nat) := by rw [wrap_i64] <;> omega
    by_cases h : m % 2 = 1
    · rw [if_pos h] at hQ
      have hn := ih (k + 1) q (L ++ [k]) (by omega) (by omega) (by simp; omega) Q hQ
      refine LoopW.go irRef06Members_L1.eq_1 (by simp) ?_
      simp [i1, i2, v1, v2, v3, h, w, krows_length, krows_one]
      exact ⟨by omega, hn⟩
    · rw [if_neg h, List.append_nil] at hQ
      have h' : m % 2 = 0 := by omega
      have hn := ih (k + 1) q L (by omega) (by omega) (by omega) Q hQ
      refine LoopW.go irRef06Members_L1.eq_1 (by simp) ?_
      simp [i1, i2, v1, v2, v3, h', w]
      exact hn
theorem members_c (n : Int) (m : Nat) (hm : m < 65536) : ACall Try.prog 70 [.pagg (vwP (n, m))] [] (.os 3 1 (krows .i64 (memF 16 0 m))) [] [] := by
  refine ACall.fn (fn := Try.f70) rfl okRef06Members rfl (by simp) ?_
  simp only [argT, irRef06Members.eq_1]
  have w : IntKind.i64.wrap (m : Int) = m := by rw [wrap_i64] <;> omega
  simp [vwP, w]
  refine mbl 16 0 m [] rfl hm (by simp) _ fun a b c => ?_
  simp
theorem refRightV_c (n : Int) (m : Nat) (hm : m < 65536) : ACall Try.prog 48 [.pagg (vwP (n, m))] [] (.pv (.bool (rightV n m))) [] [] := by
  refine ACall.fn (fn := Try.f48) rfl okRef06Right rfl (by simp) ?_
  simp only [argT, irRef06Right.eq_1]
  have hc := members_c n m hm
  have hl : (memF 16 0 m).length = pop m := memF_len 16 0 m
  unfold rightV
  simp only [vwP] at hc ⊢
  generalize memF 16 0 m = L at *
  generalize pop m = p at *
  simp
  refine CallG.go hc ?_
  by_cases h1 : 0 ≤ n
  · by_cases h2 : n ≤ 60
    · by_cases h3 : 4 ≤ p
      · have h3' : (4 : Int) ≤ (p : Int) := by omega
        by_cases h4 : p ≤ 7
        · have h4' : (p : Int) ≤ 7 := by omega
          simp [h1, h2, h3, h3', h4, h4', krows_length, hl]
        · have h4' : ¬ (p : Int) ≤ 7 := by omega
          simp [h1, h2, h3, h3', h4, h4', krows_length, hl]
      · have h3' : ¬ (4 : Int) ≤ (p : Int) := by omega
        simp [h1, h2, h3, h3', krows_length, hl]
    · simp [h1, h2, krows_length, hl]
  · simp [h1, krows_length, hl]
theorem refNextV_c (n : Int) (m : Nat) (a : Int) (hm : m < 65536) : ACall Try.prog 26 [.pagg (vwP (n, m)), .pv (.int .i64 a)] [] (.tup [.pagg (vwP (nextF n m a).1), .pv (.int .i64 ((nextF n m a).2 : Nat))]) [] [] := by
  refine ACall.fn (fn := Try.f26) rfl okRef06Next rfl (by simp) ?_
  simp only [argT, irRef06Next.eq_1]
  have c1 := refRightV_c n m hm
  unfold nextF
  by_cases h1 : rightV n m = true
  · by_cases h2 : 0 ≤ a
    · by_cases h3 : a ≤ 65535
      · have c2 := refRightV_c (n + 1) a.toNat (by omega)
        have hn : 0 ≤ n ∧ n ≤ 60 := by
          unfold rightV at h1
          simp at h1
          exact ⟨h1.1, h1.2.1⟩
        have w1 : IntKind.i64.wrap (n + 1) = n + 1 := by rw [wrap_i64] <;> omega
        have w2 : IntKind.u16.wrap a = (a.toNat : Int) := by simp [IntKind.wrap, IntKind.bits, IntKind.signed]; omega
        have h2' : ¬ a < 0 := by omega
        have h3' : ¬ 65535 < a := by omega
        rw [h1] at c1
        simp only [vwP] at c1 c2 ⊢
        simp
        refine CallG.go c1 ?_
        generalize a.toNat = k at *
        by_cases h4 : rightV (n + 1) k = true
        · rw [h4] at c2
          simp [h1, h2, h3, h2', h3', w1, w2]
          refine CallG.go c2 ?_
          simp [h4]
        · have h4' : rightV (n + 1) k = false := by simpa using h4
          rw [h4'] at c2
          simp [h1, h2, h3, h2', h3', w1, w2]
          refine CallG.go c2 ?_
          simp [h4']
      · have h2' : ¬ a < 0 := by omega
        have h3' : 65535 < a := by omega
        rw [h1] at c1
        simp only [vwP] at c1 ⊢
        simp
        refine CallG.go c1 ?_
        simp [h1, h2, h3, h2', h3']
    · have h2' : a < 0 := by omega
      rw [h1] at c1
      simp only [vwP] at c1 ⊢
      simp
      refine CallG.go c1 ?_
      simp [h1, h2, h2']
  · have h1' : rightV n m = false := by simpa using h1
    rw [h1'] at c1
    simp only [vwP] at c1 ⊢
    simp
    refine CallG.go c1 ?_
    simp [h1']
end Go.Proofs.Ytdbbbaaopngbcaa
