/- Has, same, wakes; the laws ViewsNext, ViewsCounts. -/
import Derived.Test.YtaekbkjckahccaaDoorViewsB
set_option linter.unusedVariables false
set_option linter.unusedSimpArgs false
namespace Go.Proofs.YtaekbkjckahccaaDoor
open Go.Abs Go.RowKit Go.Ours

theorem mem_memF : ∀ (n i m x : Nat), x ∈ memF n i m ↔ i ≤ x ∧ x < i + n ∧ m / 2 ^ (x - i) % 2 = 1
  | 0, i, m, x => by simp [memF]; omega
  | n + 1, i, m, x => by
    rw [memF, List.mem_append, mem_memF n (i + 1) (m / 2) x]
    by_cases hx : x = i
    · subst hx
      rw [Nat.sub_self, Nat.pow_zero, Nat.div_one]
      by_cases h : m % 2 = 1
      · simp [h]
      · simp [h]
        omega
    · have h1 : ¬ x ∈ (if m % 2 = 1 then [i] else []) := by
        split
        · simp [hx]
        · simp
      constructor
      · rintro (h | ⟨h2, h3, h4⟩)
        · exact absurd h h1
        · refine ⟨by omega, by omega, ?_⟩
          rw [show x - i = (x - (i + 1)) + 1 by omega, Nat.pow_succ, Nat.mul_comm, ← Nat.div_div_eq_div_mul]
          exact h4
      · rintro ⟨h2, h3, h4⟩
        refine Or.inr ⟨by omega, by omega, ?_⟩
        rw [show x - i = (x - (i + 1)) + 1 by omega, Nat.pow_succ, Nat.mul_comm, ← Nat.div_div_eq_div_mul] at h4
        exact h4
def hasF (m : Nat) (i : Int) : Bool := decide (0 ≤ i ∧ i < 16 ∧ m / 2 ^ i.toNat % 2 = 1)
theorem has_c (n : Int) (m : Nat) (i : Int) (hm : m < 65536) : ACall Tryd.prog 12 [.pagg (vwP (n, m)), .pv (.int .i64 i)] [] (.pv (.bool (hasF m i))) [] [] := by
  refine ACall.fn (fn := Tryd.f12) rfl okViewsHas rfl (by simp) ?_
  simp only [argT, irViewsHas.eq_1, vwP]
  unfold hasF
  by_cases h1 : 0 ≤ i
  · by_cases h2 : i < 16
    · obtain ⟨k, rfl⟩ : ∃ k : Nat, i = k := ⟨i.toNat, by omega⟩
      have hk : k < 16 := by omega
      obtain ⟨q, hq⟩ : ∃ q, q = m / 2 ^ k := ⟨_, rfl⟩
      have hq16 : q < 65536 := by rw [hq]; exact Nat.lt_of_le_of_lt (Nat.div_le_self _ _) hm
      have hmin : min k IntKind.u16.bits = k := by simp [IntKind.bits]; omega
      have e1 : (m : Int).fdiv (2 ^ k) = (q : Int) := by rw [hq]; exact shr_nat m k
      have e2 : bits BinOp.and IntKind.u16 (q : Int) 1 = ((q % 2 : Nat) : Int) := by
        have := (bits_op .u16 q 1 hq16 (by decide)).1
        rw [show ((1 : Nat) : Int) = 1 from rfl] at this
        rw [this, show q &&& 1 = q % 2 from Nat.and_two_pow_sub_one_eq_mod q 1]
        simp [IntKind.wrap, IntKind.bits, IntKind.signed]
        omega
      rw [Int.toNat_natCast, ← hq]
      by_cases h : q % 2 = 1
      · simp [h1, h2, hk, hmin, e1, e2, h]
      · have h' : q % 2 = 0 := by omega
        simp [h1, h2, hk, hmin, e1, e2, h']
    · simp [h1, h2]
  · simp [h1]
theorem hsl (L : List Nat) (i : Int) (hL : L.length ≤ 100) : ∀ (l : List Nat) (k : Nat), L.drop k = l → k ≤ L.length → ∀ (Q : Exit → S → Prop),
   ((l.any fun x => decide ((x : Int) = i)) = false → ∀ a b c d e f, Q (.exit 0) (mk [(1, a), (5, b), (6, c), (9, d), (10, e), (11, f), (12, .pv (.bool false))] [])) →
   ((l.any fun x => decide ((x : Int) = i)) = true → Q .ret (mk [(4, .pv (.bool true))] [])) →
   LoopW Tryd.prog [1, 5, 6] [] irRef06Has_L1 (mk [(1, .pv (.int .i64 i)), (5, .os 3 1 (krows .i64 L)), (6, .pv (.int .i64 (k : Nat)))] []) Q := by
  intro l
  induction l with
  | nil =>
    intro k hd hk Q hQ _
    have hk2 : k = L.length := by
      have := congrArg List.length hd
      simp at this
      omega
    subst hk2
    refine LoopW.go irRef06Has_L1.eq_1 (by simp) ?_
    simp [krows_length]
    exact hQ rfl _ _ _ _ _ _
  | cons r l ih =>
    intro k hd hk Q hQ hQ2
    have hlt : k < L.length := by
      have := congrArg List.length hd
      simp at this
      omega
    have hr : L[k]? = some r := by
      have := congrArg (·[0]?) hd
      simpa using this
    have hd' : L.drop (k + 1) = l := by
      have := congrArg (List.drop 1) hd
      simpa [List.drop_drop, Nat.add_comm] using this
    have i1 : (k : Int) < (L.length : Int) := by omega
    have wk : IntKind.i64.wrap ((k : Int) + 1) = (k + 1 : Nat) := by rw [wrap_i64] <;> omega
    by_cases h : (r : Int) = i
    · refine LoopW.go irRef06Has_L1.eq_1 (by simp) ?_
      simp [-getElem?_pos, i1, hlt, krows_length, krows_get, hr, h]
      exact hQ2 (by simp [h])
    · have hn := ih (k + 1) hd' (by omega) Q (fun hh => hQ (by simp only [List.any_cons, h, decide_false, Bool.false_or]; exact hh)) (fun hh => hQ2 (by simp only [List.any_cons, h, decide_false, Bool.false_or]; exact hh))
      refine LoopW.go irRef06Has_L1.eq_1 (by simp) ?_
      simp [-getElem?_pos, i1, hlt, krows_length, krows_get, hr, h, wk]
      exact hn
theorem any_has (m : Nat) (i : Int) : ((memF 16 0 m).any fun x => decide ((x : Int) = i)) = hasF m i := by
  rw [Bool.eq_iff_iff, List.any_eq_true]
  unfold hasF
  simp only [decide_eq_true_eq]
  constructor
  · rintro ⟨x, hx, rfl⟩
    rw [mem_memF] at hx
    rw [Int.toNat_natCast]
    rw [Nat.sub_zero] at hx
    exact ⟨by omega, by omega, hx.2.2⟩
  · rintro ⟨h1, h2, h3⟩
    exact ⟨i.toNat, by rw [mem_memF, Nat.sub_zero]; exact ⟨by omega, by omega, h3⟩, by omega⟩
theorem refHas_c (n : Int) (m : Nat) (i : Int) (hm : m < 65536) : ACall Tryd.prog 21 [.pagg (vwP (n, m)), .pv (.int .i64 i)] [] (.pv (.bool (hasF m i))) [] [] := by
  refine ACall.fn (fn := Tryd.f21) rfl okRef06Has rfl (by simp) ?_
  simp only [argT, irRef06Has.eq_1]
  have c1 := members_c n m hm
  have hl : (memF 16 0 m).length = pop m := memF_len 16 0 m
  have hp := pop_le m
  have ha := any_has m i
  simp only [vwP] at c1 ⊢
  generalize memF 16 0 m = L at *
  generalize hasF m i = b at *
  simp
  refine CallG.go c1 ?_
  simp
  refine hsl L i (by omega) L 0 rfl (Nat.zero_le _) _ (fun hh a b c d e f => ?_) (fun hh => ?_)
  · rw [ha] at hh
    subst hh
    simp
  · rw [ha] at hh
    subst hh
    simp
theorem s6l (L : List Nat) (hL : L.length ≤ 100) : ∀ (n k : Nat), k + n = L.length → ∀ (Q : Exit → S → Prop),
   (∀ a b c d e, Q (.exit 0) (mk [(0, a), (1, b), (12, c), (13, d), (14, e)] [])) →
   LoopW Tryd.prog [0, 1, 12, 13] [] irLaw06Same_L1 (mk [(0, .pv (.sl 1 (krows .i64 L))), (1, .pv (.sl 1 (krows .i64 L))), (12, .pv (.int .i64 (L.length : Nat))), (13, .pv (.int .i64 (k : Nat)))] []) Q := by
  intro n
  induction n with
  | zero =>
    intro k hk Q hQ
    obtain rfl : k = L.length := by omega
    refine LoopW.go irLaw06Same_L1.eq_1 (by simp) ?_
    simp
    exact hQ _ _ _ _ _
  | succ n ih =>
    intro k hk Q hQ
    have hn := ih (k + 1) (by omega) Q hQ
    obtain ⟨x, hx⟩ : ∃ x, L[k]? = some x := ⟨_, List.getElem?_eq_getElem (by omega)⟩
    have i1 : (k : Int) < (L.length : Int) := by omega
    have i2 : k < L.length := by omega
    have wk : IntKind.i64.wrap ((k : Int) + 1) = (k + 1 : Nat) := by rw [wrap_i64] <;> omega
    refine LoopW.go irLaw06Same_L1.eq_1 (by simp) ?_
    simp [-getElem?_pos, i1, i2, krows_length, krows_get, hx, wk]
    exact hn
theorem same6_c (L : List Nat) (hL : L.length ≤ 100) : ACall Tryd.prog 20 [.pv (.sl 1 (krows .i64 L)), .pv (.sl 1 (krows .i64 L))] [] (.pv (.bool true)) [] [] := by
  refine ACall.fn (fn := Tryd.f20) rfl okLaw06Same rfl (by simp) ?_
  simp only [argT, irLaw06Same.eq_1]
  simp [krows_length]
  refine s6l L hL L.length 0 (by omega) _ fun a b c d e => ?_
  simp
theorem wakes_c : ACall Tryd.prog 8 [] [] (.pv (.bool true)) [] [] := by
  refine ACall.fn (fn := Tryd.f8) rfl okLaw06Wakes rfl (by simp) ?_
  simp only [argT, irLaw06Wakes.eq_1]
  have c1 := rightV_c 0 15 (by decide)
  have c2 := faults_c 0 15 (by decide)
  have c3 := quorum_c 0 15 (by decide)
  have c4 := enough_c 0 15 (by decide)
  have c5 := leader_c 0 15 5 (by decide)
  have e1 : rightV 0 15 = true := by decide
  have e2 : sizeF 0 15 = 4 := by decide
  have e3 : leadF 0 15 5 = 1 := by decide
  rw [e1] at c1
  rw [e2] at c2 c3 c4
  rw [e3] at c5
  simp only [vwP, faultsF, quorF] at c1 c2 c3 c4 c5
  simp
  refine CallG.go c1 ?_
  simp
  refine CallG.go c2 ?_
  simp
  refine CallG.go c3 ?_
  simp
  refine CallG.go c4 ?_
  simp
  refine CallG.go c5 ?_
  simp
theorem nextF_spec (n : Int) (m : Nat) (a : Int) : ((nextF n m a).2 = 0 ∧ (nextF n m a).1.1 = n + 1 ∧ 0 ≤ n ∧ n ≤ 60 ∧ (nextF n m a).1.2 < 65536 ∧ rightV (nextF n m a).1.1 (nextF n m a).1.2 = true) ∨ ((nextF n m a).2 = 3) := by
  unfold nextF
  split
  · rename_i h
    obtain ⟨h1, h2, h3, h4⟩ := h
    have : 0 ≤ n ∧ n ≤ 60 := by
      unfold rightV at h1
      simp at h1
      exact ⟨h1.1, h1.2.1⟩
    exact Or.inl ⟨rfl, rfl, this.1, this.2, by simp only; omega, h4⟩
  · exact Or.inr rfl
theorem lawNext_c (n : Int) (m : Nat) (a : Int) (hm : m < 65536) : ACall Tryd.prog 6 [.pagg (vwP (n, m)), .pv (.int .i64 a)] [] (.pv (.bool true)) [] [] := by
  refine ACall.fn (fn := Tryd.f6) rfl okLaw06ViewsNext rfl (by simp) ?_
  simp only [argT, irLaw06ViewsNext.eq_1]
  have c1 := nextV_c n m a hm
  have c2 := refNextV_c n m a hm
  have hsp := nextF_spec n m a
  generalize nextF n m a = y at *
  obtain ⟨⟨y1, y2⟩, e⟩ := y
  simp only at hsp c1 c2
  rcases hsp with ⟨rfl, rfl, h1, h2, h3, h4⟩ | rfl
  · have c3 := rightV_c (n + 1) y2 h3
    rw [h4] at c3
    have w : IntKind.i64.wrap n = n := by rw [wrap_i64] <;> omega
    simp only [vwP] at c1 c2 c3 ⊢
    simp
    refine CallG.go wakes_c ?_
    simp
    refine CallG.go c1 ?_
    simp
    refine CallG.go c2 ?_
    simp [ckAll, ckOne, eqPVs, eqPV, w]
    refine CallG.go c3 ?_
    simp
  · simp only [vwP] at c1 c2 ⊢
    simp
    refine CallG.go wakes_c ?_
    simp
    refine CallG.go c1 ?_
    simp
    refine CallG.go c2 ?_
    simp [ckAll, ckOne, eqPVs, eqPV]
theorem lawCounts_c (n : Int) (m : Nat) (i r : Int) (hm : m < 65536) : ACall Tryd.prog 5 [.pagg (vwP (n, m)), .pv (.int .i64 i), .pv (.int .i64 r)] [] (.pv (.bool true)) [] [] := by
  refine ACall.fn (fn := Tryd.f5) rfl okLaw06ViewsCounts rfl (by simp) ?_
  simp only [argT, irLaw06ViewsCounts.eq_1]
  have c1 := rightV_c n m hm
  have c2 := refRightV_c n m hm
  have c3 := vmembers_c n m hm
  have c4 := members_c n m hm
  have c5 := has_c n m i hm
  have c6 := refHas_c n m i hm
  have c7 := faults_c n m hm
  have c8 := refFaults_c n m hm
  have c9 := quorum_c n m hm
  have c10 := refQuorum_c n m hm
  have c11 := enough_c n m hm
  have c12 := refEnough_c n m hm
  have c13 := someV_c n m hm
  have c14 := refSome_c n m hm
  have c15 := leader_c n m r hm
  have c16 := refLeader_c n m r hm
  have hl : (memF 16 0 m).length = pop m := memF_len 16 0 m
  have hp := pop_le m
  have c17 := same6_c (memF 16 0 m) (by omega)
  generalize memF 16 0 m = L at *
  generalize hasF m i = x1 at *
  generalize leadF n m r = x2 at *
  generalize rightV n m = x3 at *
  obtain ⟨x4, hx4⟩ : ∃ x, x = faultsF (sizeF n m) := ⟨_, rfl⟩
  obtain ⟨x5, hx5⟩ : ∃ x, x = quorF (sizeF n m) := ⟨_, rfl⟩
  obtain ⟨x6, hx6⟩ : ∃ x, x = sizeF n m - faultsF (sizeF n m) := ⟨_, rfl⟩
  obtain ⟨x7, hx7⟩ : ∃ x, x = someF (sizeF n m) := ⟨_, rfl⟩
  rw [← hx6] at c11 c12
  rw [← hx4] at c7 c8
  rw [← hx5] at c9 c10
  rw [← hx7] at c13 c14
  simp only [vwP] at c1 c2 c3 c4 c5 c6 c7 c8 c9 c10 c11 c12 c13 c14 c15 c16 ⊢
  simp
  refine CallG.go wakes_c ?_
  simp
  refine CallG.go c1 ?_
  simp
  refine CallG.go c2 ?_
  simp
  refine CallG.go c3 ?_
  simp
  refine CallG.go c4 ?_
  simp
  refine CallG.go c17 ?_
  simp
  refine CallG.go c5 ?_
  simp
  refine CallG.go c6 ?_
  simp
  refine CallG.go c7 ?_
  simp
  refine CallG.go c8 ?_
  simp
  refine CallG.go c9 ?_
  simp
  refine CallG.go c10 ?_
  simp
  refine CallG.go c11 ?_
  simp
  refine CallG.go c12 ?_
  simp
  refine CallG.go c13 ?_
  simp
  refine CallG.go c14 ?_
  simp
  refine CallG.go c15 ?_
  simp
  refine CallG.go c16 ?_
  simp
end Go.Proofs.YtaekbkjckahccaaDoor
