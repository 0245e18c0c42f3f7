/- Views: the lowest bit, members. -/
import Derived.Test.YtaekbkjckahccaaDoorViewsA
import Derived.Test.YtaekbkjckahccaaDoorPlainWorld
set_option linter.unusedVariables false
set_option linter.unusedSimpArgs false
namespace Go.Proofs.YtaekbkjckahccaaDoor
open Go.Abs Go.RowKit Go.Ours

/-- Where the lowest bit lies. -/
def tzN : Nat → Nat → Nat
  | 0, _ => 0
  | n + 1, m => if m % 2 = 1 then 0 else tzN n (m / 2) + 1
theorem and_even (q : Nat) (h : 0 < q) : (2 * q) &&& (2 * q - 1) = 2 * (q &&& (q - 1)) := by
  have h1 : ((2 * q) &&& (2 * q - 1)) / 2 = q &&& (q - 1) := by
    rw [Nat.and_div_two, show 2 * q / 2 = q by omega, show (2 * q - 1) / 2 = q - 1 by omega]
  have h2 : ((2 * q) &&& (2 * q - 1)) % 2 = 0 := by
    have := Nat.and_mod_two_pow (a := 2 * q) (b := 2 * q - 1) (n := 1)
    rw [Nat.pow_one] at this
    rw [this, show 2 * q % 2 = 0 by omega, Nat.zero_and]
  omega
theorem and_odd (q : Nat) : (2 * q + 1) &&& (2 * q + 1 - 1) = 2 * q := by
  have h1 : ((2 * q + 1) &&& (2 * q + 1 - 1)) / 2 = q := by
    rw [Nat.and_div_two, show (2 * q + 1) / 2 = q by omega, show (2 * q + 1 - 1) / 2 = q by omega, Nat.and_self]
  have h2 : ((2 * q + 1) &&& (2 * q + 1 - 1)) % 2 = 0 := by
    have := Nat.and_mod_two_pow (a := 2 * q + 1) (b := 2 * q + 1 - 1) (n := 1)
    rw [Nat.pow_one] at this
    rw [this, show (2 * q + 1 - 1) % 2 = 0 by omega, Nat.and_zero]
  omega
theorem memF_low : ∀ (n i m : Nat), 0 < m → m < 2 ^ n → memF n i m = (i + tzN n m) :: memF n i (m &&& (m - 1))
  | 0, i, m, h1, h2 => by simp at h2; omega
  | n + 1, i, m, h1, h2 => by
    rw [Nat.pow_succ] at h2
    by_cases h : m % 2 = 1
    · obtain ⟨q, rfl⟩ : ∃ q, m = 2 * q + 1 := ⟨m / 2, by omega⟩
      rw [and_odd]
      simp only [memF, tzN, h, if_true]
      rw [show 2 * q % 2 = 0 by omega, show (2 * q + 1) / 2 = q by omega, show 2 * q / 2 = q by omega]
      simp
    · obtain ⟨q, rfl⟩ : ∃ q, m = 2 * q := ⟨m / 2, by omega⟩
      rw [and_even q (by omega)]
      simp only [memF, tzN, h, if_false]
      rw [show 2 * (q &&& (q - 1)) % 2 = 0 by omega, show 2 * q / 2 = q by omega, show 2 * (q &&& (q - 1)) / 2 = q &&& (q - 1) by omega]
      rw [memF_low n (i + 1) q (by omega) (by omega)]
      simp
      omega
theorem tzN_le : ∀ (n m : Nat), tzN n m ≤ n
  | 0, _ => Nat.le_refl _
  | n + 1, m => by
    have := tzN_le n (m / 2)
    rw [tzN]
    split <;> omega
theorem compl (k q : Nat) (h : q < 2 ^ k) : q &&& (2 ^ k - (q + 1)) = 0 := by
  apply Nat.eq_of_testBit_eq
  intro i
  rw [Nat.testBit_and, Nat.testBit_two_pow_sub_succ h, Nat.zero_testBit]
  cases q.testBit i <;> simp
theorem low_bit : ∀ (n m : Nat), 0 < m → m < 2 ^ n → m &&& (2 ^ n - m) = 2 ^ tzN n m
  | 0, m, h1, h2 => by simp at h2; omega
  | n + 1, m, h1, h2 => by
    rw [Nat.pow_succ] at h2
    obtain ⟨w, hw⟩ : ∃ w, w = 2 ^ n := ⟨_, rfl⟩
    have e : 2 ^ (n + 1) = 2 * w := by rw [Nat.pow_succ, hw]; omega
    rw [← hw] at h2
    rw [e]
    by_cases h : m % 2 = 1
    · obtain ⟨q, rfl⟩ : ∃ q, m = 2 * q + 1 := ⟨m / 2, by omega⟩
      have d1 : ((2 * q + 1) &&& (2 * w - (2 * q + 1))) / 2 = 0 := by
        rw [Nat.and_div_two, show (2 * q + 1) / 2 = q by omega, show (2 * w - (2 * q + 1)) / 2 = w - (q + 1) by omega, hw]
        exact compl n q (by omega)
      have d2 : ((2 * q + 1) &&& (2 * w - (2 * q + 1))) % 2 = 1 := by
        have := Nat.and_mod_two_pow (a := 2 * q + 1) (b := 2 * w - (2 * q + 1)) (n := 1)
        rw [Nat.pow_one] at this
        rw [this, show (2 * q + 1) % 2 = 1 by omega, show (2 * w - (2 * q + 1)) % 2 = 1 by omega]
        rfl
      have t : tzN (n + 1) (2 * q + 1) = 0 := by simp [tzN]
      rw [t]
      omega
    · obtain ⟨q, rfl⟩ : ∃ q, m = 2 * q := ⟨m / 2, by omega⟩
      have ih := low_bit n q (by omega) (by omega)
      rw [← hw] at ih
      have d1 : ((2 * q) &&& (2 * w - (2 * q))) / 2 = 2 ^ tzN n q := by
        rw [Nat.and_div_two, show (2 * q) / 2 = q by omega, show (2 * w - (2 * q)) / 2 = w - q by omega]
        exact ih
      have d2 : ((2 * q) &&& (2 * w - (2 * q))) % 2 = 0 := by
        have := Nat.and_mod_two_pow (a := 2 * q) (b := 2 * w - (2 * q)) (n := 1)
        rw [Nat.pow_one] at this
        rw [this, show (2 * q) % 2 = 0 by omega, Nat.zero_and]
      have t : tzN (n + 1) (2 * q) = tzN n q + 1 := by
        simp only [tzN, h, if_false]
        rw [show 2 * q / 2 = q by omega]
      rw [t, Nat.pow_succ]
      omega
theorem tab_at2 : ∀ k : _root_.Fin 17, deBruijn.getD (2 ^ k.val * 125613361 % 4294967296 / 134217728) 0 = k.val ∧ 2 ^ k.val * 125613361 % 4294967296 / 134217728 < 32 := by decide +kernel
theorem tab_low (m : Nat) (h0 : 0 < m) (h : m < 65536) : deBruijn.getD ((m &&& (65536 - m)) * 125613361 % 4294967296 / 134217728) 0 = tzN 16 m ∧ (m &&& (65536 - m)) * 125613361 % 4294967296 / 134217728 < 32 := by
  have hb := low_bit 16 m h0 (by omega)
  have hl := tzN_le 16 m
  rw [show (2 : Nat) ^ 16 = 65536 from rfl] at hb
  rw [hb]
  exact tab_at2 ⟨tzN 16 m, by omega⟩
theorem tz_c (m : Nat) (h0 : 0 < m) (hm : m < 65536) : ACall Tryd.prog 36 [.pv (.int .u16 (m : Nat))] [] (.pv (.int .i64 (tzN 16 m : Nat))) [] [] := by
  refine ACall.fn (fn := Tryd.f36) rfl okMathBitsTrailingZeros16 rfl (by simp) ?_
  simp only [argT, irMathBitsTrailingZeros16.eq_1]
  obtain ⟨t1, t2⟩ := tab_low m h0 hm
  have hl := tzN_le 16 m
  have e0 : ¬ (m : Int) = 0 := by omega
  have e0' : ¬ m = 0 := by omega
  obtain ⟨k, hk⟩ : ∃ k, k = 65536 - m := ⟨_, rfl⟩
  have e1 : IntKind.u16.wrap (-(m : Int)) = k := by simp [IntKind.wrap, IntKind.bits, IntKind.signed]; omega
  rw [← hk] at t1 t2
  obtain ⟨p, hp⟩ : ∃ p, p = m &&& k := ⟨_, rfl⟩
  have hp16 : p < 65536 := by rw [hp]; exact Nat.and_lt_two_pow (n := 16) m (by omega)
  have e2 : bits BinOp.and IntKind.u16 (m : Int) (k : Int) = (p : Int) := by
    rw [(bits_op .u16 m k hm (by simp [IntKind.bits]; omega)).1, ← hp]
    simp [IntKind.wrap, IntKind.bits, IntKind.signed]
    omega
  have e3 : IntKind.u32.wrap (p : Int) = p := by simp [IntKind.wrap, IntKind.bits, IntKind.signed]; omega
  rw [← hp] at t1 t2
  obtain ⟨x, hx⟩ : ∃ x, x = p * 125613361 % 4294967296 := ⟨_, rfl⟩
  rw [← hx] at t1 t2
  have e4 : IntKind.u32.wrap ((p : Int) * 125613361) = x := by simp [IntKind.wrap, IntKind.bits, IntKind.signed]; omega
  obtain ⟨y, hy⟩ : ∃ y, y = x / 134217728 := ⟨_, rfl⟩
  have e5 : (x : Int).fdiv (2 ^ min 27 IntKind.u32.bits) = (y : Int) := by rw [hy]; exact shr_nat x 27
  rw [← hy] at t1 t2
  have hlen : deBruijn.length = 32 := rfl
  have e6 : (y : Int) < 32 := by omega
  rw [List.getD_eq_getElem?_getD] at t1
  generalize tzN 16 m = z at *
  generalize deBruijn = T at *
  have e7 : IntKind.i64.wrap (z : Int) = z := by rw [wrap_i64] <;> omega
  simp [-getElem?_pos, e0, e0', e1, e2, e3, e4, e5, hlen, e6, t1, t2, e7]
theorem mvl : ∀ (n m : Nat) (L : List Nat), popF 16 m ≤ n → m < 65536 → L.length + popF 16 m ≤ 100 → ∀ (Q : Exit → S → Prop),
   (∀ a b, Q (.exit 0) (mk [(3, .os 3 1 (krows .i64 (L ++ memF 16 0 m))), (4, a), (7, b), (8, .pv (.bool false))] [])) →
   LoopW Tryd.prog [3, 4] [] irViewsMembers_L1 (mk [(3, .os 3 1 (krows .i64 L)), (4, .pv (.int .u16 (m : Nat)))] []) Q := by
  intro n
  induction n with
  | zero =>
    intro m L hp hm hL Q hQ
    have h0 : m = 0 := by
      apply Classical.byContradiction
      intro h
      have e := memF_low 16 0 m (by omega) hm
      have := congrArg List.length e
      rw [memF_len, List.length_cons] at this
      omega
    subst h0
    have e : memF 16 0 0 = [] := rfl
    rw [e, List.append_nil] at hQ
    refine LoopW.go irViewsMembers_L1.eq_1 (by simp) ?_
    simp
    exact hQ _ _
  | succ n ih =>
    intro m L hp hm hL Q hQ
    by_cases h0 : m = 0
    · subst h0
      have e : memF 16 0 0 = [] := rfl
      rw [e, List.append_nil] at hQ
      refine LoopW.go irViewsMembers_L1.eq_1 (by simp) ?_
      simp
      exact hQ _ _
    · have e := memF_low 16 0 m (by omega) hm
      have hl := congrArg List.length e
      rw [memF_len, List.length_cons, memF_len] at hl
      rw [e, Nat.zero_add, List.append_cons] at hQ
      obtain ⟨k, hk⟩ : ∃ k, k = m - 1 := ⟨_, rfl⟩
      obtain ⟨p, hpp⟩ : ∃ p, p = m &&& k := ⟨_, rfl⟩
      rw [← hk, ← hpp] at hQ hl
      have hp16 : p < 65536 := by rw [hpp]; exact Nat.and_lt_two_pow (n := 16) m (by omega)
      have e1 : IntKind.u16.wrap ((m : Int) - 1) = k := by simp [IntKind.wrap, IntKind.bits, IntKind.signed]; omega
      have e2 : bits BinOp.and IntKind.u16 (m : Int) (k : Int) = (p : Int) := by
        rw [(bits_op .u16 m k hm (by simp [IntKind.bits]; omega)).1, ← hpp]
        simp [IntKind.wrap, IntKind.bits, IntKind.signed]
        omega
      have hn := ih p (L ++ [tzN 16 m]) (by omega) hp16 (by simp; omega) Q hQ
      have e0 : ¬ (m : Int) = 0 := by omega
      refine LoopW.go irViewsMembers_L1.eq_1 (by simp) ?_
      simp [e0, h0]
      refine CallG.go (tz_c m (by omega) hm) ?_
      simp [e1, e2, krows_length, krows_one]
      exact ⟨by omega, hn⟩
theorem vmembers_c (n : Int) (m : Nat) (hm : m < 65536) : ACall Tryd.prog 11 [.pagg (vwP (n, m))] [] (.os 3 1 (krows .i64 (memF 16 0 m))) [] [] := by
  refine ACall.fn (fn := Tryd.f11) rfl okViewsMembers rfl (by simp) ?_
  simp only [argT, irViewsMembers.eq_1]
  have hp := pop_le m
  simp [vwP]
  refine mvl 16 m [] hp hm (by simp only [List.length_nil]; unfold pop at hp; omega) _ fun a b => ?_
  simp
/-- How many members a right view has. -/
def sizeF (n : Int) (m : Nat) : Nat := if rightV n m = true then pop m else 0
theorem sizeF_cases (n : Int) (m : Nat) : (sizeF n m = 0 ∧ rightV n m = false) ∨ (rightV n m = true ∧ sizeF n m = pop m ∧ (sizeF n m = 4 ∨ sizeF n m = 5 ∨ sizeF n m = 6 ∨ sizeF n m = 7)) := by
  unfold sizeF
  cases h : rightV n m
  · simp
  · have := h
    unfold rightV at this
    simp at this
    simp
    omega
def faultsF (s : Nat) : Nat := if s = 7 then 2 else if 4 ≤ s then 1 else 0
def quorF (s : Nat) : Nat := if s = 0 then 0 else (s + faultsF s) / 2 + 1
def someF (s : Nat) : Nat := if s = 0 then 0 else faultsF s + 1
theorem size_c (n : Int) (m : Nat) (hm : m < 65536) : ACall Tryd.prog 35 [.pagg (vwP (n, m))] [] (.pv (.int .i64 (sizeF n m : Nat))) [] [] := by
  refine ACall.fn (fn := Tryd.f35) rfl okViewsSize rfl (by simp) ?_
  simp only [argT, irViewsSize.eq_1]
  have c1 := rightV_c n m hm
  have c2 := count_c n m hm
  unfold sizeF
  by_cases h0 : n = 0 ∧ m = 0
  · obtain ⟨rfl, rfl⟩ := h0
    have hr : rightV 0 0 = false := by decide
    simp [vwP, hr, ckAll, ckOne, eqPVs, eqPV]
  · have he : eqPVs (vwP (n, m)) (vwP (0, 0)) = false := by rw [vw_eq]; simp; omega
    simp only [vwP] at c1 c2 he ⊢
    cases h : rightV n m
    · rw [h] at c1
      simp [ckAll, ckOne] at he ⊢
      simp [he]
      refine CallG.go c1 ?_
      simp
    · rw [h] at c1
      simp [ckAll, ckOne] at he ⊢
      simp [he]
      refine CallG.go c1 ?_
      simp
      refine CallG.go c2 ?_
      simp
theorem refSize_c (n : Int) (m : Nat) (hm : m < 65536) : ACall Tryd.prog 37 [.pagg (vwP (n, m))] [] (.pv (.int .i64 (sizeF n m : Nat))) [] [] := by
  refine ACall.fn (fn := Tryd.f37) rfl okRef06Size rfl (by simp) ?_
  simp only [argT, irRef06Size.eq_1]
  have c1 := refRightV_c n m hm
  have c2 := members_c n m hm
  have hl : (memF 16 0 m).length = pop m := memF_len 16 0 m
  unfold sizeF
  simp only [vwP] at c1 c2 ⊢
  generalize memF 16 0 m = L at *
  cases h : rightV n m
  · rw [h] at c1
    simp
    refine CallG.go c1 ?_
    simp
  · rw [h] at c1
    simp
    refine CallG.go c1 ?_
    simp
    refine CallG.go c2 ?_
    simp [krows_length, hl]
theorem faults_c (n : Int) (m : Nat) (hm : m < 65536) : ACall Tryd.prog 16 [.pagg (vwP (n, m))] [] (.pv (.int .i64 (faultsF (sizeF n m) : Nat))) [] [] := by
  refine ACall.fn (fn := Tryd.f16) rfl okViewsFaults rfl (by simp) ?_
  simp only [argT, irViewsFaults.eq_1]
  have c1 := size_c n m hm
  have hs := sizeF_cases n m
  simp only [vwP] at c1 ⊢
  generalize sizeF n m = s at *
  simp
  refine CallG.go c1 ?_
  rcases hs with ⟨rfl, _⟩ | ⟨_, _, rfl | rfl | rfl | rfl⟩ <;> simp [faultsF] <;> rfl
theorem refFaults_c (n : Int) (m : Nat) (hm : m < 65536) : ACall Tryd.prog 22 [.pagg (vwP (n, m))] [] (.pv (.int .i64 (faultsF (sizeF n m) : Nat))) [] [] := by
  refine ACall.fn (fn := Tryd.f22) rfl okRef06Faults rfl (by simp) ?_
  simp only [argT, irRef06Faults.eq_1]
  have c1 := refSize_c n m hm
  have hs := sizeF_cases n m
  simp only [vwP] at c1 ⊢
  generalize sizeF n m = s at *
  simp
  refine CallG.go c1 ?_
  rcases hs with ⟨rfl, _⟩ | ⟨_, _, rfl | rfl | rfl | rfl⟩ <;> simp [faultsF]
theorem quorum_c (n : Int) (m : Nat) (hm : m < 65536) : ACall Tryd.prog 17 [.pagg (vwP (n, m))] [] (.pv (.int .i64 (quorF (sizeF n m) : Nat))) [] [] := by
  refine ACall.fn (fn := Tryd.f17) rfl okViewsQuorum rfl (by simp) ?_
  simp only [argT, irViewsQuorum.eq_1]
  have c1 := size_c n m hm
  have c2 := faults_c n m hm
  have hs := sizeF_cases n m
  simp only [vwP] at c1 c2 ⊢
  generalize sizeF n m = s at *
  simp
  refine CallG.go c1 ?_
  rcases hs with ⟨rfl, _⟩ | ⟨_, _, rfl | rfl | rfl | rfl⟩
  · simp [quorF]
  all_goals
    simp [faultsF] at c2
    simp [quorF, faultsF]
    refine CallG.go c2 ?_
    simp
    try rfl
theorem refQuorum_c (n : Int) (m : Nat) (hm : m < 65536) : ACall Tryd.prog 23 [.pagg (vwP (n, m))] [] (.pv (.int .i64 (quorF (sizeF n m) : Nat))) [] [] := by
  refine ACall.fn (fn := Tryd.f23) rfl okRef06Quorum rfl (by simp) ?_
  simp only [argT, irRef06Quorum.eq_1]
  have c1 := refSize_c n m hm
  have c2 := refFaults_c n m hm
  have hs := sizeF_cases n m
  simp only [vwP] at c1 c2 ⊢
  generalize sizeF n m = s at *
  simp
  refine CallG.go c1 ?_
  rcases hs with ⟨rfl, _⟩ | ⟨_, _, rfl | rfl | rfl | rfl⟩
  · simp [quorF]
  all_goals
    simp [faultsF] at c2
    simp [quorF, faultsF]
    refine CallG.go c1 ?_
    simp
    refine CallG.go c2 ?_
    simp
    try rfl
theorem enough_c (n : Int) (m : Nat) (hm : m < 65536) : ACall Tryd.prog 18 [.pagg (vwP (n, m))] [] (.pv (.int .i64 (sizeF n m - faultsF (sizeF n m) : Nat))) [] [] := by
  refine ACall.fn (fn := Tryd.f18) rfl okViewsEnough rfl (by simp) ?_
  simp only [argT, irViewsEnough.eq_1]
  have c1 := size_c n m hm
  have c2 := faults_c n m hm
  have hs := sizeF_cases n m
  simp only [vwP] at c1 c2 ⊢
  generalize sizeF n m = s at *
  simp
  refine CallG.go c1 ?_
  simp
  refine CallG.go c2 ?_
  rcases hs with ⟨rfl, _⟩ | ⟨_, _, rfl | rfl | rfl | rfl⟩ <;> simp [faultsF] <;> try rfl
theorem refEnough_c (n : Int) (m : Nat) (hm : m < 65536) : ACall Tryd.prog 24 [.pagg (vwP (n, m))] [] (.pv (.int .i64 (sizeF n m - faultsF (sizeF n m) : Nat))) [] [] := by
  refine ACall.fn (fn := Tryd.f24) rfl okRef06Enough rfl (by simp) ?_
  simp only [argT, irRef06Enough.eq_1]
  have c1 := refSize_c n m hm
  have c2 := refFaults_c n m hm
  have hs := sizeF_cases n m
  simp only [vwP] at c1 c2 ⊢
  generalize sizeF n m = s at *
  simp
  refine CallG.go c1 ?_
  simp
  refine CallG.go c2 ?_
  rcases hs with ⟨rfl, _⟩ | ⟨_, _, rfl | rfl | rfl | rfl⟩ <;> simp [faultsF] <;> try rfl
theorem someV_c (n : Int) (m : Nat) (hm : m < 65536) : ACall Tryd.prog 19 [.pagg (vwP (n, m))] [] (.pv (.int .i64 (someF (sizeF n m) : Nat))) [] [] := by
  refine ACall.fn (fn := Tryd.f19) rfl okViewsSome rfl (by simp) ?_
  simp only [argT, irViewsSome.eq_1]
  have c1 := size_c n m hm
  have c2 := faults_c n m hm
  have hs := sizeF_cases n m
  simp only [vwP] at c1 c2 ⊢
  generalize sizeF n m = s at *
  simp
  refine CallG.go c1 ?_
  rcases hs with ⟨rfl, _⟩ | ⟨_, _, rfl | rfl | rfl | rfl⟩
  · simp [someF]
  all_goals
    simp [faultsF] at c2
    simp [someF, faultsF]
    refine CallG.go c2 ?_
    simp
    try rfl
theorem refSome_c (n : Int) (m : Nat) (hm : m < 65536) : ACall Tryd.prog 25 [.pagg (vwP (n, m))] [] (.pv (.int .i64 (someF (sizeF n m) : Nat))) [] [] := by
  refine ACall.fn (fn := Tryd.f25) rfl okRef06Some rfl (by simp) ?_
  simp only [argT, irRef06Some.eq_1]
  have c1 := refSize_c n m hm
  have c2 := refFaults_c n m hm
  have hs := sizeF_cases n m
  simp only [vwP] at c1 c2 ⊢
  generalize sizeF n m = s at *
  simp
  refine CallG.go c1 ?_
  rcases hs with ⟨rfl, _⟩ | ⟨_, _, rfl | rfl | rfl | rfl⟩
  · simp [someF]
  all_goals
    simp [faultsF] at c2
    simp [someF, faultsF]
    refine CallG.go c2 ?_
    simp
    try rfl
/-- Who leads. -/
def leadF (n : Int) (m : Nat) (r : Int) : Int := if sizeF n m = 0 ∨ r < 0 then -1 else ((memF 16 0 m).getD (r.toNat % sizeF n m) 0 : Nat)
theorem leader_c (n : Int) (m : Nat) (r : Int) (hm : m < 65536) : ACall Tryd.prog 10 [.pagg (vwP (n, m)), .pv (.int .i64 r)] [] (.pv (.int .i64 (leadF n m r))) [] [] := by
  refine ACall.fn (fn := Tryd.f10) rfl okViewsLeader rfl (by simp) ?_
  simp only [argT, irViewsLeader.eq_1]
  have c1 := size_c n m hm
  have c2 := vmembers_c n m hm
  have hl : (memF 16 0 m).length = pop m := memF_len 16 0 m
  have hs := sizeF_cases n m
  unfold leadF
  simp only [vwP] at c1 c2 ⊢
  generalize memF 16 0 m = L at *
  generalize sizeF n m = s at *
  by_cases h0 : s = 0
  · subst h0
    simp
    refine CallG.go c1 ?_
    simp
  · have h0' : ¬ (s : Int) = 0 := by omega
    by_cases h1 : r < 0
    · simp [h0, h1]
      refine CallG.go c1 ?_
      simp [h0, h0', h1]
    · obtain ⟨k, rfl⟩ : ∃ k : Nat, r = k := ⟨r.toNat, by omega⟩
      rw [if_neg (by omega), Int.toNat_natCast]
      have hsp : s = L.length := by omega
      obtain ⟨j, hj⟩ : ∃ j, j = k % s := ⟨_, rfl⟩
      have hjl : j < s := by rw [hj]; exact Nat.mod_lt _ (by omega)
      rw [← hj]
      obtain ⟨x, hx⟩ : ∃ x, L[j]? = some x := ⟨_, List.getElem?_eq_getElem (by omega)⟩
      have hxd : L.getD j 0 = x := by rw [List.getD_eq_getElem?_getD, hx]; rfl
      rw [hxd]
      have v1 : (k : Int).tmod (s : Int) = (j : Int) := by rw [hj]; rfl
      have i1 : (j : Int) < (L.length : Int) := by omega
      have i2 : j < L.length := by omega
      simp [-getElem?_pos]
      refine CallG.go c1 ?_
      simp [-getElem?_pos, h0, h0', h1]
      refine CallG.go c2 ?_
      simp [-getElem?_pos, h0, h0', v1, i1, i2, krows_length, krows_get, hx]
theorem refLeader_c (n : Int) (m : Nat) (r : Int) (hm : m < 65536) : ACall Tryd.prog 26 [.pagg (vwP (n, m)), .pv (.int .i64 r)] [] (.pv (.int .i64 (leadF n m r))) [] [] := by
  refine ACall.fn (fn := Tryd.f26) rfl okRef06Leader rfl (by simp) ?_
  simp only [argT, irRef06Leader.eq_1]
  have c1 := refSize_c n m hm
  have c2 := members_c n m hm
  have hl : (memF 16 0 m).length = pop m := memF_len 16 0 m
  have hs := sizeF_cases n m
  unfold leadF
  simp only [vwP] at c1 c2 ⊢
  generalize memF 16 0 m = L at *
  generalize sizeF n m = s at *
  by_cases h0 : s = 0
  · subst h0
    simp
    refine CallG.go c1 ?_
    simp
  · have h0' : ¬ (s : Int) = 0 := by omega
    by_cases h1 : r < 0
    · simp [h0, h1]
      refine CallG.go c1 ?_
      simp [h0, h0', h1]
    · obtain ⟨k, rfl⟩ : ∃ k : Nat, r = k := ⟨r.toNat, by omega⟩
      rw [if_neg (by omega), Int.toNat_natCast]
      obtain ⟨j, hj⟩ : ∃ j, j = k % s := ⟨_, rfl⟩
      have hjl : j < s := by rw [hj]; exact Nat.mod_lt _ (by omega)
      rw [← hj]
      obtain ⟨x, hx⟩ : ∃ x, L[j]? = some x := ⟨_, List.getElem?_eq_getElem (by omega)⟩
      have hxd : L.getD j 0 = x := by rw [List.getD_eq_getElem?_getD, hx]; rfl
      rw [hxd]
      have v1 : (k : Int).tmod (s : Int) = (j : Int) := by rw [hj]; rfl
      have i1 : (j : Int) < (L.length : Int) := by omega
      have i2 : j < L.length := by omega
      simp [-getElem?_pos]
      refine CallG.go c1 ?_
      simp [-getElem?_pos, h0, h0', h1]
      refine CallG.go c2 ?_
      simp [-getElem?_pos]
      refine CallG.go c1 ?_
      simp [-getElem?_pos, h0, h0', v1, i1, i2, krows_length, krows_get, hx]
end Go.Proofs.YtaekbkjckahccaaDoor
