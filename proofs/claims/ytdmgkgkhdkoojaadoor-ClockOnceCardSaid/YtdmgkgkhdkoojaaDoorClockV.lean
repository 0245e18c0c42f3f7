/- Views at the clock's seat: how many members, right, members. -/
import Derived.Test.YtdmgkgkhdkoojaaDoorPlainExecs
import Derived.Test.YtdmgkgkhdkoojaaDoorPlainWorld
import Derived.Test.YtdmgkgkhdkoojaaDoorIrClock
import Derived.Test.YtdmgkgkhdkoojaaDoorArgTxt
set_option linter.unusedVariables false
set_option linter.unusedSimpArgs false
namespace Go.Proofs.YtdmgkgkhdkoojaaDoor
open Go.Abs Go.RowKit Go.Ours

theorem tab_at (x : Nat) (h : x < 256) : (strMathBitsOnesCount16_1.data.getD x 0).toNat = popF 8 x := by
  have h' : ∀ x : _root_.Fin 256, (strMathBitsOnesCount16_1.data.getD x.val 0).toNat = popF 8 x.val := by decide +kernel
  exact h' ⟨x, h⟩
theorem tab_size : strMathBitsOnesCount16_1.data.size = 256 := by decide +kernel
theorem ones_c (m : Nat) (hm : m < 65536) : ACall Tryd.prog 19 [.pv (.int .u16 (m : Nat))] [] (.pv (.int .i64 (pop m : Nat))) [] [] := by
  refine ACall.fn (fn := Tryd.f19) rfl okMathBitsOnesCount16 rfl (by simp) ?_
  simp only [argT, irMathBitsOnesCount16.eq_1]
  obtain ⟨q, hq⟩ : ∃ q, q = m / 256 := ⟨_, rfl⟩
  obtain ⟨r, hr⟩ : ∃ r, r = m % 256 := ⟨_, rfl⟩
  have e1 : (m : Int).fdiv (2 ^ min 8 IntKind.u16.bits) = (q : Int) := by rw [hq]; exact shr_nat m 8
  have e2 : bits BinOp.and IntKind.u16 (m : Int) 255 = (r : Int) := by
    have := (bits_op .u16 m 255 hm (by decide)).1
    rw [show ((255 : Nat) : Int) = 255 from rfl] at this
    rw [this, Nat.and_two_pow_sub_one_eq_mod m 8, hr]
    simp [IntKind.wrap, IntKind.bits, IntKind.signed]
    omega
  have hs := tab_size
  have t1 := tab_at q (by omega)
  have t2 := tab_at r (by omega)
  simp only [Array.getD_eq_getD_getElem?] at t1 t2
  have l1 := popF_le 8 q
  have l2 := popF_le 8 r
  have hp := pop_split m
  rw [← hq, ← hr] at hp
  generalize strMathBitsOnesCount16_1 = T at *
  generalize popF 8 q = a at *
  generalize popF 8 r = b at *
  obtain ⟨s, hss⟩ : ∃ s, s = a + b := ⟨_, rfl⟩
  have w1 : IntKind.u8.wrap ((a : Int) + (b : Int)) = (s : Nat) := by rw [wrap_u8] <;> omega
  have w2 : IntKind.i64.wrap ((s : Nat) : Int) = (s : Nat) := by rw [wrap_i64] <;> omega
  rw [hp, ← hss]
  simp [e1, e2, hs, t1, t2, w1, w2]
  omega
theorem count_c (n : Int) (m : Nat) (hm : m < 65536) : ACall Tryd.prog 17 [.pagg (vwP (n, m))] [] (.pv (.int .i64 (pop m : Nat))) [] [] := by
  refine ACall.fn (fn := Tryd.f17) rfl okViewsCount rfl (by simp) ?_
  simp only [argT, irViewsCount.eq_1]
  simp [vwP]
  refine CallG.go (ones_c m hm) ?_
  simp
theorem rightV_c (n : Int) (m : Nat) (hm : m < 65536) : ACall Tryd.prog 13 [.pagg (vwP (n, m))] [] (.pv (.bool (rightV n m))) [] [] := by
  refine ACall.fn (fn := Tryd.f13) rfl okViewsRight rfl (by simp) ?_
  simp only [argT, irViewsRight.eq_1]
  have hc := count_c n m hm
  unfold rightV
  simp only [vwP] at hc ⊢
  generalize pop m = p at *
  simp
  refine CallG.go hc ?_
  by_cases h1 : 0 ≤ n
  · by_cases h2 : n ≤ 60
    · by_cases h3 : 4 ≤ p
      · have h3' : (4 : Int) ≤ (p : Int) := by omega
        by_cases h4 : p ≤ 7
        · have h4' : (p : Int) ≤ 7 := by omega
          simp [h1, h2, h3, h3', h4, h4']
        · have h4' : ¬ (p : Int) ≤ 7 := by omega
          simp [h1, h2, h3, h3', h4, h4']
      · have h3' : ¬ (4 : Int) ≤ (p : Int) := by omega
        simp [h1, h2, h3, h3']
    · simp [h1, h2]
  · simp [h1]
theorem mbl : ∀ (n k m : Nat) (L : List Nat), k + n = 16 → m < 65536 → L.length ≤ k → ∀ (Q : Exit → S → Prop),
   (∀ a b c, Q (.exit 0) (mk [(3, .os 3 1 (krows .i64 (L ++ memF n k m))), (4, a), (5, b), (9, c), (10, .pv (.bool false))] [])) →
   LoopW Tryd.prog [3, 4, 5] [] irRef06Members_L1 (mk [(3, .os 3 1 (krows .i64 L)), (4, .pv (.int .i64 (m : Nat))), (5, .pv (.int .i64 (k : Nat)))] []) Q := by
  intro n
  induction n with
  | zero =>
    intro k m L hk hm hL Q hQ
    obtain rfl : k = 16 := by omega
    rw [memF, List.append_nil] at hQ
    refine LoopW.go irRef06Members_L1.eq_1 (by simp) ?_
    simp
    exact hQ _ _ _
  | succ n ih =>
    intro k m L hk hm hL Q hQ
    rw [memF, ← List.append_assoc] at hQ
    obtain ⟨q, hq⟩ : ∃ q, q = m / 2 := ⟨_, rfl⟩
    rw [← hq] at hQ
    have v1 : (m : Int).tdiv 2 = (q : Int) := by rw [hq]; rfl
    have v2 : IntKind.i64.wrap (q : Int) = q := by rw [wrap_i64] <;> omega
    have v3 : (m : Int).tmod 2 = ((m % 2 : Nat) : Int) := rfl
    have i1 : (k : Int) < 16 := by omega
    have i2 : k < 16 := by omega
    have w : IntKind.i64.wrap ((k : Int) + 1) = (k + 1 : Nat) := by rw [wrap_i64] <;> omega
    by_cases h : m % 2 = 1
    · rw [if_pos h] at hQ
      have hn := ih (k + 1) q (L ++ [k]) (by omega) (by omega) (by simp; omega) Q hQ
      refine LoopW.go irRef06Members_L1.eq_1 (by simp) ?_
      simp [i1, i2, v1, v2, v3, h, w, krows_length, krows_one]
      exact ⟨by omega, hn⟩
    · rw [if_neg h, List.append_nil] at hQ
      have h' : m % 2 = 0 := by omega
      have hn := ih (k + 1) q L (by omega) (by omega) (by omega) Q hQ
      refine LoopW.go irRef06Members_L1.eq_1 (by simp) ?_
      simp [i1, i2, v1, v2, v3, h', w]
      exact hn
theorem members_c (n : Int) (m : Nat) (hm : m < 65536) : ACall Tryd.prog 9 [.pagg (vwP (n, m))] [] (.os 3 1 (krows .i64 (memF 16 0 m))) [] [] := by
  refine ACall.fn (fn := Tryd.f9) rfl okRef06Members rfl (by simp) ?_
  simp only [argT, irRef06Members.eq_1]
  have w : IntKind.i64.wrap (m : Int) = m := by rw [wrap_i64] <;> omega
  simp [vwP, w]
  refine mbl 16 0 m [] rfl hm (by simp) _ fun a b c => ?_
  simp
theorem refRightV_c (n : Int) (m : Nat) (hm : m < 65536) : ACall Tryd.prog 8 [.pagg (vwP (n, m))] [] (.pv (.bool (rightV n m))) [] [] := by
  refine ACall.fn (fn := Tryd.f8) rfl okRef06Right rfl (by simp) ?_
  simp only [argT, irRef06Right.eq_1]
  have hc := members_c n m hm
  have hl : (memF 16 0 m).length = pop m := memF_len 16 0 m
  unfold rightV
  simp only [vwP] at hc ⊢
  generalize memF 16 0 m = L at *
  generalize pop m = p at *
  simp
  refine CallG.go hc ?_
  by_cases h1 : 0 ≤ n
  · by_cases h2 : n ≤ 60
    · by_cases h3 : 4 ≤ p
      · have h3' : (4 : Int) ≤ (p : Int) := by omega
        by_cases h4 : p ≤ 7
        · have h4' : (p : Int) ≤ 7 := by omega
          simp [h1, h2, h3, h3', h4, h4', krows_length, hl]
        · have h4' : ¬ (p : Int) ≤ 7 := by omega
          simp [h1, h2, h3, h3', h4, h4', krows_length, hl]
      · have h3' : ¬ (4 : Int) ≤ (p : Int) := by omega
        simp [h1, h2, h3, h3', krows_length, hl]
    · simp [h1, h2, krows_length, hl]
  · simp [h1, krows_length, hl]
/-- Where the lowest bit lies. -/
def tzN : Nat → Nat → Nat
  | 0, _ => 0
  | n + 1, m => if m % 2 = 1 then 0 else tzN n (m / 2) + 1
theorem and_even (q : Nat) (h : 0 < q) : (2 * q) &&& (2 * q - 1) = 2 * (q &&& (q - 1)) := by
  have h1 : ((2 * q) &&& (2 * q - 1)) / 2 = q &&& (q - 1) := by
    rw [Nat.and_div_two, show 2 * q / 2 = q by omega, show (2 * q - 1) / 2 = q - 1 by omega]
  have h2 : ((2 * q) &&& (2 * q - 1)) % 2 = 0 := by
    have := Nat.and_mod_two_pow (a := 2 * q) (b := 2 * q - 1) (n := 1)
    rw [Nat.pow_one] at this
    rw [this, show 2 * q % 2 = 0 by omega, Nat.zero_and]
  omega
theorem and_odd (q : Nat) : (2 * q + 1) &&& (2 * q + 1 - 1) = 2 * q := by
  have h1 : ((2 * q + 1) &&& (2 * q + 1 - 1)) / 2 = q := by
    rw [Nat.and_div_two, show (2 * q + 1) / 2 = q by omega, show (2 * q + 1 - 1) / 2 = q by omega, Nat.and_self]
  have h2 : ((2 * q + 1) &&& (2 * q + 1 - 1)) % 2 = 0 := by
    have := Nat.and_mod_two_pow (a := 2 * q + 1) (b := 2 * q + 1 - 1) (n := 1)
    rw [Nat.pow_one] at this
    rw [this, show (2 * q + 1 - 1) % 2 = 0 by omega, Nat.and_zero]
  omega
theorem memF_low : ∀ (n i m : Nat), 0 < m → m < 2 ^ n → memF n i m = (i + tzN n m) :: memF n i (m &&& (m - 1))
  | 0, i, m, h1, h2 => by simp at h2; omega
  | n + 1, i, m, h1, h2 => by
    rw [Nat.pow_succ] at h2
    by_cases h : m % 2 = 1
    · obtain ⟨q, rfl⟩ : ∃ q, m = 2 * q + 1 := ⟨m / 2, by omega⟩
      rw [and_odd]
      simp only [memF, tzN, h, if_true]
      rw [show 2 * q % 2 = 0 by omega, show (2 * q + 1) / 2 = q by omega, show 2 * q / 2 = q by omega]
      simp
    · obtain ⟨q, rfl⟩ : ∃ q, m = 2 * q := ⟨m / 2, by omega⟩
      rw [and_even q (by omega)]
      simp only [memF, tzN, h, if_false]
      rw [show 2 * (q &&& (q - 1)) % 2 = 0 by omega, show 2 * q / 2 = q by omega, show 2 * (q &&& (q - 1)) / 2 = q &&& (q - 1) by omega]
      rw [memF_low n (i + 1) q (by omega) (by omega)]
      simp
      omega
theorem tzN_le : ∀ (n m : Nat), tzN n m ≤ n
  | 0, _ => Nat.le_refl _
  | n + 1, m => by
    have := tzN_le n (m / 2)
    rw [tzN]
    split <;> omega
theorem compl (k q : Nat) (h : q < 2 ^ k) : q &&& (2 ^ k - (q + 1)) = 0 := by
  apply Nat.eq_of_testBit_eq
  intro i
  rw [Nat.testBit_and, Nat.testBit_two_pow_sub_succ h, Nat.zero_testBit]
  cases q.testBit i <;> simp
theorem low_bit : ∀ (n m : Nat), 0 < m → m < 2 ^ n → m &&& (2 ^ n - m) = 2 ^ tzN n m
  | 0, m, h1, h2 => by simp at h2; omega
  | n + 1, m, h1, h2 => by
    rw [Nat.pow_succ] at h2
    obtain ⟨w, hw⟩ : ∃ w, w = 2 ^ n := ⟨_, rfl⟩
    have e : 2 ^ (n + 1) = 2 * w := by rw [Nat.pow_succ, hw]; omega
    rw [← hw] at h2
    rw [e]
    by_cases h : m % 2 = 1
    · obtain ⟨q, rfl⟩ : ∃ q, m = 2 * q + 1 := ⟨m / 2, by omega⟩
      have d1 : ((2 * q + 1) &&& (2 * w - (2 * q + 1))) / 2 = 0 := by
        rw [Nat.and_div_two, show (2 * q + 1) / 2 = q by omega, show (2 * w - (2 * q + 1)) / 2 = w - (q + 1) by omega, hw]
        exact compl n q (by omega)
      have d2 : ((2 * q + 1) &&& (2 * w - (2 * q + 1))) % 2 = 1 := by
        have := Nat.and_mod_two_pow (a := 2 * q + 1) (b := 2 * w - (2 * q + 1)) (n := 1)
        rw [Nat.pow_one] at this
        rw [this, show (2 * q + 1) % 2 = 1 by omega, show (2 * w - (2 * q + 1)) % 2 = 1 by omega]
        rfl
      have t : tzN (n + 1) (2 * q + 1) = 0 := by simp [tzN]
      rw [t]
      omega
    · obtain ⟨q, rfl⟩ : ∃ q, m = 2 * q := ⟨m / 2, by omega⟩
      have ih := low_bit n q (by omega) (by omega)
      rw [← hw] at ih
      have d1 : ((2 * q) &&& (2 * w - (2 * q))) / 2 = 2 ^ tzN n q := by
        rw [Nat.and_div_two, show (2 * q) / 2 = q by omega, show (2 * w - (2 * q)) / 2 = w - q by omega]
        exact ih
      have d2 : ((2 * q) &&& (2 * w - (2 * q))) % 2 = 0 := by
        have := Nat.and_mod_two_pow (a := 2 * q) (b := 2 * w - (2 * q)) (n := 1)
        rw [Nat.pow_one] at this
        rw [this, show (2 * q) % 2 = 0 by omega, Nat.zero_and]
      have t : tzN (n + 1) (2 * q) = tzN n q + 1 := by
        simp only [tzN, h, if_false]
        rw [show 2 * q / 2 = q by omega]
      rw [t, Nat.pow_succ]
      omega
theorem tab_at2 : ∀ k : _root_.Fin 17, deBruijn.getD (2 ^ k.val * 125613361 % 4294967296 / 134217728) 0 = k.val ∧ 2 ^ k.val * 125613361 % 4294967296 / 134217728 < 32 := by decide +kernel
theorem tab_low (m : Nat) (h0 : 0 < m) (h : m < 65536) : deBruijn.getD ((m &&& (65536 - m)) * 125613361 % 4294967296 / 134217728) 0 = tzN 16 m ∧ (m &&& (65536 - m)) * 125613361 % 4294967296 / 134217728 < 32 := by
  have hb := low_bit 16 m h0 (by omega)
  have hl := tzN_le 16 m
  rw [show (2 : Nat) ^ 16 = 65536 from rfl] at hb
  rw [hb]
  exact tab_at2 ⟨tzN 16 m, by omega⟩
theorem tz_c (m : Nat) (h0 : 0 < m) (hm : m < 65536) : ACall Tryd.prog 18 [.pv (.int .u16 (m : Nat))] [] (.pv (.int .i64 (tzN 16 m : Nat))) [] [] := by
  refine ACall.fn (fn := Tryd.f18) rfl okMathBitsTrailingZeros16 rfl (by simp) ?_
  simp only [argT, irMathBitsTrailingZeros16.eq_1]
  obtain ⟨t1, t2⟩ := tab_low m h0 hm
  have hl := tzN_le 16 m
  have e0 : ¬ (m : Int) = 0 := by omega
  have e0' : ¬ m = 0 := by omega
  obtain ⟨k, hk⟩ : ∃ k, k = 65536 - m := ⟨_, rfl⟩
  have e1 : IntKind.u16.wrap (-(m : Int)) = k := by simp [IntKind.wrap, IntKind.bits, IntKind.signed]; omega
  rw [← hk] at t1 t2
  obtain ⟨p, hp⟩ : ∃ p, p = m &&& k := ⟨_, rfl⟩
  have hp16 : p < 65536 := by rw [hp]; exact Nat.and_lt_two_pow (n := 16) m (by omega)
  have e2 : bits BinOp.and IntKind.u16 (m : Int) (k : Int) = (p : Int) := by
    rw [(bits_op .u16 m k hm (by simp [IntKind.bits]; omega)).1, ← hp]
    simp [IntKind.wrap, IntKind.bits, IntKind.signed]
    omega
  have e3 : IntKind.u32.wrap (p : Int) = p := by simp [IntKind.wrap, IntKind.bits, IntKind.signed]; omega
  rw [← hp] at t1 t2
  obtain ⟨x, hx⟩ : ∃ x, x = p * 125613361 % 4294967296 := ⟨_, rfl⟩
  rw [← hx] at t1 t2
  have e4 : IntKind.u32.wrap ((p : Int) * 125613361) = x := by simp [IntKind.wrap, IntKind.bits, IntKind.signed]; omega
  obtain ⟨y, hy⟩ : ∃ y, y = x / 134217728 := ⟨_, rfl⟩
  have e5 : (x : Int).fdiv (2 ^ min 27 IntKind.u32.bits) = (y : Int) := by rw [hy]; exact shr_nat x 27
  rw [← hy] at t1 t2
  have hlen : deBruijn.length = 32 := rfl
  have e6 : (y : Int) < 32 := by omega
  rw [List.getD_eq_getElem?_getD] at t1
  generalize tzN 16 m = z at *
  generalize deBruijn = T at *
  have e7 : IntKind.i64.wrap (z : Int) = z := by rw [wrap_i64] <;> omega
  simp [-getElem?_pos, e0, e0', e1, e2, e3, e4, e5, hlen, e6, t1, t2, e7]
theorem mvl : ∀ (n m : Nat) (L : List Nat), popF 16 m ≤ n → m < 65536 → L.length + popF 16 m ≤ 100 → ∀ (Q : Exit → S → Prop),
   (∀ a b, Q (.exit 0) (mk [(3, .os 3 1 (krows .i64 (L ++ memF 16 0 m))), (4, a), (7, b), (8, .pv (.bool false))] [])) →
   LoopW Tryd.prog [3, 4] [] irViewsMembers_L1 (mk [(3, .os 3 1 (krows .i64 L)), (4, .pv (.int .u16 (m : Nat)))] []) Q := by
  intro n
  induction n with
  | zero =>
    intro m L hp hm hL Q hQ
    have h0 : m = 0 := by
      apply Classical.byContradiction
      intro h
      have e := memF_low 16 0 m (by omega) hm
      have := congrArg List.length e
      rw [memF_len, List.length_cons] at this
      omega
    subst h0
    have e : memF 16 0 0 = [] := rfl
    rw [e, List.append_nil] at hQ
    refine LoopW.go irViewsMembers_L1.eq_1 (by simp) ?_
    simp
    exact hQ _ _
  | succ n ih =>
    intro m L hp hm hL Q hQ
    by_cases h0 : m = 0
    · subst h0
      have e : memF 16 0 0 = [] := rfl
      rw [e, List.append_nil] at hQ
      refine LoopW.go irViewsMembers_L1.eq_1 (by simp) ?_
      simp
      exact hQ _ _
    · have e := memF_low 16 0 m (by omega) hm
      have hl := congrArg List.length e
      rw [memF_len, List.length_cons, memF_len] at hl
      rw [e, Nat.zero_add, List.append_cons] at hQ
      obtain ⟨k, hk⟩ : ∃ k, k = m - 1 := ⟨_, rfl⟩
      obtain ⟨p, hpp⟩ : ∃ p, p = m &&& k := ⟨_, rfl⟩
      rw [← hk, ← hpp] at hQ hl
      have hp16 : p < 65536 := by rw [hpp]; exact Nat.and_lt_two_pow (n := 16) m (by omega)
      have e1 : IntKind.u16.wrap ((m : Int) - 1) = k := by simp [IntKind.wrap, IntKind.bits, IntKind.signed]; omega
      have e2 : bits BinOp.and IntKind.u16 (m : Int) (k : Int) = (p : Int) := by
        rw [(bits_op .u16 m k hm (by simp [IntKind.bits]; omega)).1, ← hpp]
        simp [IntKind.wrap, IntKind.bits, IntKind.signed]
        omega
      have hn := ih p (L ++ [tzN 16 m]) (by omega) hp16 (by simp; omega) Q hQ
      have e0 : ¬ (m : Int) = 0 := by omega
      refine LoopW.go irViewsMembers_L1.eq_1 (by simp) ?_
      simp [e0, h0]
      refine CallG.go (tz_c m (by omega) hm) ?_
      simp [e1, e2, krows_length, krows_one]
      exact ⟨by omega, hn⟩
theorem vmembers_c (n : Int) (m : Nat) (hm : m < 65536) : ACall Tryd.prog 14 [.pagg (vwP (n, m))] [] (.os 3 1 (krows .i64 (memF 16 0 m))) [] [] := by
  refine ACall.fn (fn := Tryd.f14) rfl okViewsMembers rfl (by simp) ?_
  simp only [argT, irViewsMembers.eq_1]
  have hp := pop_le m
  simp [vwP]
  refine mvl 16 m [] hp hm (by simp only [List.length_nil]; unfold pop at hp; omega) _ fun a b => ?_
  simp
theorem mem_memF : ∀ (n i m x : Nat), x ∈ memF n i m ↔ i ≤ x ∧ x < i + n ∧ m / 2 ^ (x - i) % 2 = 1
  | 0, i, m, x => by simp [memF]; omega
  | n + 1, i, m, x => by
    rw [memF, List.mem_append, mem_memF n (i + 1) (m / 2) x]
    by_cases hx : x = i
    · subst hx
      rw [Nat.sub_self, Nat.pow_zero, Nat.div_one]
      by_cases h : m % 2 = 1
      · simp [h]
      · simp [h]
        omega
    · have h1 : ¬ x ∈ (if m % 2 = 1 then [i] else []) := by
        split
        · simp [hx]
        · simp
      constructor
      · rintro (h | ⟨h2, h3, h4⟩)
        · exact absurd h h1
        · refine ⟨by omega, by omega, ?_⟩
          rw [show x - i = (x - (i + 1)) + 1 by omega, Nat.pow_succ, Nat.mul_comm, ← Nat.div_div_eq_div_mul]
          exact h4
      · rintro ⟨h2, h3, h4⟩
        refine Or.inr ⟨by omega, by omega, ?_⟩
        rw [show x - i = (x - (i + 1)) + 1 by omega, Nat.pow_succ, Nat.mul_comm, ← Nat.div_div_eq_div_mul] at h4
        exact h4
theorem memF_sorted : ∀ (n i m : Nat), (memF n i m).Pairwise (· < ·)
  | 0, _, _ => List.Pairwise.nil
  | n + 1, i, m => by
    rw [memF, List.pairwise_append]
    refine ⟨by split <;> simp, memF_sorted n (i + 1) (m / 2), fun a ha b hb => ?_⟩
    rw [mem_memF] at hb
    split at ha
    · simp at ha
      omega
    · simp at ha
theorem sorted_inj {L : List Nat} (h : L.Pairwise (· < ·)) {i j x : Nat} (hi : L[i]? = some x) (hj : L[j]? = some x) : i = j := by
  rw [List.pairwise_iff_getElem] at h
  obtain ⟨hi1, hi2⟩ := List.getElem?_eq_some_iff.1 hi
  obtain ⟨hj1, hj2⟩ := List.getElem?_eq_some_iff.1 hj
  rcases Nat.lt_trichotomy i j with hh | hh | hh
  · have := h i j hi1 hj1 hh
    omega
  · exact hh
  · have := h j i hj1 hi1 hh
    omega
theorem mod_step {x d s : Nat} (hs : 0 < s) (h1 : 0 < d) (h2 : d < s) : (x + d) % s ≠ x % s := by
  intro h
  have ht := Nat.mod_lt x hs
  rw [← Nat.mod_add_mod] at h
  generalize x % s = t at *
  by_cases hl : t + d < s
  · rw [Nat.mod_eq_of_lt hl] at h
    omega
  · rw [Nat.mod_eq_sub_mod (by omega), Nat.mod_eq_of_lt (by omega)] at h
    omega
theorem mod_onto {r s t : Nat} (ht : t < s) : ∃ j, j < s ∧ (r + j) % s = t := by
  have hr := Nat.mod_lt r (show 0 < s by omega)
  by_cases h : r % s ≤ t
  · refine ⟨t - r % s, by omega, ?_⟩
    rw [← Nat.mod_add_mod, show r % s + (t - r % s) = t by omega, Nat.mod_eq_of_lt ht]
  · refine ⟨t + s - r % s, by omega, ?_⟩
    rw [← Nat.mod_add_mod, show r % s + (t + s - r % s) = t + s by omega, Nat.add_mod_right, Nat.mod_eq_of_lt ht]
theorem ok_pair {a b : Shp} {ps : List PV} (h : OKs (.pair a b) ps) : ∃ p q, ps = p ++ q ∧ OKs a p ∧ OKs b q := ⟨_, _, (List.take_append_drop _ _).symm, h.1, h.2⟩
theorem ok_int {k : IntKind} {ps : List PV} (h : OKs (.int k) ps) : ∃ n, ps = [.int k n] := by
  obtain ⟨n, h, _⟩ := h
  exact ⟨n, h⟩
theorem ok_unit {ps : List PV} (h : OKs .unit ps) : ps = [] := h
def shV : Shp := .pair (.int .i64) (.pair (.int .u16) .unit)
theorem ok_v {ps : List PV} (h : OKs shV ps) : ∃ v : Int × Nat, v.2 < 65536 ∧ ps = vwP v := by
  obtain ⟨p, q, rfl, h1, h2⟩ := ok_pair h
  obtain ⟨q, r, rfl, h3, h4⟩ := ok_pair h2
  obtain ⟨n, rfl⟩ := ok_int h1
  obtain ⟨m, rfl, hm⟩ := ok_n rfl h3
  rw [ok_unit h4]
  exact ⟨(n, m), hm, rfl⟩
theorem arg_view {w : World} {c : Array Value} (h : Shp.Reads w shV c.toList) : ∃ (n : Int) (m : Nat), ArgR w (.agg c) (.pagg (vwP (n, m))) ∧ m < 65536 := by
  obtain ⟨ps, h1, h2, h3⟩ := pvs_of_reads rfl h
  obtain ⟨v, hv, rfl⟩ := ok_v h2
  exact ⟨v.1, v.2, ArgR.agg h1, hv⟩
end Go.Proofs.YtdmgkgkhdkoojaaDoor
