/- The law ViewsLeads. -/
import Derived.Test.YtaekbkjckahccaaDoorViewsNextW
set_option linter.unusedVariables false
set_option linter.unusedSimpArgs false
namespace Go.Proofs.YtaekbkjckahccaaDoor
open Go.Abs Go.RowKit Go.Ours

theorem memF_sorted : ∀ (n i m : Nat), (memF n i m).Pairwise (· < ·)
  | 0, _, _ => List.Pairwise.nil
  | n + 1, i, m => by
    rw [memF, List.pairwise_append]
    refine ⟨by split <;> simp, memF_sorted n (i + 1) (m / 2), fun a ha b hb => ?_⟩
    rw [mem_memF] at hb
    split at ha
    · simp at ha
      omega
    · simp at ha
theorem sorted_inj {L : List Nat} (h : L.Pairwise (· < ·)) {i j x : Nat} (hi : L[i]? = some x) (hj : L[j]? = some x) : i = j := by
  rw [List.pairwise_iff_getElem] at h
  obtain ⟨hi1, hi2⟩ := List.getElem?_eq_some_iff.1 hi
  obtain ⟨hj1, hj2⟩ := List.getElem?_eq_some_iff.1 hj
  rcases Nat.lt_trichotomy i j with hh | hh | hh
  · have := h i j hi1 hj1 hh
    omega
  · exact hh
  · have := h j i hj1 hi1 hh
    omega
theorem mod_step {x d s : Nat} (hs : 0 < s) (h1 : 0 < d) (h2 : d < s) : (x + d) % s ≠ x % s := by
  intro h
  have ht := Nat.mod_lt x hs
  rw [← Nat.mod_add_mod] at h
  generalize x % s = t at *
  by_cases hl : t + d < s
  · rw [Nat.mod_eq_of_lt hl] at h
    omega
  · rw [Nat.mod_eq_sub_mod (by omega), Nat.mod_eq_of_lt (by omega)] at h
    omega
theorem mod_onto {r s t : Nat} (ht : t < s) : ∃ j, j < s ∧ (r + j) % s = t := by
  have hr := Nat.mod_lt r (show 0 < s by omega)
  by_cases h : r % s ≤ t
  · refine ⟨t - r % s, by omega, ?_⟩
    rw [← Nat.mod_add_mod, show r % s + (t - r % s) = t by omega, Nat.mod_eq_of_lt ht]
  · refine ⟨t + s - r % s, by omega, ?_⟩
    rw [← Nat.mod_add_mod, show r % s + (t + s - r % s) = t + s by omega, Nat.add_mod_right, Nat.mod_eq_of_lt ht]
/-- Who led, a bit each. -/
def metB (L : List Nat) (r s : Nat) : Nat → Nat
  | 0 => 0
  | i + 1 => metB L r s i ||| 2 ^ (L.getD ((r + i) % s) 0)
theorem metB_bit (L : List Nat) (r s b : Nat) : ∀ i, (metB L r s i).testBit b = true ↔ ∃ j, j < i ∧ L.getD ((r + j) % s) 0 = b
  | 0 => by simp [metB]
  | i + 1 => by
    rw [metB, Nat.testBit_or, Bool.or_eq_true, metB_bit L r s b i, Nat.testBit_two_pow]
    simp only [decide_eq_true_eq]
    constructor
    · rintro (⟨j, h1, h2⟩ | h)
      · exact ⟨j, by omega, h2⟩
      · exact ⟨i, by omega, h⟩
    · rintro ⟨j, h1, h2⟩
      by_cases hj : j = i
      · subst hj; exact Or.inr h2
      · exact Or.inl ⟨j, by omega, h2⟩
theorem metB_lt (L : List Nat) (r s : Nat) (hL : ∀ x ∈ L, x < 16) : ∀ i, metB L r s i < 65536
  | 0 => by simp [metB]
  | i + 1 => by
    rw [metB]
    have hx : L.getD ((r + i) % s) 0 < 16 := by
      rw [List.getD_eq_getElem?_getD]
      cases h : L[(r + i) % s]? with
      | none => simp
      | some x => exact hL x (List.mem_of_getElem? h)
    exact Nat.or_lt_two_pow (n := 16) (metB_lt L r s hL i) (Nat.pow_lt_pow_right (by decide) hx)
theorem bit_div (m b : Nat) : m.testBit b = decide (m / 2 ^ b % 2 = 1) := Nat.testBit_eq_decide_div_mod_eq
theorem metB_all (m r : Nat) (hm : m < 65536) (hs : 0 < pop m) : metB (memF 16 0 m) r (pop m) (pop m) = m := by
  have hl : (memF 16 0 m).length = pop m := memF_len 16 0 m
  apply Nat.eq_of_testBit_eq
  intro b
  rw [Bool.eq_iff_iff, metB_bit, bit_div, decide_eq_true_eq]
  constructor
  · rintro ⟨j, h1, h2⟩
    have hj := Nat.mod_lt (r + j) hs
    have hx : (memF 16 0 m)[(r + j) % pop m]? = some b := by
      rw [List.getElem?_eq_getElem (by omega)]
      rw [List.getD_eq_getElem?_getD, List.getElem?_eq_getElem (by omega)] at h2
      exact congrArg some h2
    have := (mem_memF 16 0 m b).1 (List.mem_of_getElem? hx)
    rw [Nat.sub_zero] at this
    exact this.2.2
  · intro h
    have hb : b < 16 := by
      apply Classical.byContradiction
      intro hb
      have : m / 2 ^ b = 0 := Nat.div_eq_of_lt (Nat.lt_of_lt_of_le hm (by
        have : 2 ^ 16 ≤ 2 ^ b := Nat.pow_le_pow_right (by decide) (by omega)
        simpa using this))
      rw [this] at h
      simp at h
    have hmem : b ∈ memF 16 0 m := by rw [mem_memF, Nat.sub_zero]; exact ⟨by omega, by omega, h⟩
    obtain ⟨t, ht⟩ := List.getElem?_of_mem hmem
    have htl := (List.getElem?_eq_some_iff.1 ht).1
    obtain ⟨j, h1, h2⟩ := mod_onto (r := r) (s := pop m) (t := t) (by omega)
    exact ⟨j, h1, by rw [h2, List.getD_eq_getElem?_getD, ht]; rfl⟩
set_option maxHeartbeats 2000000 in
theorem ldl (n : Int) (m r : Nat) (hm : m < 65536) (hr : r < 65536) (hright : rightV n m = true) : ∀ (k i : Nat), i + k = pop m → ∀ (Q : Exit → S → Prop),
   (∀ a c d e, Q (.exit 0) (mk [(1, a), (2, .ptr 2 0), (6, .pv (.int .u16 (m : Nat))), (22, c), (23, d), (24, e)] [(2, .pagg (vwP (n, m)))])) →
   LoopW Tryd.prog [1, 2, 6, 22, 23] [2] irLaw06ViewsLeads_L1 (mk [(1, .pv (.int .u16 (r : Nat))), (2, .ptr 2 0), (6, .pv (.int .u16 (metB (memF 16 0 m) r (pop m) i : Nat))), (22, .pv (.int .i64 (pop m : Nat))), (23, .pv (.int .i64 (i : Nat)))] [(2, .pagg (vwP (n, m)))]) Q := by
  have hsz := sizeF_cases n m
  have hs : sizeF n m = pop m ∧ 0 < pop m := by
    rcases hsz with ⟨_, h⟩ | ⟨_, h1, h2⟩
    · rw [hright] at h; cases h
    · omega
  have hl : (memF 16 0 m).length = pop m := memF_len 16 0 m
  have hp16 := pop_le m
  intro k
  induction k with
  | zero =>
    intro i hi Q hQ
    obtain rfl : i = pop m := by omega
    rw [metB_all m r hm hs.2]
    refine LoopW.go irLaw06ViewsLeads_L1.eq_1 (by simp) ?_
    simp
    exact hQ _ _ _ _
  | succ k ih =>
    intro i hi Q hQ
    have hn := ih (i + 1) (by omega) Q hQ
    have hj := Nat.mod_lt (r + i) hs.2
    obtain ⟨l, hlx⟩ : ∃ l, (memF 16 0 m)[(r + i) % pop m]? = some l := ⟨_, List.getElem?_eq_getElem (by omega)⟩
    have hld : (memF 16 0 m).getD ((r + i) % pop m) 0 = l := by rw [List.getD_eq_getElem?_getD, hlx]; rfl
    have hmem := List.mem_of_getElem? hlx
    rw [mem_memF, Nat.sub_zero] at hmem
    obtain ⟨_, hl16, hbit⟩ := hmem
    have c1 := leader_c n m ((r + i : Nat) : Int) hm
    have e1 : leadF n m ((r + i : Nat) : Int) = (l : Int) := by
      unfold leadF
      rw [if_neg (by omega), hs.1, Int.toNat_natCast, hld]
    rw [e1] at c1
    have c2 := has_c n m (l : Int) hm
    have e2 : hasF m (l : Int) = true := by
      unfold hasF
      rw [Int.toNat_natCast]
      simp
      exact ⟨by omega, hbit⟩
    rw [e2] at c2
    have hfree : metB (memF 16 0 m) r (pop m) i / 2 ^ l % 2 = 0 := by
      have : (metB (memF 16 0 m) r (pop m) i).testBit l = false := by
        rw [Bool.eq_false_iff]
        intro h
        obtain ⟨j, h1, h2⟩ := (metB_bit _ _ _ _ _).1 h
        have hj2 := Nat.mod_lt (r + j) hs.2
        have hx2 : (memF 16 0 m)[(r + j) % pop m]? = some l := by
          rw [List.getElem?_eq_getElem (by omega)]
          rw [List.getD_eq_getElem?_getD, List.getElem?_eq_getElem (by omega)] at h2
          exact congrArg some h2
        have := sorted_inj (memF_sorted 16 0 m) hx2 hlx
        exact mod_step (x := r + j) (d := i - j) hs.2 (by omega) (by omega) (by rw [show r + j + (i - j) = r + i by omega]; exact this.symm)
      rw [bit_div, decide_eq_false_iff_not] at this
      omega
    have hmt := metB_lt (memF 16 0 m) r (pop m) (fun x hx => by have := ((mem_memF 16 0 m x).1 hx).2.1; omega) i
    have hmt2 := metB_lt (memF 16 0 m) r (pop m) (fun x hx => by have := ((mem_memF 16 0 m x).1 hx).2.1; omega) (i + 1)
    rw [metB, hld] at hn hmt2
    generalize metB (memF 16 0 m) r (pop m) i = M at *
    have hmin : min l IntKind.u16.bits = l := by simp [IntKind.bits]; omega
    obtain ⟨q, hq⟩ : ∃ q, q = M / 2 ^ l := ⟨_, rfl⟩
    have hq16 : q < 65536 := by rw [hq]; exact Nat.lt_of_le_of_lt (Nat.div_le_self _ _) hmt
    rw [← hq] at hfree
    have e3 : (M : Int).fdiv (2 ^ l) = (q : Int) := by rw [hq]; exact shr_nat M l
    have e4 : bits BinOp.and IntKind.u16 (q : Int) 1 = 0 := by
      have := (bits_op .u16 q 1 hq16 (by decide)).1
      rw [show ((1 : Nat) : Int) = 1 from rfl] at this
      rw [this, show q &&& 1 = q % 2 from Nat.and_two_pow_sub_one_eq_mod q 1, hfree]
      rfl
    obtain ⟨p, hp⟩ : ∃ p, p = 2 ^ l := ⟨_, rfl⟩
    have hpl : p < 65536 := by rw [hp]; exact Nat.pow_lt_pow_right (n := 16) (by decide) hl16
    have e5 : IntKind.u16.wrap (2 ^ l) = (p : Int) := by
      have : (2 : Int) ^ l = ((2 ^ l : Nat) : Int) := by norm_cast
      rw [this, ← hp]
      simp [IntKind.wrap, IntKind.bits, IntKind.signed]
      omega
    rw [← hp] at hn hmt2
    have e6 : bits BinOp.or IntKind.u16 (M : Int) (p : Int) = ((M ||| p : Nat) : Int) := by
      rw [(bits_op .u16 M p hmt hpl).2.1]
      simp [IntKind.wrap, IntKind.bits, IntKind.signed]
      omega
    generalize M ||| p = M2 at *
    have i1 : (i : Int) < (pop m : Int) := by omega
    have i2 : i < pop m := by omega
    have w1 : IntKind.i64.wrap ((i : Int) + 1) = (i + 1 : Nat) := by rw [wrap_i64] <;> omega
    have w2 : IntKind.i64.wrap (r : Int) = r := by rw [wrap_i64] <;> omega
    have w3 : IntKind.i64.wrap ((r : Int) + (i : Int)) = ((r + i : Nat) : Int) := by rw [wrap_i64] <;> omega
    obtain ⟨x, hx⟩ : ∃ x, x = r + i := ⟨_, rfl⟩
    rw [← hx] at c1 w3
    have l0 : ¬ (l : Int) < 0 := by omega
    simp only [vwP] at c1 c2 hn ⊢
    refine LoopW.go irLaw06ViewsLeads_L1.eq_1 (by simp) ?_
    simp [i1, i2, w2, w3]
    refine CallG.go c1 ?_
    simp [l0]
    refine CallG.go c2 ?_
    simp [hmin, e3, e4, e5, e6, w1]
    exact hn
theorem lawLeads_c (n : Int) (m r : Nat) (hm : m < 65536) (hr : r < 65536) : ACall Tryd.prog 3 [.pagg (vwP (n, m)), .pv (.int .u16 (r : Nat))] [] (.pv (.bool true)) [] [] := by
  refine ACall.fn (fn := Tryd.f3) rfl okLaw06ViewsLeads rfl (by simp) ?_
  simp only [argT, irLaw06ViewsLeads.eq_1]
  have c1 := rightV_c n m hm
  have w2 : IntKind.i64.wrap (r : Int) = r := by rw [wrap_i64] <;> omega
  cases h : rightV n m
  · rw [h] at c1
    have c2 := leader_c n m (r : Int) hm
    have e : leadF n m (r : Int) = -1 := by simp [leadF, sizeF, h]
    rw [e] at c2
    simp only [vwP] at c1 c2 ⊢
    simp
    refine CallG.go wakes_c ?_
    simp
    refine CallG.go c1 ?_
    simp [w2]
    refine CallG.go c2 ?_
    simp
  · rw [h] at c1
    have c2 := vmembers_c n m hm
    have hl : (memF 16 0 m).length = pop m := memF_len 16 0 m
    have hlp := ldl n m r hm hr h (pop m) 0 (by omega)
    rw [metB] at hlp
    simp only [vwP] at c1 c2 hlp ⊢
    simp
    refine CallG.go wakes_c ?_
    simp
    refine CallG.go c1 ?_
    simp
    refine CallG.go c2 ?_
    simp [krows_length, hl]
    refine hlp _ fun a c d e => ?_
    simp
theorem walkViewsLeads (c0 : Array Value) (a1 : Int) (w : World) (hg : ∀ (j n : Nat), (Go.Abs.gtOf Tryd.prog)[j]? = some n → w.cell? ⟨0, j, none⟩ = some (.int .u8 (n : Int))) (k0 : Shp.Reads w shV c0.toList) (w1 : (Lit.int .u16 a1).wf = true) :
     Calls Tryd.prog 3 #[.agg c0, .int .u16 a1] w fun e w' => e = .returned (.bool true) ∧ Below w.heap.size w w' := by
  obtain ⟨n, m, q0, hm⟩ := arg_view k0
  obtain ⟨r, rfl, hr⟩ := wf_n rfl w1
  refine lawCallsG (lawLeads_c n m r hm hr) rfl hg fun i v av hv ha => ?_
  match i with
  | 0 => cases hv; cases ha; exact q0
  | 1 => cases hv; cases ha; exact arg_int _ _
  | n + 2 => simp at hv
end Go.Proofs.YtaekbkjckahccaaDoor
