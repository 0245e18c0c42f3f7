/- Files of whatever bytes: packed numbers, texts, what Load and the document make of them: contracts. No condition. -/
import Derived.Test.YtlbfpnckoblppaaSnapRd
import Derived.Test.YtlbfpnckoblppaaIrRefR
import Derived.Test.YtlbfpnckoblppaaSnapF
import Derived.Test.YtlbfpnckoblppaaIrLoad
set_option linter.unusedVariables false
set_option linter.unusedSimpArgs false
section
/- Packed numbers out of whatever bytes: the reader and the document's: contracts. No condition. -/
namespace Go.Proofs.Ytlbfpnckoblppaa
open Go.Abs Go.RowKit Go.Ours

/-- How bytes go on that are no packed number: they end (1), or have a byte that may not stand there (2). -/
def Tail (m : Nat) (s : List Nat) (e : Nat) : Prop := (s = [] ∧ e = 1) ∨ ∃ c s', s = c :: s' ∧ c < 256 ∧ e = 2 ∧ ((m = 9 ∧ 1 < c) ∨ (0 < m ∧ c = 0))
/-- Bytes that are no packed number. -/
def NoPk (l : List Nat) (e : Nat) : Prop := ∃ pre s, l = pre ++ s ∧ bigs pre ∧ pre.length ≤ 9 ∧ Tail pre.length s e
theorem classify : ∀ (n : Nat) (pre s : List Nat), pre.length + n = 9 → bigs pre → (∀ x ∈ s, x < 256) → (∃ y r, y < 18446744073709551616 ∧ pre ++ s = packed y ++ r) ∨ ∃ e, NoPk (pre ++ s) e := by
  intro n
  induction n with
  | zero =>
    intro pre s hn hp hs
    match s, hs with
    | [], _ => exact Or.inr ⟨1, pre, [], rfl, hp, by omega, Or.inl ⟨rfl, rfl⟩⟩
    | c :: s, hs =>
      have hc := hs c List.mem_cons_self
      by_cases h1 : c = 1
      · subst h1
        refine Or.inl ⟨val (pre ++ [1]), s, val_64 hc (by omega) (fun _ => Nat.le_refl _), ?_⟩
        rw [is_packed hp (by decide) (Or.inr (Nat.le_refl _)), List.append_assoc]
        rfl
      · refine Or.inr ⟨2, pre, c :: s, rfl, hp, by omega, Or.inr ⟨c, s, rfl, hc, rfl, ?_⟩⟩
        omega
  | succ n ih =>
    intro pre s hn hp hs
    match s, hs with
    | [], _ => exact Or.inr ⟨1, pre, [], rfl, hp, by omega, Or.inl ⟨rfl, rfl⟩⟩
    | c :: s, hs =>
      have hc := hs c List.mem_cons_self
      by_cases h1 : 128 ≤ c
      · have := ih (pre ++ [c]) s (by simp; omega) (bigs_snoc hp ⟨h1, hc⟩) fun x hx => hs x (List.mem_cons_of_mem _ hx)
        simpa using this
      · by_cases h2 : c = 0 ∧ 0 < pre.length
        · exact Or.inr ⟨2, pre, c :: s, rfl, hp, by omega, Or.inr ⟨c, s, rfl, hc, rfl, Or.inr ⟨h2.2, h2.1⟩⟩⟩
        · refine Or.inl ⟨val (pre ++ [c]), s, val_64 hc (by omega) (fun h => by omega), ?_⟩
          have h0 : pre = [] ∨ 1 ≤ c := by
            by_cases hc0 : c = 0
            · left
              exact List.eq_nil_of_length_eq_zero (by omega)
            · right; omega
          rw [is_packed hp (by omega) h0, List.append_assoc]
          rfl
theorem rkE (b : List Nat) (k m e : Nat) (s : List Nat) (hl : b.length ≤ 10000000000) (hm : m ≤ 9) (ht : Tail m s e) : ∀ (l : List Nat) (i : Nat) (x : Int), b.drop (k + i) = l ++ s → bigs l → i + l.length = m → k + i ≤ b.length → ∀ (Q : Exit → S → Prop),
   (∀ c, Q .ret (mk [(0, c), (2, .pv (.int .u64 0)), (3, .pv (.int .i64 (e : Nat)))] [(1000, .pagg (rdP b k))])) →
   LoopW Try.prog [0, 4, 9] [1000] irNumsReaderPacked_L1 (mk [(0, .ptr 1000 0), (4, .pv (.int .u64 x)), (9, .pv (.int .i64 (i : Nat)))] [(1000, .pagg (rdP b k))]) Q := by
  intro l
  induction l with
  | nil =>
    intro i x hd hb hi hki Q hQ
    rw [List.nil_append] at hd
    obtain ⟨k1, hk1⟩ : ∃ k1, k1 = k + i := ⟨_, rfl⟩
    have hi' : i = m := by simpa using hi
    subst hi'
    have i10 : (i : Int) < 10 := by omega
    have i10' : i < 10 := by omega
    have w1 : IntKind.i64.wrap ((k : Int) + (i : Int)) = (k1 : Int) := by rw [wrap_i64] <;> omega
    rcases ht with ⟨rfl, rfl⟩ | ⟨c, s', rfl, hc, rfl, ht⟩
    · rw [List.drop_eq_nil_iff] at hd
      have i1 : (b.length : Int) ≤ (k1 : Int) := by omega
      have i1' : b.length ≤ k1 := by omega
      have e1 : ((1 : Nat) : Int) = 1 := rfl
      rw [e1] at hQ
      simp only [rdP] at hQ ⊢
      refine LoopW.go irNumsReaderPacked_L1.eq_1 (by simp) ?_
      simp [-getElem?_pos, krows_length, krows_get, i10, i10', w1, i1, i1']
      exact hQ _
    · have hlt : k + i < b.length := by
        have := congrArg List.length hd
        simp at this
        omega
      have hx : b[k + i]? = some c := by
        have := congrArg (·[0]?) hd
        simpa using this
      rw [← hk1] at hlt hx
      have i1 : ¬ (b.length : Int) ≤ (k1 : Int) := by omega
      have i1' : ¬ b.length ≤ k1 := by omega
      have i3 : (k1 : Int) < (b.length : Int) := by omega
      obtain ⟨j, hj⟩ : ∃ j, j = 7 * i := ⟨_, rfl⟩
      have w7 : IntKind.i64.wrap (7 * (i : Int)) = (j : Int) := by rw [wrap_i64] <;> omega
      have j0 : (0 : Int) ≤ (j : Int) := by omega
      have e2 : ((2 : Nat) : Int) = 2 := rfl
      rw [e2] at hQ
      by_cases h9 : i = 9
      · subst h9
        have w9 : IntKind.i64.wrap ((k : Int) + 9) = (k1 : Int) := by rw [wrap_i64] <;> omega
        have w63 : IntKind.i64.wrap 63 = 63 := by decide
        have e9 : ((9 : Nat) : Int) = 9 := rfl
        rw [e9]
        clear w1 w7 j0 i10 i10'
        simp only [rdP] at hQ ⊢
        by_cases hc1 : 1 < c
        · have hc1' : (1 : Int) < (c : Int) := by omega
          refine LoopW.go irNumsReaderPacked_L1.eq_1 (by simp) ?_
          simp [-getElem?_pos, krows_length, krows_get, w9, i1, i1', i3, hlt, hx, hc1, hc1']
          exact hQ _
        · have hc0 : c = 0 := by omega
          subst hc0
          refine LoopW.go irNumsReaderPacked_L1.eq_1 (by simp) ?_
          simp [-getElem?_pos, krows_length, krows_get, w9, i1, i1', i3, hlt, hx, w63]
          exact hQ _
      · have h9' : ¬ (i : Int) = 9 := by omega
        have hc0 : c = 0 ∧ 0 < i := by omega
        obtain ⟨rfl, h0⟩ := hc0
        have h0' : (0 : Int) < (i : Int) := by omega
        simp only [rdP] at hQ ⊢
        refine LoopW.go irNumsReaderPacked_L1.eq_1 (by simp) ?_
        simp [-getElem?_pos, krows_length, krows_get, i10, i10', w1, i1, i1', i3, hlt, hx, h9, h9', w7, j0, h0, h0']
        exact hQ _
  | cons c l ih =>
    intro i x hd hb hi hki Q hQ
    have hcb := hb c List.mem_cons_self
    have hlt : k + i < b.length := by
      have := congrArg List.length hd
      simp at this
      omega
    have hc : b[k + i]? = some c := by
      have := congrArg (·[0]?) hd
      simpa using this
    have hd' : b.drop (k + (i + 1)) = l ++ s := by
      have := congrArg (List.drop 1) hd
      rw [List.drop_drop] at this
      simpa [Nat.add_assoc] using this
    rw [List.length_cons] at hi
    obtain ⟨j, hj⟩ : ∃ j, j = 7 * i := ⟨_, rfl⟩
    obtain ⟨k1, hk1⟩ : ∃ k1, k1 = k + i := ⟨_, rfl⟩
    have hi9 : ¬ (i : Int) = 9 := by omega
    have hi9' : ¬ i = 9 := by omega
    have i10 : (i : Int) < 10 := by omega
    have i10' : i < 10 := by omega
    have w7 : IntKind.i64.wrap (7 * (i : Int)) = (j : Int) := by rw [wrap_i64] <;> omega
    have hn := fun x' => ih (i + 1) x' hd' (bigs_tail hb) (by omega) (by omega) Q hQ
    clear hQ ih
    rw [← hk1] at hc hlt
    have i1 : ¬ (b.length : Int) ≤ (k1 : Int) := by omega
    have i1' : ¬ b.length ≤ k1 := by omega
    have i3 : (k1 : Int) < (b.length : Int) := by omega
    have w1 : IntKind.i64.wrap ((k : Int) + (i : Int)) = (k1 : Int) := by rw [wrap_i64] <;> omega
    have w2 : IntKind.i64.wrap ((i : Int) + 1) = (i + 1 : Nat) := by rw [wrap_i64] <;> omega
    have h' : ¬ (c : Int) < 128 := by omega
    have h'' : ¬ c < 128 := by omega
    have j0 : (0 : Int) ≤ (j : Int) := by omega
    simp only [rdP] at hn ⊢
    refine LoopW.go irNumsReaderPacked_L1.eq_1 (by simp) ?_
    simp [-getElem?_pos, krows_length, krows_get, i10, i10', hi9, hi9', w7, w1, w2, i1, i1', i3, hlt, hc, h', h'', j0]
    exact hn _
end Go.Proofs.Ytlbfpnckoblppaa
end

section
/- The reader's text out of whatever bytes: contracts. No condition. -/
namespace Go.Proofs.Ytlbfpnckoblppaa
open Go.Abs Go.RowKit Go.Ours

theorem NoPk.e12 {l : List Nat} {e : Nat} (h : NoPk l e) : e = 1 ∨ e = 2 := by
  obtain ⟨pre, s, _, _, _, ht⟩ := h
  rcases ht with ⟨_, h⟩ | ⟨_, _, _, _, h, _⟩
  · exact Or.inl h
  · exact Or.inr h
theorem packedE_c (b : List Nat) (e : Nat) (hl : b.length ≤ 10000000000) (h : NoPk b e) : ACall Try.prog 56 [.ptr 1000 0] [.pagg (rdP b 0)] (.tup [.pv (.int .u64 0), .pv (.int .i64 (e : Nat))]) [.pagg (rdP b 0)] [] := by
  refine ACall.fn (fn := Try.f56) rfl okNumsReaderPacked rfl (by simp) ?_
  simp only [argT, irNumsReaderPacked.eq_1]
  obtain ⟨pre, s, hb, hp, h9, ht⟩ := h
  have hlp := rkE b 0 pre.length e s hl h9 ht pre 0 0 hb hp (by omega) (by omega)
  generalize rdP b 0 = q at *
  simp
  refine hlp _ fun c => ?_
  simp
theorem countE_c (b : List Nat) (e n : Nat) (hl : b.length ≤ 10000000000) (h : NoPk b e) : ACall Try.prog 45 [.ptr 1000 0, .pv (.int .i64 (n : Nat))] [.pagg (rdP b 0)] (.tup [.pv (.int .i64 0), .pv (.int .i64 (e : Nat))]) [.pagg (rdP b 0)] [] := by
  refine ACall.fn (fn := Try.f45) rfl okNumsReaderCount rfl (by simp) ?_
  simp only [argT, irNumsReaderCount.eq_1]
  have c := packedE_c b e hl h
  have h1 : ¬ (e : Int) = 0 := by rcases h.e12 with h | h <;> omega
  have h2 : ¬ e = 0 := by omega
  simp only [rdP] at c ⊢
  simp
  refine CallG.go c ?_
  simp [h1, h2]
theorem textE_c (b : List Nat) (e n : Nat) (hl : b.length ≤ 10000000000) (h : NoPk b e) : ACall Try.prog 29 [.ptr 1000 0, .pv (.int .i64 (n : Nat))] [.pagg (rdP b 0)] (.tup [.os 5 1 [], .pv (.int .i64 (e : Nat))]) [.pagg (rdP b 0)] [] := by
  refine ACall.fn (fn := Try.f29) rfl okNumsReaderText rfl (by simp) ?_
  simp only [argT, irNumsReaderText.eq_1]
  have c := countE_c b e n hl h
  have h1 : ¬ (e : Int) = 0 := by rcases h.e12 with h | h <;> omega
  have h2 : ¬ e = 0 := by omega
  simp only [rdP] at c ⊢
  simp
  refine CallG.go c ?_
  simp [h1, h2]
/-- More than may be counted. -/
theorem countM_c (b r : List Nat) (y n : Nat) (hl : b.length ≤ 10000000000) (hn : n ≤ 10000000000) (hy : y < 18446744073709551616) (hy2 : n < y) (hd : b = packed y ++ r) : ACall Try.prog 45 [.ptr 1000 0, .pv (.int .i64 (n : Nat))] [.pagg (rdP b 0)] (.tup [.pv (.int .i64 0), .pv (.int .i64 3)]) [.pagg (rdP b 0)] [] := by
  refine ACall.fn (fn := Try.f45) rfl okNumsReaderCount rfl (by simp) ?_
  simp only [argT, irNumsReaderCount.eq_1]
  have c := packedAt_c b r 0 y hl hy hd
  have i1 : ¬ (n : Int) < 0 := by omega
  have i2 : (n : Int) < (y : Int) := by omega
  have w1 : IntKind.u64.wrap (n : Int) = (n : Int) := by simp [IntKind.wrap, IntKind.bits, IntKind.signed]; omega
  generalize 0 + (packed y).length = k2 at *
  simp only [rdP] at c ⊢
  simp
  refine CallG.go c ?_
  simp [i1, i2, hy2, w1]
theorem textM_c (b r : List Nat) (y n : Nat) (hl : b.length ≤ 10000000000) (hn : n ≤ 10000000000) (hy : y < 18446744073709551616) (hy2 : n < y) (hd : b = packed y ++ r) : ACall Try.prog 29 [.ptr 1000 0, .pv (.int .i64 (n : Nat))] [.pagg (rdP b 0)] (.tup [.os 5 1 [], .pv (.int .i64 3)]) [.pagg (rdP b 0)] [] := by
  refine ACall.fn (fn := Try.f29) rfl okNumsReaderText rfl (by simp) ?_
  simp only [argT, irNumsReaderText.eq_1]
  have c := countM_c b r y n hl hn hy hy2 hd
  simp only [rdP] at c ⊢
  simp
  refine CallG.go c ?_
  simp
/-- Less than was counted. -/
theorem textL_c (b r : List Nat) (y n : Nat) (hl : b.length ≤ 10000000000) (hn : n ≤ 10000000000) (hy : y ≤ n) (hd : b = packed y ++ r) (hr : r.length < y) : ACall Try.prog 29 [.ptr 1000 0, .pv (.int .i64 (n : Nat))] [.pagg (rdP b 0)] (.tup [.os 5 1 [], .pv (.int .i64 1)]) [.pagg (rdP b 0)] [] := by
  refine ACall.fn (fn := Try.f29) rfl okNumsReaderText rfl (by simp) ?_
  simp only [argT, irNumsReaderText.eq_1]
  have hlen := congrArg List.length hd
  rw [List.length_append] at hlen
  have c1 := countAt_c b r 0 y n hl hn hy hd
  have c2 := left_c b (0 + (packed y).length) hl (by omega)
  obtain ⟨k2, hk2⟩ : ∃ k2, k2 = 0 + (packed y).length := ⟨_, rfl⟩
  rw [← hk2] at c1 c2
  have i1 : ((b.length - k2 : Nat) : Int) < (y : Int) := by omega
  have i1' : (b.length - k2 : Nat) < y := by omega
  generalize b.length - k2 = z at *
  simp only [rdP] at c1 c2 ⊢
  simp
  refine CallG.go c1 ?_
  simp
  refine CallG.go c2 ?_
  simp [i1, i1']
end Go.Proofs.Ytlbfpnckoblppaa
end

section
/- The document's texts out of whatever bytes: contracts. No condition. -/
namespace Go.Proofs.Ytlbfpnckoblppaa
open Go.Abs Go.RowKit Go.Ours

/-- What the document got. -/
def gotP (y : Nat) (l : List Nat) (n e : Nat) : List PV := [.int .u64 (y : Nat), .sl 1 (krows .u8 l), .int .i64 (n : Nat), .int .i64 (e : Nat)]
theorem mul_u (a b m : Nat) (h : m = a * b) (hm : m < 18446744073709551616) : IntKind.u64.wrap ((a : Int) * (b : Int)) = (m : Int) := by
  rw [← Int.natCast_mul, ← h]
  simp [IntKind.wrap, IntKind.bits, IntKind.signed]; omega
theorem add_u (a b m : Nat) (h : m = a + b) (hm : m < 18446744073709551616) : IntKind.u64.wrap ((a : Int) + (b : Int)) = (m : Int) := by
  rw [← Int.natCast_add, ← h]
  simp [IntKind.wrap, IntKind.bits, IntKind.signed]; omega
theorem of_u (a : Nat) (hm : a < 18446744073709551616) : IntKind.u64.wrap (a : Int) = (a : Int) := by
  simp [IntKind.wrap, IntKind.bits, IntKind.signed]; omega
theorem rpG (b r : List Nat) (k y : Nat) (hl : b.length ≤ 10000000000) (hk : k ≤ b.length) (hy : y < 18446744073709551616) : ∀ (n i x z : Nat), i + n = 9 → b.drop (k + i) = packed z ++ r → y = x + 128 ^ i * z → x < 128 ^ i → (0 < i → 1 ≤ z) → ∀ (Q : Exit → S → Prop),
   (∀ a b c d e f, Q .ret (mk [(4, .ptr 4 0), (5, a), (7, b), (49, c), (50, d), (51, e), (52, f)] [(4, .pagg (gotP y [] (i + (packed z).length) 0))])) →
   LoopW Try.prog [0, 1, 4, 5, 6, 7] [4] irRef01ReadPacked_L1 (mk [(0, .pv (.sl 1 (krows .u8 b))), (1, .pv (.int .i64 (k : Nat))), (4, .ptr 4 0), (5, .pv (.int .u64 (x : Nat))), (6, .pv (.int .u64 (128 ^ i : Nat))), (7, .pv (.int .i64 (i : Nat)))] [(4, .agg [.pv (.int .u64 0), .os 5 1 [], .pv (.int .i64 0), .pv (.int .i64 0)])]) Q := by
  intro n
  induction n with
  | zero =>
    intro i x z hi hd he hx hz Q hQ
    obtain rfl : i = 9 := by omega
    have hp9 : (128 : Nat) ^ 9 = 9223372036854775808 := rfl
    rw [hp9] at he
    have hz1 : z ≤ 1 := by omega
    have hz2 := hz (by omega)
    obtain rfl : z = 1 := by omega
    rw [packed_small (by decide)] at hd hQ
    have hc : b[k + 9]? = some 1 := by
      have := congrArg (·[0]?) hd
      simpa using this
    have hlt := (List.getElem?_eq_some_iff.1 hc).1
    obtain ⟨k9, hk9⟩ : ∃ k9, k9 = k + 9 := ⟨_, rfl⟩
    rw [← hk9] at hc hlt
    have i1 : ¬ (b.length : Int) ≤ (k9 : Int) := by omega
    have i2 : ¬ b.length ≤ k9 := by omega
    have i3 : (k9 : Int) < (b.length : Int) := by omega
    have w9 : IntKind.i64.wrap ((k : Int) + 9) = (k9 : Int) := by rw [wrap_i64] <;> omega
    have wq : IntKind.i64.wrap (9 + 1) = 10 := by decide
    obtain ⟨m, hm⟩ : ∃ m : Nat, m = 128 ^ 9 := ⟨_, rfl⟩
    rw [← hm]
    have wm := of_u m (by omega)
    have wa := add_u x m y (by omega) hy
    have e10 : 9 + ([1] : List Nat).length = 10 := rfl
    rw [e10] at hQ
    have e9 : ((9 : Nat) : Int) = 9 := rfl
    rw [e9]
    have r1 : ((1 : Int).tmod 128) = 1 := rfl
    have u1 : IntKind.u64.wrap 1 = 1 := by decide
    have u8 : IntKind.u8.wrap 1 = 1 := by decide
    simp only [gotP] at hQ
    refine LoopW.go irRef01ReadPacked_L1.eq_1 (by simp) ?_
    simp [-getElem?_pos, krows_length, krows_get, w9, i1, i2, i3, hlt, hc, wq, wm, wa, r1, u1, u8]
    exact hQ _ _ _ _ _ _
  | succ n ih =>
    intro i x z hi hd he hx hz Q hQ
    obtain ⟨k1, hk1⟩ : ∃ k1, k1 = k + i := ⟨_, rfl⟩
    have hi9 : ¬ (i : Int) = 9 := by omega
    have hi9' : ¬ i = 9 := by omega
    have i10 : (i : Int) < 10 := by omega
    have i10' : i < 10 := by omega
    obtain ⟨p, hp⟩ : ∃ p, p = 128 ^ i := ⟨_, rfl⟩
    have hp1 : p ≤ 9223372036854775808 / 128 := by
      rw [hp, show (9223372036854775808 / 128 : Nat) = 128 ^ 8 from rfl]
      exact Nat.pow_le_pow_right (by omega) (by omega)
    by_cases h : z < 128
    · rw [packed_small h] at hd hQ
      have hc : b[k + i]? = some z := by
        have := congrArg (·[0]?) hd
        simpa using this
      have hlt := (List.getElem?_eq_some_iff.1 hc).1
      obtain ⟨m, hm⟩ : ∃ m, m = z * p := ⟨_, rfl⟩
      have hmy : y = x + m := by rw [he, hm, Nat.mul_comm, hp]
      have wm := mul_u z p m hm (by omega)
      have wa := add_u x m y hmy hy
      have wz := of_u z (by omega)
      rw [List.length_singleton] at hQ
      rw [← hk1] at hc hlt
      rw [← hp]
      have i1 : ¬ (b.length : Int) ≤ (k1 : Int) := by omega
      have i1' : ¬ b.length ≤ k1 := by omega
      have i3 : (k1 : Int) < (b.length : Int) := by omega
      have w1 : IntKind.i64.wrap ((k : Int) + (i : Int)) = (k1 : Int) := by rw [wrap_i64] <;> omega
      obtain ⟨i2, hi2⟩ : ∃ i2, i2 = i + 1 := ⟨_, rfl⟩
      rw [← hi2] at hQ
      have w2 : IntKind.i64.wrap ((i : Int) + 1) = (i2 : Int) := by rw [wrap_i64] <;> omega
      have h' : (z : Int) < 128 := by omega
      have r1 : ((z : Int).tmod 128) = (z : Int) := Int.tmod_eq_of_lt (by omega) h'
      have u8 : IntKind.u8.wrap (z : Int) = (z : Int) := by simp [IntKind.wrap, IntKind.bits, IntKind.signed]; omega
      simp only [gotP] at hQ
      by_cases z0 : z = 0
      · have i0 : ¬ 0 < i := fun hh => by have := hz hh; omega
        obtain rfl : i = 0 := by omega
        subst z0
        obtain rfl : m = 0 := by omega
        have e0 : ((0 : Nat) : Int) = 0 := rfl
        simp only [e0, Int.add_zero] at *
        obtain rfl : k1 = k := by omega
        have v0 : IntKind.u64.wrap 0 = 0 := by decide
        have v1 : IntKind.u8.wrap 0 = 0 := by decide
        obtain rfl : i2 = 1 := by omega
        refine LoopW.go irRef01ReadPacked_L1.eq_1 (by simp) ?_
        simp [-getElem?_pos, krows_length, krows_get, w1, w2, i1, i1', i3, hlt, hc, wa, v0, v1]
        exact hQ _ _ _ _ _ _
      · have z0' : ¬ (z : Int) = 0 := by omega
        refine LoopW.go irRef01ReadPacked_L1.eq_1 (by simp) ?_
        simp [-getElem?_pos, krows_length, krows_get, i10, i10', hi9, hi9', w1, w2, i1, i1', i3, hlt, hc, wm, wa, wz, r1, u8, h, h', z0, z0']
        exact hQ _ _ _ _ _ _
    · have hb := packed_big (x := z) (by omega)
      rw [hb] at hd hQ
      have hc : b[k + i]? = some (z % 128 + 128) := by
        have := congrArg (·[0]?) hd
        simpa using this
      have hlt := (List.getElem?_eq_some_iff.1 hc).1
      have hd' : b.drop (k + (i + 1)) = packed (z / 128) ++ r := by
        have := congrArg (List.drop 1) hd
        rw [List.drop_drop] at this
        simpa [Nat.add_assoc] using this
      obtain ⟨u, hu⟩ : ∃ u, u = z % 128 := ⟨_, rfl⟩
      obtain ⟨c, hcc⟩ : ∃ c, c = z % 128 + 128 := ⟨_, rfl⟩
      obtain ⟨m, hm⟩ : ∃ m, m = u * p := ⟨_, rfl⟩
      have hmx : m + x < 128 ^ (i + 1) := by
        rw [hm, hp, Nat.pow_succ, Nat.mul_comm (128 ^ i) 128]
        have : u * 128 ^ i ≤ 127 * 128 ^ i := Nat.mul_le_mul_right _ (by omega)
        omega
      have he' : y = (x + m) + 128 ^ (i + 1) * (z / 128) := by
        rw [he, hm, hp, Nat.pow_succ, Nat.mul_assoc, Nat.add_assoc, Nat.mul_comm u, ← Nat.mul_add]
        congr 2
        omega
      have hmy : x + m ≤ y := by omega
      obtain ⟨x', hx'⟩ : ∃ x', x' = x + m := ⟨_, rfl⟩
      obtain ⟨p', hp'⟩ : ∃ p', p' = 128 * p := ⟨_, rfl⟩
      have wm := mul_u u p m hm (by omega)
      have wa := add_u x m x' hx' (by omega)
      have wz := of_u u (by omega)
      have wp : IntKind.u64.wrap (128 * (p : Int)) = (p' : Int) := mul_u 128 p p' hp' (by omega)
      rw [← hx'] at he'
      have ep : 128 ^ (i + 1) = p' := by rw [hp', hp, Nat.pow_succ, Nat.mul_comm]
      have hn := ih (i + 1) x' (z / 128) (by omega) hd' he' (by omega) (by intro _; omega) Q (by
        rwa [List.length_cons, show i + ((packed (z / 128)).length + 1) = i + 1 + (packed (z / 128)).length by omega] at hQ)
      clear hQ ih
      rw [ep] at hn
      rw [← hcc, ← hk1] at hc
      rw [← hk1] at hlt
      rw [← hp]
      have i1 : ¬ (b.length : Int) ≤ (k1 : Int) := by omega
      have i1' : ¬ b.length ≤ k1 := by omega
      have i3 : (k1 : Int) < (b.length : Int) := by omega
      have w1 : IntKind.i64.wrap ((k : Int) + (i : Int)) = (k1 : Int) := by rw [wrap_i64] <;> omega
      have w2 : IntKind.i64.wrap ((i : Int) + 1) = (i + 1 : Nat) := by rw [wrap_i64] <;> omega
      have h' : ¬ (c : Int) < 128 := by omega
      have h'' : ¬ c < 128 := by omega
      have r1 : ((c : Int).tmod 128) = (u : Int) := by
        rw [Int.tmod_eq_emod_of_nonneg (by omega)]
        omega
      have u8 : IntKind.u8.wrap (u : Int) = (u : Int) := by simp [IntKind.wrap, IntKind.bits, IntKind.signed]; omega
      refine LoopW.go irRef01ReadPacked_L1.eq_1 (by simp) ?_
      simp [-getElem?_pos, krows_length, krows_get, i10, i10', hi9, hi9', w1, w2, i1, i1', i3, hlt, hc, wm, wa, wz, wp, r1, u8, h', h'']
      exact hn
theorem rpE (b : List Nat) (k m e : Nat) (s : List Nat) (hl : b.length ≤ 10000000000) (hm : m ≤ 9) (ht : Tail m s e) : ∀ (l : List Nat) (i : Nat) (x p : Int), b.drop (k + i) = l ++ s → bigs l → i + l.length = m → k + i ≤ b.length → ∀ (Q : Exit → S → Prop),
   (∀ j a, Q .ret (mk [(4, .ptr 4 0), (j, a)] [(4, .pagg (gotP 0 [] 0 e))])) →
   LoopW Try.prog [0, 1, 4, 5, 6, 7] [4] irRef01ReadPacked_L1 (mk [(0, .pv (.sl 1 (krows .u8 b))), (1, .pv (.int .i64 (k : Nat))), (4, .ptr 4 0), (5, .pv (.int .u64 x)), (6, .pv (.int .u64 p)), (7, .pv (.int .i64 (i : Nat)))] [(4, .agg [.pv (.int .u64 0), .os 5 1 [], .pv (.int .i64 0), .pv (.int .i64 0)])]) Q := by
  intro l
  induction l with
  | nil =>
    intro i x p hd hb hi hki Q hQ
    rw [List.nil_append] at hd
    obtain ⟨k1, hk1⟩ : ∃ k1, k1 = k + i := ⟨_, rfl⟩
    have hi' : i = m := by simpa using hi
    subst hi'
    have i10 : (i : Int) < 10 := by omega
    have i10' : i < 10 := by omega
    have w1 : IntKind.i64.wrap ((k : Int) + (i : Int)) = (k1 : Int) := by rw [wrap_i64] <;> omega
    rcases ht with ⟨rfl, rfl⟩ | ⟨c, s', rfl, hc, rfl, ht⟩
    · rw [List.drop_eq_nil_iff] at hd
      have i1 : (b.length : Int) ≤ (k1 : Int) := by omega
      have i1' : b.length ≤ k1 := by omega
      refine LoopW.go irRef01ReadPacked_L1.eq_1 (by simp) ?_
      simp [-getElem?_pos, krows_length, krows_get, i10, i10', w1, i1, i1']
      exact hQ _ _
    · have hlt : k + i < b.length := by
        have := congrArg List.length hd
        simp at this
        omega
      have hx : b[k + i]? = some c := by
        have := congrArg (·[0]?) hd
        simpa using this
      rw [← hk1] at hlt hx
      have i1 : ¬ (b.length : Int) ≤ (k1 : Int) := by omega
      have i1' : ¬ b.length ≤ k1 := by omega
      have i3 : (k1 : Int) < (b.length : Int) := by omega
      have v1 : IntKind.u8.wrap 0 = 0 := by decide
      have v2 : IntKind.u64.wrap 0 = 0 := by decide
      by_cases h9 : i = 9
      · subst h9
        have w9 : IntKind.i64.wrap ((k : Int) + 9) = (k1 : Int) := by rw [wrap_i64] <;> omega
        have e9 : ((9 : Nat) : Int) = 9 := rfl
        rw [e9]
        clear w1 i10 i10'
        by_cases hc1 : 1 < c
        · have hc1' : (1 : Int) < (c : Int) := by omega
          refine LoopW.go irRef01ReadPacked_L1.eq_1 (by simp) ?_
          simp [-getElem?_pos, krows_length, krows_get, w9, i1, i1', i3, hlt, hx, hc1, hc1']
          exact hQ _ _
        · have hc0 : c = 0 := by omega
          subst hc0
          refine LoopW.go irRef01ReadPacked_L1.eq_1 (by simp) ?_
          simp [-getElem?_pos, krows_length, krows_get, w9, i1, i1', i3, hlt, hx, v1, v2]
          exact hQ _ _
      · have h9' : ¬ (i : Int) = 9 := by omega
        have hc0 : c = 0 ∧ 0 < i := by omega
        obtain ⟨rfl, h0⟩ := hc0
        have h0' : (0 : Int) < (i : Int) := by omega
        refine LoopW.go irRef01ReadPacked_L1.eq_1 (by simp) ?_
        simp [-getElem?_pos, krows_length, krows_get, i10, i10', w1, i1, i1', i3, hlt, hx, h9, h9', h0, h0', v1, v2]
        exact hQ _ _
  | cons c l ih =>
    intro i x p hd hb hi hki Q hQ
    have hcb := hb c List.mem_cons_self
    have hlt : k + i < b.length := by
      have := congrArg List.length hd
      simp at this
      omega
    have hc : b[k + i]? = some c := by
      have := congrArg (·[0]?) hd
      simpa using this
    have hd' : b.drop (k + (i + 1)) = l ++ s := by
      have := congrArg (List.drop 1) hd
      rw [List.drop_drop] at this
      simpa [Nat.add_assoc] using this
    rw [List.length_cons] at hi
    obtain ⟨k1, hk1⟩ : ∃ k1, k1 = k + i := ⟨_, rfl⟩
    have hi9 : ¬ (i : Int) = 9 := by omega
    have hi9' : ¬ i = 9 := by omega
    have i10 : (i : Int) < 10 := by omega
    have i10' : i < 10 := by omega
    have hn := fun x' p' => ih (i + 1) x' p' hd' (bigs_tail hb) (by omega) (by omega) Q hQ
    clear hQ ih
    rw [← hk1] at hc hlt
    have i1 : ¬ (b.length : Int) ≤ (k1 : Int) := by omega
    have i1' : ¬ b.length ≤ k1 := by omega
    have i3 : (k1 : Int) < (b.length : Int) := by omega
    have w1 : IntKind.i64.wrap ((k : Int) + (i : Int)) = (k1 : Int) := by rw [wrap_i64] <;> omega
    have w2 : IntKind.i64.wrap ((i : Int) + 1) = (i + 1 : Nat) := by rw [wrap_i64] <;> omega
    have h' : ¬ (c : Int) < 128 := by omega
    have h'' : ¬ c < 128 := by omega
    refine LoopW.go irRef01ReadPacked_L1.eq_1 (by simp) ?_
    simp [-getElem?_pos, krows_length, krows_get, i10, i10', hi9, hi9', w1, w2, i1, i1', i3, hlt, hc, h', h'']
    exact hn _ _
theorem rPacked_c (b r : List Nat) (y : Nat) (hl : b.length ≤ 10000000000) (hy : y < 18446744073709551616) (hd : b = packed y ++ r) : ACall Try.prog 63 [.pv (.sl 1 (krows .u8 b)), .pv (.int .i64 0)] [] (.pagg (gotP y [] (packed y).length 0)) [] [] := by
  refine ACall.fn (fn := Try.f63) rfl okRef01ReadPacked rfl (by simp) ?_
  simp only [argT, irRef01ReadPacked.eq_1]
  have lp := rpG b r 0 y hl (by omega) hy 9 0 0 y rfl hd (by simp) (by simp) (by simp)
  rw [Nat.zero_add] at lp
  simp
  refine lp _ fun _ _ _ _ _ _ => ?_
  simp [gotP]
theorem rPackedE_c (b : List Nat) (e : Nat) (hl : b.length ≤ 10000000000) (h : NoPk b e) : ACall Try.prog 63 [.pv (.sl 1 (krows .u8 b)), .pv (.int .i64 0)] [] (.pagg (gotP 0 [] 0 e)) [] [] := by
  refine ACall.fn (fn := Try.f63) rfl okRef01ReadPacked rfl (by simp) ?_
  simp only [argT, irRef01ReadPacked.eq_1]
  obtain ⟨pre, s, hb, hp, h9, ht⟩ := h
  have lp := rpE b 0 pre.length e s hl h9 ht pre 0 0 1 hb hp (by omega) (by omega)
  simp
  refine lp _ fun _ _ => ?_
  simp [gotP]
end Go.Proofs.Ytlbfpnckoblppaa
end

section
/- The document's texts out of whatever bytes, and its Read: contracts. No condition. -/
namespace Go.Proofs.Ytlbfpnckoblppaa
open Go.Abs Go.RowKit Go.Ours

theorem rCount_c (b r : List Nat) (y : Nat) (hl : b.length ≤ 10000000000) (hy : y ≤ 65536) (hd : b = packed y ++ r) : ACall Try.prog 48 [.pv (.sl 1 (krows .u8 b)), .pv (.int .i64 0), .pv (.int .i64 65536)] [] (.pagg (gotP y [] (packed y).length 0)) [] [] := by
  refine ACall.fn (fn := Try.f48) rfl okRef01ReadCount rfl (by simp) ?_
  simp only [argT, irRef01ReadCount.eq_1]
  have c := rPacked_c b r y hl (by omega) hd
  have w1 : IntKind.u64.wrap 65536 = 65536 := by decide
  have i1 : ¬ (65536 : Int) < (y : Int) := by omega
  have i2 : ¬ 65536 < y := by omega
  generalize (packed y).length = n at *
  simp only [gotP] at c ⊢
  simp
  refine CallG.go c ?_
  simp [w1, i1, i2]
theorem rCountE_c (b : List Nat) (e : Nat) (hl : b.length ≤ 10000000000) (h : NoPk b e) : ACall Try.prog 48 [.pv (.sl 1 (krows .u8 b)), .pv (.int .i64 0), .pv (.int .i64 65536)] [] (.pagg (gotP 0 [] 0 e)) [] [] := by
  refine ACall.fn (fn := Try.f48) rfl okRef01ReadCount rfl (by simp) ?_
  simp only [argT, irRef01ReadCount.eq_1]
  have c := rPackedE_c b e hl h
  have h1 : ¬ (e : Int) = 0 := by rcases h.e12 with h | h <;> omega
  have h2 : ¬ e = 0 := by omega
  simp only [gotP] at c ⊢
  simp
  refine CallG.go c ?_
  simp [h1, h2]
theorem rCountM_c (b r : List Nat) (y : Nat) (hl : b.length ≤ 10000000000) (hy : y < 18446744073709551616) (hy2 : 65536 < y) (hd : b = packed y ++ r) : ACall Try.prog 48 [.pv (.sl 1 (krows .u8 b)), .pv (.int .i64 0), .pv (.int .i64 65536)] [] (.pagg (gotP 0 [] 0 3)) [] [] := by
  refine ACall.fn (fn := Try.f48) rfl okRef01ReadCount rfl (by simp) ?_
  simp only [argT, irRef01ReadCount.eq_1]
  have c := rPacked_c b r y hl hy hd
  have w1 : IntKind.u64.wrap 65536 = 65536 := by decide
  have i1 : (65536 : Int) < (y : Int) := by omega
  generalize (packed y).length = n at *
  simp only [gotP] at c ⊢
  simp
  refine CallG.go c ?_
  have e0 : krows .u8 [] = [] := rfl
  simp [w1, i1, hy2, e0]
theorem rTextE_c (b : List Nat) (e : Nat) (hl : b.length ≤ 10000000000) (h : NoPk b e) : ACall Try.prog 33 [.pv (.sl 1 (krows .u8 b)), .pv (.int .i64 0), .pv (.int .i64 65536)] [] (.pagg (gotP 0 [] 0 e)) [] [] := by
  refine ACall.fn (fn := Try.f33) rfl okRef01ReadText rfl (by simp) ?_
  simp only [argT, irRef01ReadText.eq_1]
  have c := rCountE_c b e hl h
  have h1 : ¬ (e : Int) = 0 := by rcases h.e12 with h | h <;> omega
  have h2 : ¬ e = 0 := by omega
  simp only [gotP] at c ⊢
  simp
  refine CallG.go c ?_
  simp [h1, h2]
theorem rTextM_c (b r : List Nat) (y : Nat) (hl : b.length ≤ 10000000000) (hy : y < 18446744073709551616) (hy2 : 65536 < y) (hd : b = packed y ++ r) : ACall Try.prog 33 [.pv (.sl 1 (krows .u8 b)), .pv (.int .i64 0), .pv (.int .i64 65536)] [] (.pagg (gotP 0 [] 0 3)) [] [] := by
  refine ACall.fn (fn := Try.f33) rfl okRef01ReadText rfl (by simp) ?_
  simp only [argT, irRef01ReadText.eq_1]
  have c := rCountM_c b r y hl hy hy2 hd
  simp only [gotP] at c ⊢
  simp
  refine CallG.go c ?_
  simp
theorem rTextL_c (b r : List Nat) (y : Nat) (hl : b.length ≤ 10000000000) (hy : y ≤ 65536) (hd : b = packed y ++ r) (hr : r.length < y) : ACall Try.prog 33 [.pv (.sl 1 (krows .u8 b)), .pv (.int .i64 0), .pv (.int .i64 65536)] [] (.pagg (gotP 0 [] 0 1)) [] [] := by
  refine ACall.fn (fn := Try.f33) rfl okRef01ReadText rfl (by simp) ?_
  simp only [argT, irRef01ReadText.eq_1]
  have c := rCount_c b r y hl hy hd
  have hlen := congrArg List.length hd
  rw [List.length_append] at hlen
  obtain ⟨n, hn⟩ : ∃ n, n = (packed y).length := ⟨_, rfl⟩
  rw [← hn] at c hlen
  have w1 : IntKind.i64.wrap (n : Int) = (n : Int) := by rw [wrap_i64] <;> omega
  have w2 : IntKind.i64.wrap (y : Int) = (y : Int) := by rw [wrap_i64] <;> omega
  have w3 : IntKind.i64.wrap ((b.length : Int) - (n : Int)) = (r.length : Int) := by rw [wrap_i64] <;> omega
  have i1 : (r.length : Int) < (y : Int) := by omega
  simp only [gotP] at c ⊢
  simp
  refine CallG.go c ?_
  have e0 : krows .u8 [] = [] := rfl
  simp [w1, w2, w3, i1, hr, krows_length, e0]
theorem rText_c (b r t : List Nat) (hl : b.length ≤ 10000000000) (hy : t.length ≤ 65536) (hd : b = txtR t ++ r) : ACall Try.prog 33 [.pv (.sl 1 (krows .u8 b)), .pv (.int .i64 0), .pv (.int .i64 65536)] [] (.pagg (gotP 0 t (txtR t).length 0)) [] [] := by
  refine ACall.fn (fn := Try.f33) rfl okRef01ReadText rfl (by simp) ?_
  simp only [argT, irRef01ReadText.eq_1]
  rw [txtR, List.append_assoc] at hd
  have c := rCount_c b (t ++ r) t.length hl hy hd
  have hlen := congrArg List.length hd
  rw [List.length_append, List.length_append] at hlen
  have hd2 : (b.take ((packed t.length).length + t.length)).drop (packed t.length).length = t := by
    rw [← List.take_drop, hd, List.drop_left, List.take_left]
  rw [txtR, List.length_append]
  obtain ⟨n, hn⟩ : ∃ n, n = (packed t.length).length := ⟨_, rfl⟩
  rw [← hn] at c hlen hd2 ⊢
  obtain ⟨k, hk⟩ : ∃ k, k = n + t.length := ⟨_, rfl⟩
  rw [← hk] at hd2 ⊢
  have w1 : IntKind.i64.wrap (n : Int) = (n : Int) := by rw [wrap_i64] <;> omega
  have w2 : IntKind.i64.wrap (t.length : Int) = (t.length : Int) := by rw [wrap_i64] <;> omega
  have w3 : IntKind.i64.wrap ((b.length : Int) - (n : Int)) = ((t.length + r.length : Nat) : Int) := by rw [wrap_i64] <;> omega
  have w4 : IntKind.i64.wrap ((n : Int) + (t.length : Int)) = (k : Int) := by rw [wrap_i64] <;> omega
  have i1 : ¬ ((t.length + r.length : Nat) : Int) < (t.length : Int) := by omega
  have i1' : ¬ (t.length + r.length : Nat) < t.length := by omega
  generalize t.length + r.length = z at *
  have i2 : (n : Int) ≤ (k : Int) := by omega
  have i2' : n ≤ k := by omega
  have i3 : (k : Int) ≤ (b.length : Int) := by omega
  have i3' : k ≤ b.length := by omega
  have e5 : ((k : Int) - (n : Int)).toNat = t.length := by omega
  have e4 : k - n = t.length := by omega
  simp only [gotP] at c ⊢
  simp
  refine CallG.go c ?_
  simp [w1, w2, w3, w4, i1, i1', krows_length, krows_drop, krows_take, i2, i2', i3, i3', e4, e5, hd2]
  omega
theorem eqlG (a b : List Nat) (hl : a.length ≤ 100000) (hab : a.length = b.length) : ∀ (n k : Nat), k + n = a.length → a.take k = b.take k → ∀ (Q : Exit → S → Prop),
   (a = b → ∀ p q r, Q (.exit 0) (mk [(0, .pv (.sl 1 (krows .u8 a))), (1, .pv (.sl 1 (krows .u8 b))), (12, p), (13, q), (14, r)] [])) →
   (a ≠ b → Q .ret (mk [(4, .pv (.bool false))] [])) →
   LoopW Try.prog [0, 1, 12, 13] [] irSlicesEqualbytebyte_L1 (mk [(0, .pv (.sl 1 (krows .u8 a))), (1, .pv (.sl 1 (krows .u8 b))), (12, .pv (.int .i64 (a.length : Nat))), (13, .pv (.int .i64 (k : Nat)))] []) Q := by
  intro n
  induction n with
  | zero =>
    intro k hk ht Q hQ hN
    have hk2 : k = a.length := by omega
    subst hk2
    have hab2 : a = b := by rw [List.take_length, hab, List.take_length] at ht; exact ht
    refine LoopW.go irSlicesEqualbytebyte_L1.eq_1 (by simp) ?_
    simp
    exact hQ hab2 _ _ _
  | succ n ih =>
    intro k hk ht Q hQ hN
    have hlt : k < a.length := by omega
    have hlt2 : k < b.length := by omega
    have hx : a[k]? = some a[k] := List.getElem?_eq_getElem hlt
    have hy : b[k]? = some b[k] := List.getElem?_eq_getElem hlt2
    generalize a[k] = x at hx
    generalize b[k] = y at hy
    have i1 : (k : Int) < (a.length : Int) := by omega
    have i2 : (k : Int) < (b.length : Int) := by omega
    have wk : IntKind.i64.wrap ((k : Int) + 1) = (k + 1 : Nat) := by rw [wrap_i64] <;> omega
    by_cases he : x = y
    · subst he
      have hn := ih (k + 1) (by omega) (by rw [List.take_add_one, List.take_add_one, ht, hx, hy]) Q hQ hN
      clear hQ hN ih
      refine LoopW.go irSlicesEqualbytebyte_L1.eq_1 (by simp) ?_
      simp [-getElem?_pos, i1, i2, hlt, hlt2, krows_length, krows_get, hx, hy, wk]
      exact hn
    · have he' : ¬ (x : Int) = (y : Int) := by omega
      have hne : a ≠ b := fun e => he (by rw [e, hy] at hx; exact (Option.some.inj hx).symm)
      have hn := hN hne
      clear hQ hN ih
      refine LoopW.go irSlicesEqualbytebyte_L1.eq_1 (by simp) ?_
      simp [-getElem?_pos, i1, i2, hlt, hlt2, krows_length, krows_get, hx, hy, he, he']
      exact hn
theorem equalG_c (a b : List Nat) (hl : a.length ≤ 100000) : ACall Try.prog 31 [.pv (.sl 1 (krows .u8 a)), .pv (.sl 1 (krows .u8 b))] [] (.pv (.bool (decide (a = b)))) [] [] := by
  refine ACall.fn (fn := Try.f31) rfl okSlicesEqualbytebyte rfl (by simp) ?_
  simp only [argT, irSlicesEqualbytebyte.eq_1]
  by_cases hab : a.length = b.length
  · have hab' : (a.length : Int) = (b.length : Int) := by omega
    have lp := eqlG a b hl hab a.length 0 (by omega) (by simp)
    simp [krows_length, hab, hab'] at lp ⊢
    refine lp _ (fun he p q r => ?_) fun hne => ?_
    · simp [he]
    · simp [hne]
  · have hab' : ¬ (a.length : Int) = (b.length : Int) := by omega
    have hne : a ≠ b := fun e => hab (by rw [e])
    simp [krows_length, hab, hab', hne]
/-- What a file of whatever bytes is to the reader: the bytes that were told, or none. -/
theorem fileCases (b : List Nat) (hb : ∀ x ∈ b, x < 256) : (∃ t, b = toldF t) ∨ (∃ e, NoPk b e) ∨ (∃ y r, y < 18446744073709551616 ∧ 65536 < y ∧ b = packed y ++ r) ∨ (∃ y r, y ≤ 65536 ∧ b = packed y ++ r ∧ r.length < y) ∨ ∃ t r, t.length ≤ 65536 ∧ b = txtR t ++ r ∧ toldF t ≠ b := by
  rcases classify 9 [] b rfl (by intro x hx; cases hx) hb with ⟨y, r, hy, hd⟩ | h
  · rw [List.nil_append] at hd
    by_cases h1 : 65536 < y
    · exact Or.inr (Or.inr (Or.inl ⟨y, r, hy, h1, hd⟩))
    · by_cases h2 : r.length < y
      · exact Or.inr (Or.inr (Or.inr (Or.inl ⟨y, r, by omega, hd, h2⟩)))
      · by_cases h3 : toldF (r.take y) = b
        · exact Or.inl ⟨_, h3.symm⟩
        · refine Or.inr (Or.inr (Or.inr (Or.inr ⟨r.take y, r.drop y, ?_, ?_, h3⟩)))
          · rw [List.length_take]; omega
          · rw [txtR, List.length_take, Nat.min_eq_left (by omega), List.append_assoc, List.take_append_drop, hd]
  · exact Or.inr (Or.inl h)
end Go.Proofs.Ytlbfpnckoblppaa
end

section
/- Load and the document's Read at files of whatever bytes; Write of whatever name: contracts. No condition. -/
namespace Go.Proofs.Ytlbfpnckoblppaa
open Go.Abs Go.RowKit Go.Ours

theorem namedN_d (n : ByteArray) (h : ¬ (1 ≤ n.size ∧ n.size ≤ 24)) : ACall Try.prog 23 [.pv (.str n)] [] (.pv (.bool false)) [] [] := by
  refine ACall.fn (fn := Try.f23) rfl okDiskNamed rfl (by simp) ?_
  simp only [argT, irDiskNamed.eq_1]
  by_cases h1 : 1 ≤ n.size
  · have h1' : (1 : Int) ≤ (n.size : Int) := by omega
    have h2 : ¬ n.size ≤ 24 := fun h2 => h ⟨h1, h2⟩
    have h2' : ¬ (n.size : Int) ≤ 24 := by omega
    simp [h1', h2']
  · have h1' : ¬ (1 : Int) ≤ (n.size : Int) := by omega
    simp [h1']
theorem writeN_d (room : Nat) (rows : List (List PV)) (e1 e2 : List (List PV × PV)) (n : ByteArray) (v : List Nat) (hn : ¬ (1 ≤ n.size ∧ n.size ≤ 24)) : ACall Try.prog 10 [.ptr 1000 0, .pv (.str n), .pv (.sl 1 (krows .u8 v))] [dkA room rows, .mc false [.s] e1, .mc false [.s] e2] (.pv (.int .i64 15)) [dkA room rows, .mc false [.s] e1, .mc false [.s] e2] [] := by
  refine ACall.fn (fn := Try.f10) rfl okDiskDiskWrite rfl (by simp) ?_
  simp only [argT, irDiskDiskWrite.eq_1]
  have c1 := namedN_d n hn
  simp only [dkA]
  simp
  refine CallG.go c1 ?_
  simp
  rfl
/-- A file that holds no text is no snap. -/
theorem loadE_c (room : Nat) (rows : List (List PV)) (e1 : List (List PV × PV)) (F : Fs) (n : ByteArray) (b : List Nat) (e : Nat) (hs : small n) (hn : 1 ≤ n.size ∧ n.size ≤ 16) (hl : b.length ≤ 3000) (hf : ffind n F = some b) (he : e ≠ 0)
    (c4 : ACall Try.prog 29 [.ptr 1000 0, .pv (.int .i64 (65536 : Nat))] [.pagg (rdP b 0)] (.tup [.os 5 1 [], .pv (.int .i64 (e : Nat))]) [.pagg (rdP b 0)] []) :
    ACall Try.prog 11 [.ptr 1000 0, .pv (.str n)] [dkA room rows, .mc false [.s] e1, mcF F] (.tup [.os 5 1 [], .pv (.int .i64 2)]) [dkA room rows, .mc false [.s] e1, mcF F] [] := by
  refine ACall.fn (fn := Try.f11) rfl okSnapsLoad rfl (by simp) ?_
  simp only [argT, irSnapsLoad.eq_1]
  have c1 := asked_c n hs hn room rows e1 (fcs F)
  have c2 := read_d room rows e1 F n b (by omega) hf
  have c3 := newr_c b (by omega)
  have e6 : ((65536 : Nat) : Int) = 65536 := rfl
  rw [e6] at c4
  have he' : ¬ (e : Int) = 0 := by omega
  simp only [dkA, mcF] at c1 c2 ⊢
  generalize rdP b 0 = r0 at *
  generalize fcs F = f0 at *
  simp
  refine CallG.go c1 ?_
  simp
  refine CallG.go c2 ?_
  simp
  refine CallG.go c3 ?_
  simp
  refine CallG.go c4 ?_
  simp [he, he']
  rfl
/-- A file that holds a text, but not what is told of it, is no snap. -/
theorem loadW_c (room : Nat) (rows : List (List PV)) (e1 : List (List PV × PV)) (F : Fs) (n : ByteArray) (b t r : List Nat) (hs : small n) (hn : 1 ≤ n.size ∧ n.size ≤ 16) (hl : b.length ≤ 3000) (hf : ffind n F = some b) (hb : ∀ x ∈ b, x < 256) (ht : t.length ≤ 65536) (hd : b = txtR t ++ r) (hne : toldF t ≠ b) :
    ACall Try.prog 11 [.ptr 1000 0, .pv (.str n)] [dkA room rows, .mc false [.s] e1, mcF F] (.tup [.os 5 1 [], .pv (.int .i64 2)]) [dkA room rows, .mc false [.s] e1, mcF F] [] := by
  refine ACall.fn (fn := Try.f11) rfl okSnapsLoad rfl (by simp) ?_
  simp only [argT, irSnapsLoad.eq_1]
  have hlen := congrArg List.length hd
  rw [List.length_append] at hlen
  have htl : t.length ≤ (txtR t).length := by rw [txtR, List.length_append]; omega
  have htb : ∀ x ∈ t, x < 256 := fun x hx => hb x (by rw [hd, txtR]; simp [hx])
  have c1 := asked_c n hs hn room rows e1 (fcs F)
  have c2 := read_d room rows e1 F n b (by omega) hf
  have c3 := newr_c b (by omega)
  have c4 := textAt_c b r t 0 65536 (by omega) (by decide) ht (Nat.zero_le _) (by rw [List.drop_zero, hd])
  rw [Nat.zero_add] at c4
  have c5 := left_c b (txtR t).length (by omega) (by omega)
  rw [show b.length - (txtR t).length = r.length by omega] at c5
  have c6 := stold_c t (by omega) htb
  have c7 := equalG_c (toldF t) b (by have := toldF_len t (by omega); omega)
  rw [decide_eq_false hne] at c7
  have e6 : ((65536 : Nat) : Int) = 65536 := rfl
  rw [e6] at c4
  simp only [dkA, mcF] at c1 c2 ⊢
  generalize rdP b 0 = r0 at *
  generalize rdP b (txtR t).length = r1 at *
  generalize toldF t = T at *
  generalize fcs F = f0 at *
  by_cases h8 : r.length = 8
  · have h8' : (r.length : Int) = 8 := by omega
    rw [h8'] at c5
    simp
    refine CallG.go c1 ?_
    simp
    refine CallG.go c2 ?_
    simp
    refine CallG.go c3 ?_
    simp
    refine CallG.go c4 ?_
    simp
    refine CallG.go c5 ?_
    simp
    refine CallG.go c6 ?_
    simp
    refine CallG.go c7 ?_
    simp
    rfl
  · have h8' : ¬ (r.length : Int) = 8 := by omega
    simp
    refine CallG.go c1 ?_
    simp
    refine CallG.go c2 ?_
    simp
    refine CallG.go c3 ?_
    simp
    refine CallG.go c4 ?_
    simp
    refine CallG.go c5 ?_
    simp [h8, h8']
    rfl
theorem rReadE_c (b : List Nat) (e : Nat) (he : e ≠ 0)
    (c1 : ACall Try.prog 33 [.pv (.sl 1 (krows .u8 b)), .pv (.int .i64 0), .pv (.int .i64 65536)] [] (.pagg (gotP 0 [] 0 e)) [] []) :
    ACall Try.prog 13 [.pv (.sl 1 (krows .u8 b))] [] (.tup [.os 5 1 [], .pv (.int .i64 2)]) [] [] := by
  refine ACall.fn (fn := Try.f13) rfl okRef12Read rfl (by simp) ?_
  simp only [argT, irRef12Read.eq_1]
  have he' : ¬ (e : Int) = 0 := by omega
  simp only [gotP] at c1
  simp
  refine CallG.go c1 ?_
  simp [he, he']
theorem rReadW_c (b t r : List Nat) (hl : b.length ≤ 3000) (hb : ∀ x ∈ b, x < 256) (ht : t.length ≤ 65536) (hd : b = txtR t ++ r) (hne : toldF t ≠ b) :
    ACall Try.prog 13 [.pv (.sl 1 (krows .u8 b))] [] (.tup [.os 5 1 [], .pv (.int .i64 2)]) [] [] := by
  refine ACall.fn (fn := Try.f13) rfl okRef12Read rfl (by simp) ?_
  simp only [argT, irRef12Read.eq_1]
  have hlen := congrArg List.length hd
  rw [List.length_append] at hlen
  have htl : t.length ≤ (txtR t).length := by rw [txtR, List.length_append]; omega
  have htb : ∀ x ∈ t, x < 256 := fun x hx => hb x (by rw [hd, txtR]; simp [hx])
  have c1 := rText_c b r t (by omega) ht hd
  have c2 := refTold_c t (by omega) htb
  have c3 := same_c (toldF t) b (by have := toldF_len t (by omega); omega)
  rw [decide_eq_false hne] at c3
  generalize (txtR t).length = n at *
  generalize toldF t = T at *
  simp only [gotP] at c1
  simp
  refine CallG.go c1 ?_
  simp
  refine CallG.go c2 ?_
  simp
  refine CallG.go c3 ?_
  simp
theorem rRead_c (t : List Nat) (hl : t.length ≤ 3000) (hb : ∀ x ∈ t, x < 256) :
    ACall Try.prog 13 [.pv (.sl 1 (krows .u8 (toldF t)))] [] (.tup [.pv (.sl 1 (krows .u8 t)), .pv (.int .i64 0)]) [] [] := by
  refine ACall.fn (fn := Try.f13) rfl okRef12Read rfl (by simp) ?_
  simp only [argT, irRef12Read.eq_1]
  have hT := toldF_len t hl
  have c1 := rText_c (toldF t) ((shaF (txt t)).take 8) t (by omega) (by omega) rfl
  have c2 := refTold_c t hl hb
  have c3 := same_c (toldF t) (toldF t) (by omega)
  rw [decide_eq_true rfl] at c3
  generalize (txtR t).length = n at *
  generalize toldF t = T at *
  simp only [gotP] at c1
  simp
  refine CallG.go c1 ?_
  simp
  refine CallG.go c2 ?_
  simp
  refine CallG.go c3 ?_
  simp
end Go.Proofs.Ytlbfpnckoblppaa
end
