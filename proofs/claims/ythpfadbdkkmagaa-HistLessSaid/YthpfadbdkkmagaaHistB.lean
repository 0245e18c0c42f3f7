/- Contracts of hist: may, from. No condition. -/
import Derived.Test.YthpfadbdkkmagaaHistA
set_option linter.unusedVariables false
set_option linter.unusedSimpArgs false
namespace Go.Proofs.Ythpfadbdkkmagaa
open Go.Abs Go.RowKit Go.Ours

/-- A bit of a mask, as the code asks for it. -/
theorem bit_get (t i : Nat) (ht : t < 65536) (hi : i < 16) : ∃ q : Nat, min i IntKind.u16.bits = i ∧ (t : Int).fdiv (2 ^ i) = (q : Int) ∧ bits BinOp.and IntKind.u16 (q : Int) 1 = if t.testBit i = true then 1 else 0 := by
  have hq : t / 2 ^ i < 65536 := Nat.lt_of_le_of_lt (Nat.div_le_self _ _) ht
  refine ⟨t / 2 ^ i, by simp [IntKind.bits]; omega, shr_nat t i, ?_⟩
  have := (bits_op .u16 (t / 2 ^ i) 1 (by simpa [IntKind.bits] using hq) (by decide)).1
  rw [show ((1 : Nat) : Int) = 1 from rfl] at this
  rw [this, show (t / 2 ^ i) &&& 1 = t / 2 ^ i % 2 from Nat.and_two_pow_sub_one_eq_mod _ 1, Nat.testBit_eq_decide_div_mod_eq]
  by_cases h : t / 2 ^ i % 2 = 1
  · simp [h]
  · have h' : t / 2 ^ i % 2 = 0 := by omega
    simp [h']
theorem wu16 (p : Nat) (h : p < 65536) : IntKind.u16.wrap (p : Int) = (p : Int) := wrap_u16 _ (by omega) (by omega)
theorem bit_set (t i : Nat) (ht : t < 65536) (hi : i < 16) : ∃ p : Nat, min i IntKind.u16.bits = i ∧ (2 : Int) ^ i = (p : Int) ∧ IntKind.u16.wrap (p : Int) = (p : Int) ∧ bits BinOp.or IntKind.u16 (t : Int) (p : Int) = ((t ||| 2 ^ i : Nat) : Int) := by
  have hp : 2 ^ i < 65536 := Nat.lt_of_lt_of_le (Nat.pow_lt_pow_right (by decide) hi) (by decide)
  refine ⟨2 ^ i, by simp [IntKind.bits]; omega, by norm_cast, wu16 _ hp, ?_⟩
  rw [(bits_op .u16 t (2 ^ i) (by simpa [IntKind.bits] using ht) (by simpa [IntKind.bits] using hp)).2.1]
  have : t ||| 2 ^ i < 2 ^ 16 := Nat.or_lt_two_pow (by simpa using ht) (by simpa using hp)
  exact wu16 _ this
theorem andnot_zero (d t : Nat) (hd : d < 65536) (ht : t < 65536) : ∃ z : Nat, bits BinOp.andNot IntKind.u16 (d : Int) (t : Int) = (z : Int) ∧ (z = 0 ↔ ∀ i, d.testBit i = true → t.testBit i = true) := by
  have h1 : BitVec.ofInt 16 (d : Int) = BitVec.ofNat 16 d := BitVec.ofInt_natCast ..
  have h2 : BitVec.ofInt 16 (t : Int) = BitVec.ofNat 16 t := BitVec.ofInt_natCast ..
  refine ⟨(BitVec.ofNat 16 d &&& ~~~ BitVec.ofNat 16 t).toNat, ?_, ?_⟩
  · have hw : bits BinOp.andNot IntKind.u16 (d : Int) (t : Int) = IntKind.u16.wrap (((BitVec.ofInt 16 (d : Int) &&& ~~~ BitVec.ofInt 16 (t : Int)).toNat : Nat) : Int) := rfl
    have hl := (BitVec.ofNat 16 d &&& ~~~ BitVec.ofNat 16 t).isLt
    rw [hw, h1, h2, wu16 _ hl]
  · have hz : ∀ i, (BitVec.ofNat 16 d &&& ~~~ BitVec.ofNat 16 t).toNat.testBit i = (d.testBit i && (decide (i < 16) && !t.testBit i)) := fun i => by
      rw [← BitVec.getLsbD]
      simp only [BitVec.getLsbD_and, BitVec.getLsbD_not, BitVec.getLsbD_ofNat]
      cases d.testBit i <;> cases t.testBit i <;> by_cases h : i < 16 <;> simp [h]
    constructor
    · intro h i hi
      have := hz i
      rw [h, hi] at this
      have hlt : i < 16 := by
        rcases Nat.lt_or_ge i 16 with h | h
        · exact h
        · have : d.testBit i = false := Nat.testBit_lt_two_pow (Nat.lt_of_lt_of_le hd (Nat.pow_le_pow_right (by decide) h : 2 ^ 16 ≤ 2 ^ i))
          rw [this] at hi; cases hi
      simpa [hlt] using this
    · intro h
      apply Nat.eq_of_testBit_eq
      intro i
      rw [hz]
      cases hd : d.testBit i
      · simp
      · simp [h i hd]

/-- The mask of the events that were answered. -/
def dmF : Nat → List Ev → Nat
  | 0, _ => 0
  | k + 1, l => match l[k]? with
    | some e => if e.dn = true then dmF k l ||| 2 ^ k else dmF k l
    | none => dmF k l
def dm (l : List Ev) : Nat := dmF l.length l
theorem dmF_bit (l : List Ev) (i : Nat) : ∀ k, (dmF k l).testBit i = true ↔ i < k ∧ ∃ e, l[i]? = some e ∧ e.dn = true
  | 0 => by simp [dmF]
  | k + 1 => by
    have ih := dmF_bit l i k
    unfold dmF
    cases h : l[k]? with
    | none =>
      simp only [ih]
      constructor
      · rintro ⟨h1, h2⟩; exact ⟨by omega, h2⟩
      · rintro ⟨h1, e, h2, h3⟩
        refine ⟨?_, e, h2, h3⟩
        rcases Nat.lt_or_ge i k with q | q
        · exact q
        · have : i = k := by omega
          subst this; rw [h] at h2; cases h2
    | some e =>
      simp only
      by_cases hd : e.dn = true
      · rw [if_pos hd, or_bit, Bool.or_eq_true, ih, decide_eq_true_eq]
        constructor
        · rintro (⟨h1, h2⟩ | rfl)
          · exact ⟨by omega, h2⟩
          · exact ⟨by omega, e, h, hd⟩
        · rintro ⟨h1, h2⟩
          by_cases q : k = i
          · exact Or.inr q
          · exact Or.inl ⟨by omega, h2⟩
      · rw [if_neg hd, ih]
        constructor
        · rintro ⟨h1, h2⟩; exact ⟨by omega, h2⟩
        · rintro ⟨h1, f, h2, h3⟩
          refine ⟨?_, f, h2, h3⟩
          rcases Nat.lt_or_ge i k with q | q
          · exact q
          · have : i = k := by omega
            subst this; rw [h] at h2; cases h2; exact absurd h3 hd
theorem dmF_lt (l : List Ev) : ∀ k, k ≤ 12 → dmF k l < 4096
  | 0, _ => by simp [dmF]
  | k + 1, hk => by
    have ih := dmF_lt l k (by omega)
    unfold dmF
    have hp : 2 ^ k < 2 ^ 12 := Nat.pow_lt_pow_right (by decide) (by omega)
    have : dmF k l ||| 2 ^ k < 2 ^ 12 := Nat.or_lt_two_pow (by simpa using ih) hp
    split
    · split <;> omega
    · exact ih
theorem dm_all (l : List Ev) (t : Nat) : (∀ i, (dm l).testBit i = true → t.testBit i = true) ↔ allD l t := by
  unfold dm allD
  constructor
  · intro h i e he hd
    exact h i ((dmF_bit l i _).2 ⟨(List.getElem?_eq_some_iff.1 he).1, e, he, hd⟩)
  · intro h i hi
    obtain ⟨_, e, he, hd⟩ := (dmF_bit l i _).1 hi
    exact h i e he hd

theorem range2 : List.range 2 = [0, 1] := rfl
def mayQ (l : List Ev) (t i : Nat) (e : Ev) (k : Nat) : Prop := ∀ (j : Nat) x, j < k → l[j]? = some x → j ≠ i → t.testBit j = false → aheadB x e = false
theorem mayQ_step {l : List Ev} {t i : Nat} {e : Ev} {k : Nat} (h : mayQ l t i e k) {x : Ev} (hx : l[k]? = some x) (hn : k ≠ i → t.testBit k = false → aheadB x e = false) : mayQ l t i e (k + 1) := fun j y hj hy => by
  by_cases hjk : j = k
  · subst hjk
    rw [hx] at hy
    cases hy
    exact hn
  · exact h j y (by omega) hy
theorem mayl (l : List Ev) (ll : l.length ≤ 12) (t i : Nat) (ht : t < 65536) (hi : i < 12) (e : Ev) (he : l[i]? = some e) (C : List (Nat × AV)) (D : List AV) (hk : kp [1000, 1001] C = C) (hc : lk 1000 C = .agg (.pv (.sl 9 (evs l)) :: D)) :
    ∀ (n k : Nat), k + n = l.length → mayQ l t i e k → ∀ (Q : Exit → S → Prop),
    (mayQ l t i e l.length → ∀ a b c d f, Q (.exit 0) (mk [(0, .ptr 1000 0), (1, a), (2, b), (17, c), (18, d), (19, f)] C)) →
    ((∃ (j : Nat) (x : Ev), l[j]? = some x ∧ j ≠ i ∧ t.testBit j = false ∧ aheadB x e = true) → Q .ret (mk [(0, .ptr 1000 0), (6, .pv (.bool false))] C)) →
    LoopW Try.prog [0, 1, 2, 17, 18] [1000, 1001] irHistSearchMay_L1 (mk [(0, .ptr 1000 0), (1, .pv (.int .u16 (t : Nat))), (2, .pv (.int .i64 (i : Nat))), (17, .pv (.int .i64 (l.length : Nat))), (18, .pv (.int .i64 (k : Nat)))] C) Q := by
  intro n
  induction n with
  | zero =>
    intro k hk' hq Q h1 h2
    obtain rfl : k = l.length := by omega
    refine LoopW.go irHistSearchMay_L1.eq_1 (by simp [hk]) ?_
    simp [hk]
    exact h1 hq _ _ _ _ _
  | succ n ih =>
    intro k hk' hq Q h1 h2
    have i1 : k < l.length := by omega
    have i2 : i < l.length := (List.getElem?_eq_some_iff.1 he).1
    obtain ⟨x, hx⟩ : ∃ x, l[k]? = some x := ⟨_, List.getElem?_eq_getElem (by omega)⟩
    have w : IntKind.i64.wrap ((k : Int) + 1) = (k + 1 : Nat) := by rw [wrap_i64] <;> omega
    obtain ⟨q, b1, b2, b3⟩ := bit_get t k ht (by omega)
    refine LoopW.go irHistSearchMay_L1.eq_1 (by simp [hk]) ?_
    by_cases hki : k = i
    · have ih' := ih (k + 1) (by omega) (mayQ_step hq hx fun h => absurd hki h) Q h1 h2
      subst hki
      simp at ih'
      simp [-getElem?_pos, hk, hc, i1, w]
      exact ih'
    · cases hb : t.testBit k
      · rw [hb] at b3
        simp at b3
        have c := ahead_c x e
        cases ha : aheadB x e
        · rw [ha] at c
          have ih' := ih (k + 1) (by omega) (mayQ_step hq hx fun _ _ => ha) Q h1 h2
          simp [evP] at c
          simp [-getElem?_pos, hk, hc, i1, i2, hki, b1, b2, b3, evs_get, evs_length, hx, he, evP]
          refine CallG.go c ?_
          simp [hk, w]
          exact ih'
        · rw [ha] at c
          simp [evP] at c
          simp [-getElem?_pos, hk, hc, i1, i2, hki, b1, b2, b3, evs_get, evs_length, hx, he, evP]
          refine CallG.go c ?_
          simp [hk]
          exact h2 ⟨k, x, hx, hki, hb, ha⟩
      · rw [hb] at b3
        simp at b3
        have ih' := ih (k + 1) (by omega) (mayQ_step hq hx fun _ h => by rw [hb] at h; cases h) Q h1 h2
        simp [-getElem?_pos, hk, hc, i1, hki, b1, b2, b3, w]
        exact ih'
theorem mayQ_all {l : List Ev} {t i : Nat} {e : Ev} (he : l[i]? = some e) (ht : t.testBit i = false) : mayQ l t i e l.length ↔ mayP l t i := by
  constructor
  · intro h
    refine ⟨ht, fun k x y hx hy hk hb => ?_⟩
    rw [he] at hy
    cases hy
    exact h k x (List.getElem?_eq_some_iff.1 hx).1 hx hk hb
  · intro h j x _ hx hj hb
    exact h.2 j x e hx he hj hb
theorem may_c (l : List Ev) (ll : l.length ≤ 12) (t i : Nat) (ht : t < 65536) (e : Ev) (he : l[i]? = some e) (d : PV) (ks : List CK) (es : List (List PV × PV)) : ∃ b, ACall Try.prog 19 [.ptr 1000 0, .pv (.int .u16 (t : Nat)), .pv (.int .i64 (i : Nat))] [.agg [.pv (.sl 9 (evs l)), .pv d, .mp 1001], .mc true ks es] (.pv (.bool b)) [.agg [.pv (.sl 9 (evs l)), .pv d, .mp 1001], .mc true ks es] [] ∧ (b = true ↔ mayP l t i) := by
  have i2 : i < l.length := (List.getElem?_eq_some_iff.1 he).1
  obtain ⟨q, b1, b2, b3⟩ := bit_get t i ht (by omega)
  cases hb : t.testBit i
  · rw [hb] at b3
    simp at b3
    have lp := mayl l ll t i ht (by omega) e he [(1000, .agg [.pv (.sl 9 (evs l)), .pv d, .mp 1001]), (1001, .mc true ks es)] [.pv d, .mp 1001] rfl rfl l.length 0 (by omega) (fun j x h => by omega)
    by_cases hm : mayP l t i
    · refine ⟨true, ?_, by simp [hm]⟩
      refine ACall.fn (fn := Try.f19) rfl okHistSearchMay rfl (by simp) ?_
      simp only [argT, irHistSearchMay.eq_1]
      simp [b1, b2, b3, evs_length]
      refine lp _ (fun h a b c d f => ?_) (fun h => ?_)
      · simp [range2]
      · obtain ⟨j, x, h1, h2, h3, h4⟩ := h
        rw [hm.2 j x e h1 he h2 h3] at h4; cases h4
    · refine ⟨false, ?_, by simp [hm]⟩
      refine ACall.fn (fn := Try.f19) rfl okHistSearchMay rfl (by simp) ?_
      simp only [argT, irHistSearchMay.eq_1]
      simp [b1, b2, b3, evs_length]
      refine lp _ (fun h a b c d f => ?_) (fun h => ?_)
      · exact absurd ((mayQ_all he hb).1 h) hm
      · simp [range2]
  · rw [hb] at b3
    simp at b3
    refine ⟨false, ?_, by simp [mayP, hb]⟩
    refine ACall.fn (fn := Try.f19) rfl okHistSearchMay rfl (by simp) ?_
    simp only [argT, irHistSearchMay.eq_1]
    simp [b1, b2, b3, range2]
end Go.Proofs.Ythpfadbdkkmagaa
