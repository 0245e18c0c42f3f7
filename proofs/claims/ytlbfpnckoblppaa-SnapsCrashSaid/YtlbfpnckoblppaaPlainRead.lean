/- Plain laws on reading packed numbers. -/
import Derived.Test.YtlbfpnckoblppaaPlainNums
set_option linter.unusedVariables false
set_option linter.unusedSimpArgs false
namespace Go.Ours

def val : List Nat → Nat
  | [] => 0
  | b :: t => b % 128 + 128 * val t

theorem val_lt (l : List Nat) : val l < 128 ^ l.length := by
  induction l with
  | nil => simp [val]
  | cons b t ih => simp only [val, List.length_cons, Nat.pow_succ]; omega
theorem val_snoc (l : List Nat) (c : Nat) : val (l ++ [c]) = val l + c % 128 * 128 ^ l.length := by
  induction l with
  | nil => simp [val]
  | cons b t ih =>
    simp only [List.cons_append, val, ih, List.length_cons, Nat.pow_succ]
    rw [Nat.mul_add, ← Nat.mul_assoc, Nat.mul_comm (128 ^ t.length) 128, ← Nat.mul_assoc, ← Nat.mul_comm 128 (c % 128)]
    omega
def bigs (l : List Nat) : Prop := ∀ b ∈ l, 128 ≤ b ∧ b < 256
theorem bigs_snoc {l : List Nat} {c : Nat} (h : bigs l) (hc : 128 ≤ c ∧ c < 256) : bigs (l ++ [c]) := by
  intro b hb
  rcases List.mem_append.1 hb with h1 | h1
  · exact h b h1
  · rw [List.mem_singleton.1 h1]; exact hc
theorem bigs_tail {b : Nat} {l : List Nat} (h : bigs (b :: l)) : bigs l := fun x hx => h x (List.mem_cons_of_mem _ hx)

theorem packed_val (l : List Nat) (h : bigs l) (y : Nat) (hy : l = [] ∨ 1 ≤ y) : packed (val l + 128 ^ l.length * y) = l ++ packed y := by
  induction l with
  | nil => simp [val]
  | cons b t ih =>
    have hb := h b List.mem_cons_self
    have hy' : 1 ≤ y := by rcases hy with h1 | h1; cases h1; exact h1
    have hi := ih (bigs_tail h) (Or.inr hy')
    have hz : 1 ≤ 128 ^ t.length * y := Nat.mul_pos (Nat.pow_pos (by omega)) hy'
    have e : val (b :: t) + 128 ^ (b :: t).length * y = b % 128 + 128 * (val t + 128 ^ t.length * y) := by
      simp only [val, List.length_cons, Nat.pow_succ]
      rw [Nat.mul_add, Nat.mul_comm (128 ^ t.length) 128, ← Nat.mul_assoc]
      omega
    rw [e, packed_big (by omega), show (b % 128 + 128 * (val t + 128 ^ t.length * y)) % 128 + 128 = b by omega, show (b % 128 + 128 * (val t + 128 ^ t.length * y)) / 128 = val t + 128 ^ t.length * y by omega, hi]
    rfl

/-- What begins with big bytes and is a packed number, is one of the rest. -/
theorem peel (l : List Nat) (h : bigs l) : ∀ (y : Nat) (r s : List Nat), packed y ++ r = l ++ s → ∃ z, packed z ++ r = s ∧ y = val l + 128 ^ l.length * z ∧ (l = [] ∨ 1 ≤ z) := by
  induction l with
  | nil => intro y r s e; exact ⟨y, e, by simp [val], Or.inl rfl⟩
  | cons b t ih =>
    intro y r s e
    have hb := h b List.mem_cons_self
    by_cases hy : y < 128
    · rw [packed_small hy] at e
      simp at e
      omega
    · rw [packed_big (by omega)] at e
      simp only [List.cons_append, List.cons.injEq] at e
      obtain ⟨z, h1, h2, h3⟩ := ih (bigs_tail h) _ _ _ e.2
      refine ⟨z, h1, ?_, Or.inr ?_⟩
      · simp only [val, List.length_cons, Nat.pow_succ]
        rw [Nat.mul_comm (128 ^ t.length) 128, Nat.mul_assoc]
        omega
      · rcases h3 with h3 | h3
        · subst h3
          simp [val] at h2
          omega
        · exact h3

theorem packed_ne_nil (y : Nat) : packed y ≠ [] := fun e => by have := packed_pos y; rw [e] at this; simp at this

/-- No packed number begins there. -/
def noPacked (s : List Nat) : Prop := ∀ (y : Nat) (r : List Nat), y < 18446744073709551616 → packed y ++ r ≠ s

theorem no_short {l : List Nat} (h : bigs l) : noPacked l := by
  intro y r _ e
  obtain ⟨z, h1, _, _⟩ := peel l h y r [] (by simpa using e)
  exact packed_ne_nil z (List.append_eq_nil_iff.1 h1).1
theorem no_zero {l : List Nat} (h : bigs l) (hl : 0 < l.length) (s : List Nat) : noPacked (l ++ 0 :: s) := by
  intro y r _ e
  obtain ⟨z, h1, _, h3⟩ := peel l h y r _ e
  have hz : 1 ≤ z := by
    rcases h3 with h3 | h3
    · subst h3; simp at hl
    · exact h3
  by_cases hy : z < 128
  · rw [packed_small hy] at h1; simp at h1; omega
  · rw [packed_big (by omega)] at h1; simp at h1
theorem no_great {l : List Nat} (h : bigs l) (hl : l.length = 9) {c : Nat} (hc : 1 < c) (s : List Nat) : noPacked (l ++ c :: s) := by
  intro y r hy e
  obtain ⟨z, h1, h2, _⟩ := peel l h y r _ e
  rw [hl] at h2
  have hz : z ≤ 1 := by
    have : (128 : Nat) ^ 9 = 9223372036854775808 := by decide
    rw [this] at h2
    omega
  rw [packed_small (by omega)] at h1
  simp at h1
  omega
/-- The last byte. -/
theorem is_packed {l : List Nat} (h : bigs l) {c : Nat} (hc : c < 128) (h0 : l = [] ∨ 1 ≤ c) : packed (val (l ++ [c])) = l ++ [c] := by
  rw [val_snoc, Nat.mod_eq_of_lt hc, Nat.mul_comm]
  rw [packed_val l h c h0, packed_small hc]
theorem val_64 {l : List Nat} {c : Nat} (hc : c < 256) (hl : l.length ≤ 9) (h9 : l.length = 9 → c ≤ 1) : val (l ++ [c]) < 18446744073709551616 := by
  rw [val_snoc]
  have hv := val_lt l
  by_cases h : l.length = 9
  · rw [h] at hv ⊢
    have := h9 h
    have e : (128 : Nat) ^ 9 = 9223372036854775808 := by decide
    rw [e] at hv ⊢
    have : c % 128 ≤ 1 := by omega
    rcases (show c % 128 = 0 ∨ c % 128 = 1 by omega) with h | h <;> rw [h] <;> omega
  · have h1 := val_lt (l ++ [c])
    rw [val_snoc] at h1
    refine Nat.lt_of_lt_of_le h1 ?_
    refine Nat.le_trans (Nat.pow_le_pow_right (by omega) (show (l ++ [c]).length ≤ 9 by simp; omega)) (by decide)
theorem or_add (x c i : Nat) (h : x < 128 ^ i) : x ||| (c * 128 ^ i) = x + c * 128 ^ i := by
  have e : (128 : Nat) ^ i = 2 ^ (7 * i) := by rw [show (128 : Nat) = 2 ^ 7 by rfl, ← Nat.pow_mul]
  rw [e] at h ⊢
  rw [Nat.or_comm, Nat.mul_comm, Nat.add_comm]
  exact (Nat.two_pow_add_eq_or_of_lt h c).symm
end Go.Ours
