/- Plain laws on a digest's digits. -/
import Derived.Test.YtlmjhnlhgmabpaaRows
set_option linter.unusedVariables false
set_option linter.unusedSimpArgs false
namespace Go.Ours

/-- The digits of the first pieces. -/
def nibs : List Nat → List Nat
  | [] => []
  | b :: t => b / 16 :: b % 16 :: nibs t
def sumL (l : List Nat) : Nat := l.foldr (· + ·) 0
def left_ (l : List Nat) : Nat := 30 * l.length - sumL (nibs l)
def digs (l : List Nat) : List Nat := nibs l ++ [left_ l / 256 % 16, left_ l / 16 % 16, left_ l % 16]

theorem nibs_length (l : List Nat) : (nibs l).length = 2 * l.length := by
  induction l with
  | nil => rfl
  | cons b t ih => simp [nibs, ih]; omega
theorem nibs_inj : ∀ (l m : List Nat), l.length = m.length → nibs l = nibs m → l = m := by
  intro l
  induction l with
  | nil => intro m h _; exact (List.eq_nil_of_length_eq_zero (by simpa using h.symm)).symm
  | cons b t ih =>
    intro m h e
    cases m with
    | nil => simp at h
    | cons c u =>
      simp only [nibs, List.cons.injEq] at e
      rw [ih u (by simpa using h) e.2.2, show b = c by omega]
theorem sum_le (l : List Nat) (h : ∀ b ∈ l, b < 256) : sumL (nibs l) ≤ 30 * l.length := by
  induction l with
  | nil => simp [nibs, sumL]
  | cons b t ih =>
    have h1 := ih (fun x hx => h x (List.mem_cons_of_mem _ hx))
    have h2 := h b List.mem_cons_self
    simp only [nibs, sumL, List.foldr_cons, List.length_cons] at *
    omega

/-- If no place of a is below b's, and they are unlike, a's sum is greater. -/
theorem sum_lt : ∀ (a b : List Nat), a.length = b.length → (∀ i x y : Nat, a[i]? = some x → b[i]? = some y → y ≤ x) → sumL b ≤ sumL a ∧ (a ≠ b → sumL b < sumL a) := by
  intro a
  induction a with
  | nil => intro b h _; obtain rfl : b = [] := List.eq_nil_of_length_eq_zero (by simpa using h.symm); exact ⟨Nat.le_refl _, fun h => absurd rfl h⟩
  | cons x t ih =>
    intro b h hle
    cases b with
    | nil => simp at h
    | cons y u =>
      have h1 := ih u (by simpa using h) (fun i x y hx hy => hle (i + 1) x y (by simpa using hx) (by simpa using hy))
      have h0 := hle 0 x y rfl rfl
      simp only [sumL, List.foldr_cons] at *
      refine ⟨by omega, fun hn => ?_⟩
      by_cases hxy : x = y
      · subst hxy
        have := h1.2 (fun e => hn (by rw [e]))
        omega
      · omega
theorem digs_length (l : List Nat) : (digs l).length = 2 * l.length + 3 := by simp [digs, nibs_length]
/-- Of unlike pieces the digits are not all at or above the other's. -/
theorem digs_below (a b : List Nat) (ha : a.length = 16) (hb : b.length = 16) (ha8 : ∀ x ∈ a, x < 256) (hb8 : ∀ x ∈ b, x < 256) (hn : a ≠ b) : ∃ i x y : Nat, i < 35 ∧ (digs a)[i]? = some x ∧ (digs b)[i]? = some y ∧ x < y := by
  refine Classical.byContradiction fun hno => ?_
  have hle : ∀ i x y : Nat, (digs a)[i]? = some x → (digs b)[i]? = some y → y ≤ x := by
    intro i x y hx hy
    refine Classical.byContradiction fun h => hno ⟨i, x, y, ?_, hx, hy, by omega⟩
    have := (List.getElem?_eq_some_iff.1 hx).1
    rw [digs_length, ha] at this
    exact this
  have la := nibs_length a
  have lb := nibs_length b
  have h1 := (sum_lt (nibs a) (nibs b) (by omega) (fun i x y hx hy => hle i x y (by rw [digs, List.getElem?_append_left (List.getElem?_eq_some_iff.1 hx).1]; exact hx) (by rw [digs, List.getElem?_append_left (List.getElem?_eq_some_iff.1 hy).1]; exact hy))).2 (fun e => hn (nibs_inj a b (by omega) e))
  have h2 := sum_le b hb8
  have h3 := sum_le a ha8
  have c : ∀ j : Nat, j < 3 → ([left_ b / 256 % 16, left_ b / 16 % 16, left_ b % 16][j]?).getD 0 ≤ ([left_ a / 256 % 16, left_ a / 16 % 16, left_ a % 16][j]?).getD 0 := by
    intro j hj
    have e1 : (digs a)[32 + j]? = [left_ a / 256 % 16, left_ a / 16 % 16, left_ a % 16][j]? := by
      rw [digs, List.getElem?_append_right (by omega)]; congr 1; omega
    have e2 : (digs b)[32 + j]? = [left_ b / 256 % 16, left_ b / 16 % 16, left_ b % 16][j]? := by
      rw [digs, List.getElem?_append_right (by omega)]; congr 1; omega
    have k1 : j < [left_ a / 256 % 16, left_ a / 16 % 16, left_ a % 16].length := hj
    have k2 : j < [left_ b / 256 % 16, left_ b / 16 % 16, left_ b % 16].length := hj
    rw [List.getElem?_eq_getElem k1] at e1 ⊢
    rw [List.getElem?_eq_getElem k2] at e2 ⊢
    exact hle _ _ _ e1 e2
  have c0 := c 0 (by omega)
  have c1 := c 1 (by omega)
  have c2 := c 2 (by omega)
  simp at c0 c1 c2
  have ea : left_ a = 30 * a.length - sumL (nibs a) := rfl
  have eb : left_ b = 30 * b.length - sumL (nibs b) := rfl
  rw [ha] at ea h3
  rw [hb] at eb h2
  omega
end Go.Ours
