/- A slice of bytes that comes in reads as a list of bytes. -/
import Derived.Test.YtedfbmaghleioaaLibBytes
import Derived.Test.YtedfbmaghleioaaLibOpen
set_option linter.unusedVariables false
set_option linter.unusedSimpArgs false
namespace Go.Ours
open Go.RowKit

theorem list_of {n : Nat} {Q : Nat → Nat → Prop} (h : ∀ i, i < n → ∃ x, Q i x) : ∃ l : List Nat, l.length = n ∧ ∀ i x, l[i]? = some x → Q i x := by
  induction n with
  | zero => exact ⟨[], rfl, fun i x h => by simp at h⟩
  | succ n ih =>
    obtain ⟨l, h1, h2⟩ := ih (fun i hi => h i (by omega))
    obtain ⟨x, hx⟩ := h n (by omega)
    refine ⟨l ++ [x], by simp [h1], fun i y hy => ?_⟩
    by_cases hi : i < n
    · rw [List.getElem?_append_left (by omega)] at hy
      exact h2 i y hy
    · rw [List.getElem?_append_right (by omega)] at hy
      obtain ⟨hlt, _⟩ := List.getElem?_eq_some_iff.1 hy
      simp at hlt
      have : i = n := by omega
      subst this
      rw [h1] at hy
      simp at hy
      subst hy
      exact hx

theorem rd_of_reads {w : World} {A : Option Addr} {n c : Nat} (k : Shp.Reads w (.slice (.int .u8)) [.slice A n c]) :
    ∃ l, Rd w A n l ∧ (∀ x ∈ l, x < 256) ∧ n ≤ c ∧ c ≤ maxLen ∧ (A = none → n = 0 ∧ c = 0) := by
  obtain ⟨h1, h2, h3⟩ := len_of_reads k
  by_cases hn : n = 0
  · subst hn; exact ⟨[], Rd.nil _ _, by simp, h1, h2, h3⟩
  · cases A with
    | none => exact absurd (h3 rfl).1 hn
    | some a =>
      obtain ⟨b, o, rfl, _⟩ := elem_of_reads k (show 0 < Shp.size (.int .u8) by decide) (i := 0) (by omega)
      obtain ⟨l, hl, hr⟩ := list_of (n := n) (Q := fun i x => x < 256 ∧ w.cell? ⟨b, o + i, none⟩ = some (bv x)) (fun i hi => by
        obtain ⟨b', o', e, vs, hvl, hg, m, hm, hw⟩ := elem_of_reads k (show 0 < Shp.size (.int .u8) by decide) (i := i) (by omega)
        simp only [Go.Addr.mk.injEq, and_true] at e
        obtain ⟨rfl, rfl⟩ := e
        have h0 := hg 0 (by decide)
        rw [hm] at h0
        have hb := bounds_u8 hw
        refine ⟨m.toNat, by omega, ?_⟩
        have e : ((m.toNat : Nat) : Int) = m := by omega
        simpa [Shp.size, bv, e] using h0)
      refine ⟨l, ⟨hl, fun _ => ⟨b, o, rfl, fun i v hv => ?_⟩⟩, fun x hx => ?_, h1, h2, fun h => by cases h⟩
      · rw [bcells_get] at hv
        obtain ⟨x, hx, rfl⟩ := Option.map_eq_some_iff.1 hv
        exact (hr i x hx).2
      · obtain ⟨i, hi⟩ := List.getElem?_of_mem hx
        exact (hr i x hi).1

theorem Rd.take {w : World} {A : Option Addr} {n : Nat} {l : List Nat} (h : Rd w A n l) {k : Nat} (hk : k ≤ n) : Rd w A k (l.take k) := by
  refine ⟨by rw [List.length_take, h.len]; omega, fun h0 => ?_⟩
  obtain ⟨b, o, hA, hr⟩ := h.rng (by omega)
  refine ⟨b, o, hA, fun i v hv => hr i v ?_⟩
  rw [bcells_get, List.getElem?_take] at hv
  rw [bcells_get]
  split at hv
  · exact hv
  · simp at hv
theorem Rd.drop {w : World} {b o : Nat} {n : Nat} {l : List Nat} (h : Rd w (some ⟨b, o, none⟩) n l) {k : Nat} (_hk : k ≤ n) : Rd w (some ⟨b, o + k, none⟩) (n - k) (l.drop k) := by
  refine ⟨by rw [List.length_drop, h.len], fun h0 => ?_⟩
  obtain ⟨b', o', hA, hr⟩ := h.rng (by omega)
  cases hA
  refine ⟨b, o + k, rfl, fun i v hv => ?_⟩
  rw [bcells_get, List.getElem?_drop] at hv
  rw [Nat.add_assoc]
  exact hr (k + i) v (by rw [bcells_get]; exact hv)
end Go.Ours
