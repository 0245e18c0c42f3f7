/- Plain laws on packed numbers: no program in sight. -/
import Derived.Test.YtlbfpnckoblppaaRows
set_option linter.unusedVariables false
set_option linter.unusedSimpArgs false
namespace Go.Ours

/-- The bytes of a packed number. -/
def packed (x : Nat) : List Nat := if h : x < 128 then [x] else (x % 128 + 128) :: packed (x / 128)
termination_by x
decreasing_by omega

theorem packed_small {x : Nat} (h : x < 128) : packed x = [x] := by rw [packed]; simp [h]
theorem packed_big {x : Nat} (h : 128 ≤ x) : packed x = (x % 128 + 128) :: packed (x / 128) := by rw [packed]; simp; omega
theorem packed_pos (x : Nat) : 1 ≤ (packed x).length := by
  by_cases h : x < 128
  · rw [packed_small h]; simp
  · rw [packed_big (by omega)]; simp
theorem packed_len : ∀ (k x : Nat), x < 128 ^ k → 1 ≤ k → (packed x).length ≤ k
  | 0, _, _, h => absurd h (by omega)
  | k + 1, x, hx, _ => by
    by_cases h : x < 128
    · rw [packed_small h]; simp
    · rw [packed_big (by omega)]
      have hk : 1 ≤ k := by
        rcases k with _ | k
        · simp at hx; omega
        · omega
      have : x / 128 < 128 ^ k := by rw [Nat.pow_succ] at hx; omega
      have := packed_len k (x / 128) this hk
      simp; omega
theorem packed_len64 (x : Nat) (h : x < 18446744073709551616) : (packed x).length ≤ 10 := packed_len 10 x (by omega) (by omega)
theorem packed_bytes (x : Nat) : ∀ b ∈ packed x, b < 256 := by
  induction x using Nat.strongRecOn with
  | _ x ih =>
    by_cases h : x < 128
    · rw [packed_small h]; intro b hb; simp at hb; omega
    · rw [packed_big (by omega)]
      intro b hb
      rcases List.mem_cons.1 hb with rfl | hb
      · omega
      · exact ih _ (by omega) b hb
end Go.Ours
