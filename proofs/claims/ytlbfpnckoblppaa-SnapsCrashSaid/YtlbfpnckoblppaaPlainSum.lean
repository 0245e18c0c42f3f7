/- A text's digest, in plain words. -/
import Derived.Test.YtlbfpnckoblppaaShaH
set_option linter.unusedVariables false
set_option linter.unusedSimpArgs false
namespace Go.Proofs.Ytlbfpnckoblppaa
open Go.Abs Go.RowKit Go.Ours

def run : Nat → List Int → List Nat → List Int
  | 0, s, _ => s
  | n + 1, s, t => run n (blk KW s (t.take 64)) (t.drop 64)
theorem blk_len (s : List Int) (b : List Nat) (hs : s.length = 8) : (blk KW s b).length = 8 := by
  have := Rn_len KW (W b 64) 64 0 s hs
  simp [blk, hs, this]
theorem run_len : ∀ (n : Nat) (s : List Int) (t : List Nat), s.length = 8 → (run n s t).length = 8
  | 0, s, t, h => h
  | n + 1, s, t, h => run_len n _ _ (blk_len s _ h)
theorem run_add : ∀ (n m : Nat) (s : List Int) (t r : List Nat), t.length = 64 * n → run (n + m) s (t ++ r) = run m (run n s t) r := by
  intro n
  induction n with
  | zero => intro m s t r h; obtain rfl : t = [] := List.eq_nil_of_length_eq_zero (by omega); simp [run]
  | succ n ih =>
    intro m s t r h
    rw [show n + 1 + m = (n + m) + 1 by omega]
    simp only [run]
    rw [List.take_append_of_le_length (by omega), List.drop_append_of_le_length (by omega)]
    exact ih m _ _ r (by rw [List.length_drop]; omega)
theorem fx_len (n x : Nat) : (fx n x).length = n := by simp [fx]
theorem pad_len (t : List Nat) (n : Nat) : (pad t n).length % 64 = 0 := by
  simp [pad, fx_len, padz]
  omega
theorem pad_app (t r : List Nat) (n k : Nat) (h : t.length = 64 * k) : pad (t ++ r) n = t ++ pad r n := by
  have : padz (t ++ r).length = padz r.length := by unfold padz; rw [List.length_append]; omega
  rw [List.length_append] at this
  simp [pad, this]
/-- A text's digest. -/
def shaF (t : List Nat) : List Nat := told (run ((pad t t.length).length / 64) s0W (pad t t.length))
theorem shaF_split (t r : List Nat) (k : Nat) (h : t.length = 64 * k) : shaF (t ++ r) = told (run ((pad r (t ++ r).length).length / 64) (run k s0W t) (pad r (t ++ r).length)) := by
  unfold shaF
  rw [pad_app t r _ k h]
  have e : (t ++ pad r (t ++ r).length).length / 64 = k + (pad r (t ++ r).length).length / 64 := by rw [List.length_append]; omega
  rw [e, run_add k _ _ _ _ h]
end Go.Proofs.Ytlbfpnckoblppaa
