/- Equality of arrays of whole numbers. No condition. -/
import Derived.Test.YtgnajpfackfcaaaPlainInt
set_option linter.unusedVariables false
set_option linter.unusedSimpArgs false
namespace Go.Abs
open Go.RowKit Go.Ours
@[simp] theorem kPV_kns (k : IntKind) (l : List Nat) : (kns k l).all (kPV k) = true := by simp [kns, kPV]
@[simp] theorem eqPVs_kns (k : IntKind) : ∀ (l m : List Nat), eqPVs (kns k l) (kns k m) = decide (l = m)
  | [], [] => by simp [kns, eqPVs]
  | [], _ :: _ => by simp [kns, eqPVs]
  | _ :: _, [] => by simp [kns, eqPVs]
  | a :: l, b :: m => by
    have := eqPVs_kns k l m
    simp only [kns, List.map_cons, eqPVs, eqPV] at this ⊢
    rw [this]
    by_cases h : a = b <;> by_cases h2 : l = m <;> simp [h, h2]
theorem krows_app (k : IntKind) (l m : List Nat) : krows k l ++ krows k m = krows k (l ++ m) := by simp [krows]
end Go.Abs
