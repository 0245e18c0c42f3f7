/- The walk of consistorylaw01.NumsFold. -/
import Derived.Test.YtedfbmaghleioaaNumsG
import Derived.OpenShut
set_option linter.unusedVariables false
set_option linter.unusedSimpArgs false
namespace Go.Proofs.Ytedfbmaghleioaa
open Go.RowKit Go.Ours

theorem foldN_lt (x : Int) (hx : -9223372036854775808 ≤ x ∧ x ≤ 9223372036854775807) : foldN x < 18446744073709551616 := by unfold foldN; split <;> omega
theorem unfold_fold (x : Int) : unfoldN (foldN x) = x := by unfold unfoldN foldN; split <;> split <;> omega
theorem fold_unfold (y : Nat) : foldN (unfoldN y) = y := by unfold unfoldN foldN; split <;> split <;> omega
theorem unfoldN_in (y : Nat) (h : y < 18446744073709551616) : -9223372036854775808 ≤ unfoldN y ∧ unfoldN y ≤ 9223372036854775807 := by unfold unfoldN; split <;> omega

attribute [local irreducible] foldN unfoldN in
set_option maxHeartbeats 1000000 in
theorem foldLaw (x : Int) (y : Nat) (w : World) (hx : Hid (-9223372036854775808 ≤ x ∧ x ≤ 9223372036854775807)) (hy : Hid (y < 18446744073709551616)) :
    Calls Try.prog 4 #[.int .i64 x, .int .u64 (y : Nat)] w fun e w' => e = .returned (.bool true) ∧ Below w.heap.size w w' := by
  have e1 := unfold_fold x
  have e2 := fold_unfold y
  go_enter Try.func4, Try.ntmps4
  go_wp2_with (first
    | (go_at_call 9; refine (wakes_c _).mono ?_; rintro e w1 ⟨rfl, hm⟩)
    | (go_at_call 11; refine (fold_c _ _ (by first | exact hx.out | exact unfoldN_in y hy.out)).mono ?_; rintro e w' ⟨rfl, rfl⟩)
    | (go_at_call 12; refine (refFold_c _ _ hx.out).mono ?_; rintro e w' ⟨rfl, rfl⟩)
    | (go_at_call 13; refine (unfold_c _ _ (by first | exact hy.out | exact foldN_lt x hx.out)).mono ?_; rintro e w' ⟨rfl, rfl⟩)
    | (go_at_call 14; refine (refUnfold_c _ _ hy.out).mono ?_; rintro e w' ⟨rfl, rfl⟩))
  go_ret
  exact ⟨rfl, hm.belowAll⟩

theorem walkNumsFold (a0 : Int) (a1 : Int) (w : World) (w0 : (Lit.int .i64 a0).wf = true) (w1 : (Lit.int .u64 a1).wf = true) :
     Calls Try.prog 4 #[.int .i64 a0, .int .u64 a1] w fun e w' => e = .returned (.bool true) ∧ Below w.heap.size w w' := by
  have h1 := bounds_u64 w1
  obtain ⟨y, rfl⟩ := Int.eq_ofNat_of_zero_le h1.1
  exact foldLaw a0 y w (bounds_i64 w0) (by show _ < _; omega)
end Go.Proofs.Ytedfbmaghleioaa
