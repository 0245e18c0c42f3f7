/- The walk of consistorylaw20.ClockGrows: it returns true at every input. -/
import Derived.Test.YtdmgkgkhdkoojaaClock
import Derived.OpenShut
namespace Go.Proofs.Ytdmgkgkhdkoojaa
open Go.RowKit

theorem lim_bd (base top reg : Int) (hb : 1 ≤ base) (ht : 1 ≤ top) : 1 ≤ lim base top reg ∧ lim base top reg ≤ top := by
  unfold lim
  have h1 : (0:Int) < 2 ^ (min reg 10).toNat := Int.pow_pos (by omega)
  have := Int.mul_le_mul hb h1 (by omega) (by omega)
  omega
theorem lim_mono (base top reg : Int) (hb : 1 ≤ base) : lim base top reg ≤ lim base top (reg + 1) := by
  unfold lim
  have h2 : (2:Int) ^ (min reg 10).toNat ≤ 2 ^ (min (reg + 1) 10).toNat := by
    have : (2:Nat) ^ (min reg 10).toNat ≤ 2 ^ (min (reg+1) 10).toNat := Nat.pow_le_pow_right (by omega) (by omega)
    exact_mod_cast this
  have h1 : (0:Int) < 2 ^ (min reg 10).toNat := Int.pow_pos (by omega)
  have := Int.mul_le_mul_of_nonneg_left h2 (show 0 ≤ base by omega)
  omega
theorem lim_neg (base top : Int) : lim base top (-1) = lim base top 0 := rfl

theorem walkClockGrows (a0 : Int) (a1 : Int) (a2 : Int) (w : World) (_w0 : (Lit.int .i64 a0).wf = true) (_w1 : (Lit.int .i64 a1).wf = true) (w2 : (Lit.int .i64 a2).wf = true) :
    Calls Try.prog 3 #[.int .i64 a0, .int .i64 a1, .int .i64 a2] w fun e w' => e = .returned (.bool true) ∧ Below w.heap.size w w' := by
  have hb := lim_bd (hld a0) (hld a1) a2 (hld_bd _).1 (hld_bd _).1
  have hb1 := hb.1
  have hb2 : lim (hld a0) (hld a1) a2 ≤ 1000 := by have := (hld_bd a1).2; omega
  have hm := lim_mono (hld a0) (hld a1) a2 (hld_bd _).1
  have hn := lim_neg (hld a0) (hld a1)
  have hlo := (bounds_i64 w2).1
  clear hb w2
  by_cases h : 1000000 < a2
  all_goals
    go_enter Try.func3, Try.ntmps3
    go_wp2_with (first
      | (go_at_call 6; refine (wakes_c _).mono ?_; rintro e w' ⟨rfl, rfl⟩)
      | (go_at_call 7; refine (new_c _ _ _).mono ?_; rintro e w' ⟨rfl, rfl⟩)
      | (go_at_call 8; refine (limit_c _ (hld a0) (hld a1) _ _ (hld_bd _) (hld_bd _) (by simp) (by simp)).mono ?_; rintro e w' ⟨rfl, rfl⟩)
      | (go_at_call 12; refine (at_c _ 0 _ (by simp)).mono ?_; rintro e w' ⟨rfl, rfl⟩))
    all_goals go_ret
    all_goals exact ⟨rfl, ((Below.refl _ _).alloc (Nat.le_refl _) _).alloc (by simp) _⟩

end Go.Proofs.Ytdmgkgkhdkoojaa
