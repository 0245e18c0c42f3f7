/- The walk of consistorylaw20.ClockNil: a clock that is not there counts nothing, at every input. -/
import Derived.Test.YtdmgkgkhdkoojaaClock
namespace Go.Proofs.Ytdmgkgkhdkoojaa
open Go.RowKit

set_option maxHeartbeats 400000 in
theorem limit_nil (reg : Int) (w : World) :
    Calls Try.prog 8 #[.pointer none, .int .i64 reg] w fun e w' => e = .returned (.int .i64 0) ∧ w = w' := by
  go_enter Try.func8, Try.ntmps8
  go_wp2
  go_ret
  exact ⟨rfl, rfl⟩
set_option maxHeartbeats 400000 in
theorem at_nil (w : World) :
    Calls Try.prog 12 #[.pointer none] w fun e w' => e = .returned (.int .i64 0) ∧ w = w' := by
  go_enter Try.func12, Try.ntmps12
  go_wp2
  go_ret
  exact ⟨rfl, rfl⟩
set_option maxHeartbeats 400000 in
theorem tick_nil (reg : Int) (b : Bool) (w : World) :
    Calls Try.prog 10 #[.pointer none, .int .i64 reg, .bool b] w fun e w' => e = .returned (.bool false) ∧ w = w' := by
  go_enter Try.func10, Try.ntmps10
  go_wp2
  go_ret
  exact ⟨rfl, rfl⟩
set_option maxHeartbeats 400000 in
theorem reset_nil (w : World) :
    Calls Try.prog 9 #[.pointer none] w fun e w' => e = .returned (.tuple #[]) ∧ w = w' := by
  go_enter Try.func9, Try.ntmps9
  go_wp2
  go_end0
  exact ⟨rfl, rfl⟩

set_option maxHeartbeats 400000 in
theorem walkClockNil (a0 : Int) (a1 : Bool) (w : World) (_w0 : (Lit.int .i64 a0).wf = true) :
    Calls Try.prog 5 #[.int .i64 a0, .bool a1] w fun e w' => e = .returned (.bool true) ∧ Below w.heap.size w w' := by
  go_enter Try.func5, Try.ntmps5
  go_wp2_with (first
    | (go_at_call 9; refine (reset_nil _).mono ?_; rintro e w' ⟨rfl, rfl⟩)
    | (go_at_call 6; refine (wakes_c _).mono ?_; rintro e w' ⟨rfl, rfl⟩)
    | (go_at_call 8; refine (limit_nil _ _).mono ?_; rintro e w' ⟨rfl, rfl⟩)
    | (go_at_call 10; refine (tick_nil _ _ _).mono ?_; rintro e w' ⟨rfl, rfl⟩)
    | (go_at_call 12; refine (at_nil _).mono ?_; rintro e w' ⟨rfl, rfl⟩))
  all_goals go_ret
  all_goals exact ⟨rfl, (Below.refl _ _).alloc (Nat.le_refl _) _⟩
end Go.Proofs.Ytdmgkgkhdkoojaa
