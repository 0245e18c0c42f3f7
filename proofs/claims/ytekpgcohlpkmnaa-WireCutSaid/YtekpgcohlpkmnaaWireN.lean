/- wire.need: nothing is needed, or it gives up: contracts. No condition. -/
import Derived.Test.YtekpgcohlpkmnaaNumsA
import Derived.Test.YtekpgcohlpkmnaaAbsX
set_option linter.unusedVariables false
set_option linter.unusedSimpArgs false
namespace Go.Proofs.Ytekpgcohlpkmnaa
open Go.Abs Go.RowKit Go.Ours

/-- What is given up with. -/
def chE (n : Int) : List PanicEntry := [{ v := .iface 57 (.int .i64 n), recovered := false }]
theorem need0_w (w : World) : Calls Try.prog 39 #[.int .i64 0] w fun e w' => e = .returned (.tuple #[]) ∧ w' = w := by
  go_enter Try.func39, Try.ntmps39
  go_wp2
  simp [bodyPost, results, Try.results39]
theorem needX_w (n : Int) (hn : ¬ n = 0) (w : World) : Calls Try.prog 39 #[.int .i64 n] w fun e w' => e = .panicked (chE n) ∧ w' = w := by
  go_enter Try.func39, Try.ntmps39
  go_wp2
  simp [chE, bodyPost]
theorem need0_c : ACall Try.prog 39 [.pv (.int .i64 0)] [] .undef [] [] := by
  intro X G w vals hsz hw0 hXd hx hR
  obtain ⟨v, rfl⟩ : ∃ v, vals = #[v] := by
    obtain ⟨l⟩ := vals
    match l, hsz with
    | [v], _ => exact ⟨v, rfl⟩
  have hv := hR.tmp 0
  have hp : PR (fp X G) w v (.int .i64 0) := hv.1.1
  have e0 : v = .int .i64 0 := by cases hp; rfl
  subst e0
  refine (need0_w w).mono fun e w' h => ?_
  obtain ⟨rfl, rfl⟩ := h
  have hf := hR.forget hXd.1 []
  refine ⟨_, _, rfl, hf.putu (d := 0) rfl (v := .tuple #[]), fun x h1 h2 => ?_, fun x b h1 h2 => ?_⟩
  · simp only
    rw [if_pos ⟨h2, h1⟩]
  · simp only at h2
    rw [if_neg (by omega)] at h2
    cases h2
theorem needX_c (n : Int) (hn : ¬ n = 0) : APan Try.prog 39 [.pv (.int .i64 n)] [] (chE n) := by
  intro X G w vals hsz hw0 hXd hx hR
  obtain ⟨v, rfl⟩ : ∃ v, vals = #[v] := by
    obtain ⟨l⟩ := vals
    match l, hsz with
    | [v], _ => exact ⟨v, rfl⟩
  have hv := hR.tmp 0
  have hp : PR (fp X G) w v (.int .i64 n) := hv.1.1
  have e0 : v = .int .i64 n := by cases hp; rfl
  subst e0
  refine (needX_w n hn w).mono fun e w' h => ?_
  obtain ⟨rfl, rfl⟩ := h
  refine ⟨_, rfl, hR.forget hXd.1 [], fun x h1 h2 => ?_, fun x b h1 h2 => ?_⟩
  · simp only
    rw [if_pos ⟨h2, h1⟩]
  · simp only at h2
    rw [if_neg (by omega)] at h2
    cases h2
end Go.Proofs.Ytekpgcohlpkmnaa
