/- The walks of package nums that put numbers, and of slices.Clone: what bytes they answer. -/
import Derived.Test.YtlbfpnckoblppaaLibBytes
import Derived.Lib.LazyBuf
set_option linter.unusedVariables false
set_option linter.unusedSimpArgs false
namespace Go.Proofs.Ytlbfpnckoblppaa
open Go.RowKit Go.Ours

theorem byte_info : (Try.prog.info? 5).map (fun i => (i.zero, i.size, i.bytes)) = some (some (.int .u8 0), 1, 1) := by kernel_rfl
theorem byte_slice : Try.prog.underlying 22 = some (.slice 5) := Try.underlying22

/-- The call answers a new slice that reads as l; of what was there nothing has turned. -/
def RetOw (w : World) (l : List Nat) (e : Ending) (w' : World) : Prop := ∃ v, e = .returned v ∧ Ow 5 w.heap.size w' v l ∧ Mod none' w w'

set_option maxHeartbeats 400000 in
theorem clone_c (A : Option Addr) (n c : Nat) (l : List Nat) (w : World) (h : Rd w A n l) (hn : A = none → n = 0 ∧ c = 0) (hb : l.length ≤ 10000000000) :
    Calls Try.prog 26 #[.slice A n c] w (RetOw w l) := by
  have hl := h.len
  cases A with
  | none =>
    obtain ⟨rfl, rfl⟩ := hn rfl
    have hl0 : l = [] := List.eq_nil_of_length_eq_zero hl
    subst hl0
    clear h hn
    have hq := fun (w : World) => run_eql_slice_nil (P := Try.prog) w 22 5 none 0 0 byte_slice
    go_enter Try.func26, Try.ntmps26
    go_wp2
    go_ret
    exact ⟨_, rfl, Ow.nil _ _ _, Mod.refl _ _⟩
  | some a =>
    have hq := fun (w : World) => run_eql_slice_nil (P := Try.prog) w 22 5 (some a) n c byte_slice
    have ho : Ow 5 w.heap.size (w.alloc (.cells #[] 5)) (.slice (some ⟨w.heap.size, 0, none⟩) 0 0) [] := World.ownsRow_made w #[] 0 (Nat.le_refl _) (by simp [maxLen]) rfl
    have m0 := Mod.alloc none' w (.cells #[] 5)
    have H := h.modNone m0
    clear hn h
    go_enter Try.func26, Try.ntmps26
    go_wp2_with (at_builtin; refine wpList_app byte_slice byte_info rfl _ _ rfl ho H rfl rfl (by simp; omega) (by simp) ?_; intro v1 w1 h1)
    go_ret
    exact ⟨_, rfl, by simpa using h1.own, h1.still ho (Nat.le_refl _) m0⟩
end Go.Proofs.Ytlbfpnckoblppaa
