/- The walk of consistorylaw20.ClockTicks: whatever ticks and resets come, the clock goes off where the document says, at every input. -/
import Derived.Test.YtdmgkgkhdkoojaaClock
import Derived.Test.YtdmgkgkhdkoojaaLibOpen
import Derived.Test.YtdmgkgkhdkoojaaLibMem
import Derived.Deep.QuietTactic
import Derived.BigQuiet
namespace Go.Proofs.Ytdmgkgkhdkoojaa
open Go.RowKit Go.Ours

/-- A clock in memory: its three cells, which may be written. -/
def ClkIn (w : World) (b : Nat) (base top n : Int) : Prop :=
  w.cell? ⟨b, 0, none⟩ = some (.int .i64 base) ∧ w.cell? ⟨b, 1, none⟩ = some (.int .i64 top) ∧ w.cell? ⟨b, 2, none⟩ = some (.int .i64 n) ∧ w.frozen? ⟨b, 2, none⟩ = false

theorem ClkIn.set {w : World} {b : Nat} {base top n : Int} (h : ClkIn w b base top n) (m : Int) : ClkIn (w.setCell ⟨b, 2, none⟩ (.int .i64 m)) b base top m := by
  obtain ⟨h0, h1, h2, h3⟩ := h
  unfold ClkIn
  go_simp
theorem ClkIn.drewN {w : World} {b : Nat} {base top n : Int} (h : ClkIn w b base top n) (k : Nat) : ClkIn (w.drewN k) b base top n := h
theorem ClkIn.alloc {w : World} {b : Nat} {base top n : Int} (h : ClkIn w b base top n) (hb : b < w.heap.size) (o : Obj) : ClkIn (w.alloc o) b base top n := by
  obtain ⟨h0, h1, h2, h3⟩ := h
  have m := Mod.alloc none' w o
  exact ⟨m.keepsNone h0, m.keepsNone h1, m.keepsNone h2, (m.frozen (p := ⟨b, 2, none⟩) hb (fun h => h)).trans h3⟩
theorem mod_set {w : World} {b : Nat} (v : Value) : Mod (just b) w (w.setCell ⟨b, 2, none⟩ v) := Mod.setIn (S := just b) rfl _ _

set_option maxHeartbeats 400000 in
theorem reset_c (b : Nat) (base top n : Int) (w : World) (h : ClkIn w b base top n) :
    Calls Try.prog 9 #[.pointer (some ⟨b, 0, none⟩)] w fun e w' => e = .returned (.tuple #[]) ∧ Mod (just b) w w' ∧ w'.heap.size = w.heap.size ∧ ClkIn w' b base top 0 := by
  have H := Lib.hid h
  obtain ⟨h0, h1, h2, h3⟩ := h
  go_enter Try.func9, Try.ntmps9
  go_wp2
  go_end0
  exact ⟨rfl, mod_set _, by simp, H.out.set 0⟩

set_option maxHeartbeats 400000 in
theorem tick_idle (b : Nat) (base top n reg : Int) (w : World) (h : ClkIn w b base top n) :
    Calls Try.prog 10 #[.pointer (some ⟨b, 0, none⟩), .int .i64 reg, .bool false] w fun e w' => e = .returned (.bool false) ∧ Mod (just b) w w' ∧ w'.heap.size = w.heap.size ∧ ClkIn w' b base top 0 := by
  have H := Lib.hid h
  obtain ⟨h0, h1, h2, h3⟩ := h
  go_enter Try.func10, Try.ntmps10
  go_wp2
  go_ret
  exact ⟨rfl, mod_set _, by simp, H.out.set 0⟩

def goesOff (base top n reg : Int) : Bool := decide (lim base top reg ≤ n + 1)

set_option maxHeartbeats 400000 in
theorem tick_busy (b : Nat) (base top n reg : Int) (w : World) (h : ClkIn w b base top n) (hb : 1 ≤ base ∧ base ≤ 1000) (ht : 1 ≤ top ∧ top ≤ 1000) (hn : 0 ≤ n ∧ n ≤ 100000) :
    Calls Try.prog 10 #[.pointer (some ⟨b, 0, none⟩), .int .i64 reg, .bool true] w fun e w' => e = .returned (.bool (goesOff base top n reg)) ∧ Mod (just b) w w' ∧ w'.heap.size = w.heap.size ∧ ClkIn w' b base top (if goesOff base top n reg then 0 else n + 1) := by
  have H := Lib.hid h
  obtain ⟨h0, h1, h2, h3⟩ := h
  have hn1 := hn.1
  have hn2 := hn.2
  clear hn
  have A0 : (w.setCell ⟨b, 2, none⟩ (.int .i64 (n + 1))).cell? ⟨b, 0, none⟩ = some (.int .i64 base) := (H.out.set _).1
  have A1 : (w.setCell ⟨b, 2, none⟩ (.int .i64 (n + 1))).cell? ⟨b, 1, none⟩ = some (.int .i64 top) := (H.out.set _).2.1
  by_cases hlt : n + 1 < lim base top reg
  · have hg : goesOff base top n reg = false := by unfold goesOff; simp; omega
    rw [hg]
    clear hg
    have hd : decide (n + 1 < lim base top reg) = true := by simpa using hlt
    go_enter Try.func10, Try.ntmps10
    go_wp2
    go_quiet ((go_at_call 8; exact Calls.quiet_of_same (P := Try.prog) ((limit_c b base top reg _ hb ht (by simpa using A0) (by simpa using A1)).mono fun _ _ h => ⟨h.1, h.2.symm⟩)))
    go_wp2
    go_ret
    refine ⟨rfl, ?_, ?_, ?_⟩
    · exact (mod_set _).trans (Mod.drewN _ _ _)
    · show ((w.setCell _ _).drewN _).heap.size = _; simp
    · exact (H.out.set _).drewN _
  · have hg : goesOff base top n reg = true := by unfold goesOff; simp; omega
    rw [hg]
    clear hg
    have hd : decide (n + 1 < lim base top reg) = false := by simpa using hlt
    go_enter Try.func10, Try.ntmps10
    go_wp2
    go_quiet ((go_at_call 8; exact Calls.quiet_of_same (P := Try.prog) ((limit_c b base top reg _ hb ht (by simpa using A0) (by simpa using A1)).mono fun _ _ h => ⟨h.1, h.2.symm⟩)))
    go_wp2
    go_ret
    refine ⟨rfl, ?_, ?_, ?_⟩
    · exact ((mod_set _).trans (Mod.drewN _ _ _)).trans (mod_set _)
    · simp
    · exact ((H.out.set _).set 0).drewN _

end Go.Proofs.Ytdmgkgkhdkoojaa
