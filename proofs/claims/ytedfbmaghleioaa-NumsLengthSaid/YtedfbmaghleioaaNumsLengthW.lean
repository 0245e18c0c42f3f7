/- The walk of consistorylaw01.NumsLength. -/
import Derived.Test.YtedfbmaghleioaaNumsG
import Derived.OpenShut
set_option linter.unusedVariables false
set_option linter.unusedSimpArgs false
namespace Go.Proofs.Ytedfbmaghleioaa
open Go.RowKit Go.Ours

theorem packed_mono (x : Nat) : ∀ y, x ≤ y → (packed x).length ≤ (packed y).length := by
  induction x using Nat.strongRecOn with
  | _ x ih =>
    intro y h
    by_cases hx : x < 128
    · rw [packed_small hx]; exact packed_pos y
    · rw [packed_big (by omega), packed_big (x := y) (by omega)]
      have := ih (x / 128) (by omega) (y / 128) (by omega)
      simp; omega

theorem wrap_div {z : Nat} (hz : z < 18446744073709551616) : IntKind.u64.wrap ((z : Int) / 128) = (z : Int) / 128 := by simp [IntKind.wrap, IntKind.bits, IntKind.signed]; omega
theorem less_wrap {z : Nat} (hz : z < 18446744073709551616) (h : 128 ≤ z) : (intOf (Value.int IntKind.u64 (IntKind.u64.wrap (z / 128)))).toNat < (intOf (Value.int IntKind.u64 z)).toNat := by
  rw [wrap_div hz]; exact less_div z h

def LR (w : World) (x : Nat) (s v : Value) (wr : World) : Prop :=
  ∃ (z m : Nat), s = .int .i64 m ∧ v = .int .u64 z ∧ z < 18446744073709551616 ∧ m + (packed z).length = 1 + (packed x).length ∧ Mod none' w wr

theorem LR.next {w wr : World} {x z m : Nat} {s v : Int} (h : 128 ≤ z) (hz : Hid (z < 18446744073709551616)) (he : Hid (m + (packed z).length = 1 + (packed x).length)) (hm : Mod none' w wr) (hs : s = (m : Int) + 1) (hv : v = (z : Int) / 128) :
    LR w x (.int .i64 s) (.int .u64 v) wr := by
  have h2 := he.out
  have h3 := hz.out
  rw [packed_big h] at h2
  simp at h2
  exact ⟨z / 128, m + 1, by rw [hs]; rfl, by rw [hv]; rfl, by omega, by omega, hm⟩

set_option maxHeartbeats 1000000 in
theorem lengthLaw (x y : Nat) (w : World) (hx : Hid (x < 18446744073709551616)) (hy : Hid (y < 18446744073709551616)) :
    Calls Try.prog 3 #[.int .u64 (x : Nat), .int .u64 (y : Nat)] w fun e w' => e = .returned (.bool true) ∧ Below w.heap.size w w' := by
  go_enter Try.func3, Try.ntmps3
  go_wp2_with (first
    | (go_at_call 9; refine (wakes_c _).mono ?_; rintro e w1 ⟨rfl, hm1⟩)
    | (go_at_call 10; refine (putPacked_c _ _ _ [] _ _ (Rd.nil _ _) (fun _ => ⟨rfl, rfl⟩) (by decide) (by first | exact hx.out | exact hy.out)).mono ?_; rintro e w2 ⟨v2, rfl, ho2, hm2⟩; obtain ⟨A2, c2, rfl, -⟩ := ho2.form; clear ho2; replace hm1 := hm1.trans hm2; clear hm2))
  go_loopw [7, 8] (fun s v wr => LR w x s v wr) (fun _ s _ => (intOf s).toNat)
  case atStart => exact ⟨x, 1, rfl, rfl, hx.out, rfl, hm1⟩
  case round =>
    obtain ⟨z, m, rfl, rfl, hz, he, hm⟩ := hrel
    by_cases hlt : 128 ≤ z
    · have g1 : (128 : Int) ≤ (z : Int) := by omega
      have m0 : (0 : Int) ≤ (m : Int) := by omega
      have m1 : (m : Int) ≤ 1000 := by have := packed_len64 x hx.out; omega
      have z0 : (0 : Int) ≤ (z : Int) := by omega
      have HZ := Lib.hid hz
      have HE := Lib.hid he
      have HM := Lib.hid hm
      have HLT := Lib.hid hlt
      clear hz he hm hlt
      go_wp2
      exact ⟨LR.next HLT.out HZ HE HM.out rfl (wrap_div HZ.out), less_wrap HZ.out HLT.out⟩
    · have g1 : ¬ ((128 : Int) ≤ (z : Int)) := by omega
      have hmx : m = (packed x).length := by
        rw [packed_small (by omega)] at he
        simp at he
        omega
      have HM := Lib.hid hm
      have g3 : ((packed x).length : Int) ≤ 10 := by have := packed_len64 x hx.out; omega
      have g5 : ((packed x).length : Int) ≤ 1000 := by omega
      subst hmx
      by_cases hq : y < x
      · have g2 : (y : Int) < (x : Int) := by omega
        clear hz he hm hlt hq
        go_wp2
        go_ret
        exact ⟨rfl, HM.out.belowAll⟩
      · have g2 : ¬ ((y : Int) < (x : Int)) := by omega
        have g4 : ((packed x).length : Int) ≤ ((packed y).length : Int) := by have := packed_mono x y (by omega); omega
        clear hz he hm hlt hq
        go_wp2
        go_ret
        exact ⟨rfl, HM.out.belowAll⟩

theorem walkNumsLength (a0 : Int) (a1 : Int) (w : World) (w0 : (Lit.int .u64 a0).wf = true) (w1 : (Lit.int .u64 a1).wf = true) :
     Calls Try.prog 3 #[.int .u64 a0, .int .u64 a1] w fun e w' => e = .returned (.bool true) ∧ Below w.heap.size w w' := by
  have h0 := bounds_u64 w0
  have h1 := bounds_u64 w1
  obtain ⟨x, rfl⟩ := Int.eq_ofNat_of_zero_le h0.1
  obtain ⟨y, rfl⟩ := Int.eq_ofNat_of_zero_le h1.1
  exact lengthLaw x y w (by show _ < _; omega) (by show _ < _; omega)
end Go.Proofs.Ytedfbmaghleioaa
