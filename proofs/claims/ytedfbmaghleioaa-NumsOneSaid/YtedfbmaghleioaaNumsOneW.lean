/- The walk of consistorylaw01.NumsOne. -/
import Derived.Test.YtedfbmaghleioaaNumsG
import Derived.Test.YtedfbmaghleioaaLibArgs
set_option linter.unusedVariables false
set_option linter.unusedSimpArgs false
namespace Go.Proofs.Ytedfbmaghleioaa
open Go.RowKit Go.Ours

set_option maxHeartbeats 1000000 in
theorem walkNumsOne (a0 : Option Addr) (l0 c0 : Nat) (w : World) (k0 : Shp.Reads w (.slice (.int .u8)) [.slice a0 l0 c0]) :
     Calls Try.prog 5 #[.slice a0 l0 c0] w fun e w' => e = .returned (.bool true) ∧ Below w.heap.size w w' := by
  obtain ⟨l, hr, hx, hc, hcm, hn⟩ := rd_of_reads k0
  clear k0
  by_cases hq : 2000 < l0
  · have q : (2000 : Int) < (l0 : Int) := by omega
    clear hr hx hc hcm hn hq
    go_enter Try.func5, Try.ntmps5
    go_wp2_with (go_at_call 9; refine (wakes_c _).mono ?_; rintro e w1 ⟨rfl, hm1⟩)
    go_ret
    exact ⟨rfl, hm1.belowAll⟩
  · have q : ¬ ((2000 : Int) < (l0 : Int)) := by omega
    have HC : Hid (c0 ≤ maxLen) := hcm
    have HQ := Lib.hid hq
    clear hcm hq
    go_enter Try.func5, Try.ntmps5
    go_wp2_with (first
      | (go_at_call 9; refine (wakes_c _).mono ?_; rintro e w1 ⟨rfl, hm1⟩)
      | (go_at_call 15; refine (new_c _ _ _ _ _ (hr.modNone hm1) hn (by have := HQ.out; rw [hr.len]; omega) hx).mono ?_; rintro e w2 ⟨b, rfl, hb1, hb2, hR2, hm2⟩; unfold rptr))
    go_at_call 16
    obtain ⟨A, n, c, H1⟩ := hR2
    refine (packedAt_c _ _ _ _ _ _ _ H1).mono ?_
    have hm12 := hm1.trans hm2
    rintro e w3 (⟨x, r, hx64, hd, rfl, hR3, hm3⟩ | ⟨k, hk, rfl, -, hm3⟩)
    · have hmm : Mod none' w w3 := hm12.step hm3 (fun i hi hs => by simp only [just] at hs; have := hm1.size; omega)
      rw [List.drop_zero] at hd
      have hk1 := packed_pos x
      have hl : (packed x).length ≤ l0 := by rw [← hr.len, hd]; simp
      obtain ⟨ba, oa, rfl, -⟩ := hr.rng (by omega)
      have hR : Rd w3 (some ⟨ba, oa, none⟩) (packed x).length (packed x) := by
        have := (hr.modNone hmm).take hl
        rwa [hd, List.take_left] at this
      have q1 : ((packed x).length : Int) ≤ (l0 : Int) := by omega
      have q2 : (l0 : Int) ≤ (c0 : Int) := by omega
      have q3 : ((packed x).length : Int) ≤ (c0 : Int) := by omega
      have q4 : (packed x).length ≤ c0 := by omega
      have q5 : (l0 : Int) ≤ 2000 := by have := HQ.out; omega
      have q6 : (0 + (packed x).length) = (packed x).length := Nat.zero_add _
      rw [q6] at hR3
      have HX64 := Lib.hid hx64
      clear hr hx hc hn hb1 hb2 hd hl hk1 H1 hm3 hm12 hx64
      go_wp2_with (first
        | (go_at_call 10; refine (putPacked_c _ _ _ [] _ _ (Rd.nil _ _) (fun _ => ⟨rfl, rfl⟩) (by decide) HX64.out).mono ?_; rintro e w4 ⟨v4, rfl, ho4, hm4⟩; obtain ⟨A4, c4, rfl, hr4, -⟩ := ho4.form; have HR4 := hR3.modNone hm4)
        | (go_at_call 17; refine (at_c _ _ _ _ HR4).mono ?_; rintro e w5 ⟨rfl, rfl⟩)
        | (go_at_call 18; refine (same_c _ _ _ _ _ _ _ _ _ hr4 (hR.modNone hm4) (by have := packed_len64 x HX64.out; simp; omega)).mono ?_; rintro e w6 ⟨rfl, hm6⟩))
      go_ret
      exact ⟨rfl, ((hmm.trans hm4).trans hm6).belowAll⟩
    · have g : ((k == 0) = false) := by rcases hk with rfl | rfl <;> rfl
      have g' : ((k != 0) = true) := by rcases hk with rfl | rfl <;> rfl
      have HR3 : Rdr w3 b l 0 := ⟨A, n, c, H1.mod hm3⟩
      clear hr hx hc hn hb1 hb2 hk H1
      go_wp2_with (go_at_call 17; refine (at_c _ _ _ _ HR3).mono ?_; rintro e w4 ⟨rfl, rfl⟩)
      go_ret
      exact ⟨rfl, (hm12.trans hm3).belowAll⟩
end Go.Proofs.Ytedfbmaghleioaa
