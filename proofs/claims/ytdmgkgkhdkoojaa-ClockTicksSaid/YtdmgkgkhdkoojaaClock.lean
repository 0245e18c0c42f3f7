/- The walks of package clock, its reference, and the law's example: what each call computes, at every input. -/
import Derived.Test.YtdmgkgkhdkoojaaRows
import Derived.WalkKit
import Derived.WalkSpells
import Derived.WalkLawsBesides
import Derived.Lib.Hide
namespace Go.Proofs.Ytdmgkgkhdkoojaa
open Go.RowKit

def hld (n : Int) : Int := max 1 (min n 1000)
def lim (base top reg : Int) : Int := min (base * 2 ^ (min reg 10).toNat) top

theorem ret_int {k : IntKind} {a b : Int} (h : a = b) : Ending.returned (.int k a) = .returned (.int k b) := by rw [h]

set_option maxHeartbeats 400000 in
theorem held_c (n : Int) (w : World) :
    Calls Try.prog 13 #[.int .i64 n] w fun e w' => e = .returned (.int .i64 (hld n)) ∧ w = w' := by
  go_enter Try.func13, Try.ntmps13
  go_wp2
  all_goals go_ret
  all_goals exact ⟨ret_int (by unfold hld; omega), rfl⟩
set_option maxHeartbeats 400000 in
theorem held_r (n : Int) (w : World) :
    Calls Try.prog 14 #[.int .i64 n] w fun e w' => e = .returned (.int .i64 (hld n)) ∧ w = w' := by
  go_enter Try.func14, Try.ntmps14
  go_wp2
  all_goals go_ret
  all_goals exact ⟨ret_int (by unfold hld; omega), rfl⟩

set_option maxHeartbeats 400000 in
theorem new_c (n m : Int) (w : World) :
    Calls Try.prog 7 #[.int .i64 n, .int .i64 m] w fun e w' => e = .returned (.pointer (some ⟨w.heap.size, 0, none⟩)) ∧ 
      w' = w.alloc (.cells #[.int .i64 (hld n), .int .i64 (hld m), .int .i64 0] 35) := by
  go_enter Try.func7, Try.ntmps7
  go_wp2_with (go_at_call 13; refine (held_c _ _).mono ?_; rintro e w' ⟨rfl, rfl⟩)
  go_ret
  exact ⟨rfl, rfl⟩

theorem pow_step (base : Int) (k : Nat) (hk : k ≤ 10) (hb : 1 ≤ base ∧ base ≤ 1000) : 
   1 ≤ base * 2 ^ k ∧ base * 2 ^ k ≤ 1024000 ∧ base * 2 ^ (k+1) = base * 2 ^ k * 2 := by
  have h1 : (0:Int) < 2 ^ k := Int.pow_pos (by omega)
  have h2 : (2:Int) ^ k ≤ 2 ^ 10 := by
    have : (2:Nat) ^ k ≤ 2 ^ 10 := Nat.pow_le_pow_right (by omega) hk
    exact_mod_cast this
  refine ⟨?_, ?_, by rw [Int.pow_succ, Int.mul_assoc]⟩
  · have := Int.mul_le_mul hb.1 h1 (by omega) (by omega)
    omega
  · have := Int.mul_le_mul hb.2 h2 (by omega) (by omega)
    omega

def cnt (reg : Int) : Nat := (min reg 10).toNat
theorem cnt_max (reg : Int) (m : Nat) (h : cnt reg = m) : (if 0 < (if 10 < reg then 10 else reg) then (if 10 < reg then 10 else reg) else 0) = (m : Int) := by
  unfold cnt at h; omega

set_option maxHeartbeats 400000 in
theorem limit_c (b : Nat) (base top reg : Int) (w : World) (hb : 1 ≤ base ∧ base ≤ 1000) (_ht : 1 ≤ top ∧ top ≤ 1000)
    (h0 : w.cell? ⟨b, 0, none⟩ = some (.int .i64 base)) (h1 : w.cell? ⟨b, 1, none⟩ = some (.int .i64 top)) :
    Calls Try.prog 8 #[.pointer (some ⟨b, 0, none⟩), .int .i64 reg] w fun e w' => e = .returned (.int .i64 (lim base top reg)) ∧ w = w' := by
  obtain ⟨m, hm⟩ : ∃ m : Nat, cnt reg = m := ⟨_, rfl⟩
  have HL : Hid (lim base top reg = min (base * 2 ^ m) top) := by show lim _ _ _ = _; unfold lim; rw [← hm]; rfl
  have hm10 : m ≤ 10 := by unfold cnt at hm; omega
  have hcase : (10 < reg ∧ m = 10) ∨ (reg ≤ 10 ∧ 0 < reg ∧ m = reg) ∨ (reg ≤ 10 ∧ reg ≤ 0 ∧ m = 0) := by unfold cnt at hm; omega
  clear hm
  have hcase' : ∃ q : Int, q = m ∧ ((10 < reg ∧ q = 10) ∨ (reg ≤ 10 ∧ 0 < reg ∧ q = reg) ∨ (reg ≤ 10 ∧ reg ≤ 0 ∧ q = 0)) := ⟨m, rfl, by omega⟩
  clear hcase
  obtain ⟨q, hq, hcase⟩ := hcase'
  have HQ := Lib.hid hq
  clear hq
  rcases hcase with ⟨h2, rfl⟩ | ⟨h2, h3, rfl⟩ | ⟨h2, h3, rfl⟩
  all_goals
    go_enter Try.func8, Try.ntmps8
    go_wp2
    go_loop [5, 15] (fun x i => ∃ k : Nat, k ≤ m ∧ i = .int .i64 k ∧ x = .int .i64 (base * 2 ^ k)) (fun _ i => m - (intOf i).toNat)
    case atStart => exact ⟨0, by omega, rfl, by simp⟩
    case round =>
      obtain ⟨k, hk, rfl, rfl⟩ := hrel
      have hp := pow_step base k (by omega) hb
      have HP := Lib.hid hp.2.2
      have hp1 := hp.1
      have hp2 := hp.2.1
      clear hp
      obtain ⟨x, hx⟩ : ∃ x, base * 2 ^ k = x := ⟨_, rfl⟩
      rw [hx] at hp1 hp2 HP ⊢
      by_cases hlt : k < m
      · have hlt1 : (k : Int) < (m : Int) := by omega
        rw [← HQ.out] at hlt1
        have HX := Lib.hid hx
        clear hx
        first
        | omega
        | (go_wp2
           exact ⟨⟨k + 1, by omega, by go_num, by rw [HP.out]⟩, by simp [intOf]; omega⟩)
      · have hlt1 : (m : Int) ≤ (k : Int) := by omega
        rw [← HQ.out] at hlt1
        have hkm : k = m := by omega
        rw [hkm] at hx
        have HX := Lib.hid hx
        clear hx hkm
        go_wp2
        all_goals go_ret
        all_goals exact ⟨ret_int (by rw [HL.out, HX.out]; omega), rfl⟩

set_option maxHeartbeats 400000 in
theorem limit_r (base top reg : Int) (w : World) (hb : 1 ≤ hld base ∧ hld base ≤ 1000) :
    Calls Try.prog 11 #[.int .i64 base, .int .i64 top, .int .i64 reg] w fun e w' => e = .returned (.int .i64 (lim (hld base) (hld top) reg)) ∧ w = w' := by
  obtain ⟨m, hm⟩ : ∃ m : Nat, cnt reg = m := ⟨_, rfl⟩
  have HL : Hid (lim (hld base) (hld top) reg = min (hld base * 2 ^ m) (hld top)) := by show lim _ _ _ = _; unfold lim; rw [← hm]; rfl
  have hm10 : m ≤ 10 := by unfold cnt at hm; omega
  have hcase : ∀ k : Nat, k ≤ m → (k < m ∧ (k : Int) < reg ∧ (k : Int) < 10) ∨ (k = m ∧ (k : Int) < reg ∧ 10 ≤ (k : Int)) ∨ (k = m ∧ reg ≤ (k : Int)) := by unfold cnt at hm; omega
  have HC := Lib.hid hcase
  clear hcase hm
  go_enter Try.func11, Try.ntmps11
  go_wp2_with (go_at_call 14; refine (held_r _ _).mono ?_; rintro e w' ⟨rfl, rfl⟩)
  obtain ⟨bb, hbb⟩ : ∃ x, hld base = x := ⟨_, rfl⟩
  rw [hbb] at hb ⊢
  have HB := Lib.hid hbb
  clear hbb
  go_loop [7, 8] (fun x i => ∃ k : Nat, k ≤ m ∧ i = .int .i64 k ∧ x = .int .i64 (bb * 2 ^ k)) (fun _ i => m - (intOf i).toNat)
  case atStart => exact ⟨0, by omega, rfl, by simp⟩
  case round =>
    obtain ⟨k, hk, rfl, rfl⟩ := hrel
    have hp := pow_step bb k (by omega) hb
    have HP := Lib.hid hp.2.2
    have hp1 := hp.1
    have hp2 := hp.2.1
    clear hp
    have hk' := HC.out k hk
    rcases hk' with ⟨hlt, h1, h2⟩ | ⟨hlt, h1, h2⟩ | ⟨hlt, h1⟩
    · obtain ⟨x, hx⟩ : ∃ x, bb * 2 ^ k = x := ⟨_, rfl⟩
      rw [hx] at hp1 hp2 HP ⊢
      have HX := Lib.hid hx
      clear hx
      go_wp2
      exact ⟨⟨k + 1, by omega, by go_num, by rw [HP.out, Int.mul_comm]⟩, by simp [intOf]; omega⟩
    all_goals
      rw [hlt] at h1 hp1 hp2 HP ⊢
      obtain ⟨x, hx⟩ : ∃ x, bb * 2 ^ m = x := ⟨_, rfl⟩
      rw [hx] at hp1 hp2 HP ⊢
      have HX := Lib.hid hx
      clear hx hlt
      go_wp2_with (go_at_call 14; refine (held_r _ _).mono ?_; rintro e w' ⟨rfl, rfl⟩)
      all_goals go_ret
      all_goals exact ⟨ret_int (by rw [HL.out, HB.out, HX.out]; omega), rfl⟩

set_option maxHeartbeats 400000 in
theorem at_c (b : Nat) (n : Int) (w : World) (h2 : w.cell? ⟨b, 2, none⟩ = some (.int .i64 n)) :
    Calls Try.prog 12 #[.pointer (some ⟨b, 0, none⟩)] w fun e w' => e = .returned (.int .i64 n) ∧ w = w' := by
  go_enter Try.func12, Try.ntmps12
  go_wp2
  go_ret
  exact ⟨rfl, rfl⟩

theorem hld_bd (n : Int) : 1 ≤ hld n ∧ hld n ≤ 1000 := by unfold hld; omega

set_option maxHeartbeats 400000 in
theorem wakes_c (w : World) :
    Calls Try.prog 6 #[] w fun e w' => e = .returned (.bool true) ∧ w' = w.alloc (.cells #[.int .i64 (hld 3), .int .i64 (hld 20), .int .i64 0] 35) := by
  have l1 : lim (hld 3) (hld 20) 2 = 12 := by decide
  have l2 : lim (hld 3) (hld 20) 5 = 20 := by decide
  go_enter Try.func6, Try.ntmps6
  go_wp2_with (first 
    | (go_at_call 7; refine (new_c _ _ _).mono ?_; rintro e w' ⟨rfl, rfl⟩)
    | (go_at_call 8; refine (limit_c _ (hld 3) (hld 20) _ _ (hld_bd _) (hld_bd _) (by simp) (by simp)).mono ?_; rintro e w' ⟨rfl, rfl⟩)
    | (go_at_call 12; refine (at_c _ 0 _ (by simp)).mono ?_; rintro e w' ⟨rfl, rfl⟩))
  all_goals go_ret
  all_goals exact ⟨rfl, rfl⟩
end Go.Proofs.Ytdmgkgkhdkoojaa
