/- The walks of fixed numbers: wide, PutFixed, the reference's Wide, Fixed, Join. -/
import Derived.Test.YtedfbmaghleioaaNumsG
set_option linter.unusedVariables false
set_option linter.unusedSimpArgs false
namespace Go.Proofs.Ytedfbmaghleioaa
open Go.RowKit Go.Ours

def wideB (n : Int) : Bool := n == 1 || n == 2 || n == 4 || n == 8
theorem wideB_true {n : Int} (h : wideB n = true) : n = 1 ∨ n = 2 ∨ n = 4 ∨ n = 8 := by unfold wideB at h; simpa [or_assoc] using h
def fixedB (x n : Nat) : List Nat := (List.range n).map fun i => x / 256 ^ (n - 1 - i) % 256
def fixedL (x : Nat) (n : Int) : List Nat := if wideB n then fixedB x n.toNat else []

theorem wide_c (n : Int) (w : World) : Calls Try.prog 34 #[.int .i64 n] w fun e w' => e = .returned (.bool (wideB n)) ∧ w' = w := by
  by_cases h1 : n = 1
  · subst h1
    go_enter Try.func34, Try.ntmps34
    go_wp2
    go_ret
    exact ⟨rfl, rfl⟩
  · by_cases h2 : n = 2
    · subst h2
      go_enter Try.func34, Try.ntmps34
      go_wp2
      go_ret
      exact ⟨rfl, rfl⟩
    · by_cases h4 : n = 4
      · subst h4
        go_enter Try.func34, Try.ntmps34
        go_wp2
        go_ret
        exact ⟨rfl, rfl⟩
      · have q1 : (n == 1) = false := by simpa using h1
        have q2 : (n == 2) = false := by simpa using h2
        have q4 : (n == 4) = false := by simpa using h4
        have e : wideB n = (n == 8) := by unfold wideB; rw [q1, q2, q4]; rfl
        rw [e]
        clear e h1 h2 h4
        go_enter Try.func34, Try.ntmps34
        go_wp2
        go_ret
        exact ⟨rfl, rfl⟩
theorem refWide_c (n : Int) (w : World) : Calls Try.prog 22 #[.int .i64 n] w fun e w' => e = .returned (.bool (wideB n)) ∧ w' = w := by
  by_cases h1 : n = 1
  · subst h1
    go_enter Try.func22, Try.ntmps22
    go_wp2
    go_ret
    exact ⟨rfl, rfl⟩
  · by_cases h2 : n = 2
    · subst h2
      go_enter Try.func22, Try.ntmps22
      go_wp2
      go_ret
      exact ⟨rfl, rfl⟩
    · by_cases h4 : n = 4
      · subst h4
        go_enter Try.func22, Try.ntmps22
        go_wp2
        go_ret
        exact ⟨rfl, rfl⟩
      · have q1 : (n == 1) = false := by simpa using h1
        have q2 : (n == 2) = false := by simpa using h2
        have q4 : (n == 4) = false := by simpa using h4
        have e : wideB n = (n == 8) := by unfold wideB; rw [q1, q2, q4]; rfl
        rw [e]
        clear e h1 h2 h4
        go_enter Try.func22, Try.ntmps22
        go_wp2
        go_ret
        exact ⟨rfl, rfl⟩

set_option maxHeartbeats 400000 in
theorem join_c (A : Option Addr) (n c : Nat) (l : List Nat) (A' : Option Addr) (n' c' : Nat) (l' : List Nat) (w : World) (h : Rd w A n l) (h' : Rd w A' n' l') (hb : l.length ≤ 1000000000) (hb' : l'.length ≤ 1000000000) :
    Calls Try.prog 20 #[.slice A n c, .slice A' n' c'] w (RetOw w (l ++ l')) := by
  have ho := Ow.nil 5 w.heap.size w
  go_enter Try.func20, Try.ntmps20
  go_wp2_with (first
    | (at_builtin; refine wpList_app byte_slice byte_info rfl _ _ rfl ho h rfl rfl (by simp; omega) (Nat.le_refl _) ?_; intro v1 w1 h1; have m1 := h1.still ho (Nat.le_refl _) (Mod.refl _ _); have ho1 := h1.own; clear h1 h)
    | (at_builtin; refine wpList_app byte_slice byte_info rfl _ _ rfl ho1 (h'.modNone m1) rfl rfl (by simp; omega) m1.size ?_; intro v2 w2 h2))
  go_ret
  exact ⟨_, rfl, by simpa using h2.own, h2.still ho1 (Nat.le_refl _) m1⟩

theorem pow256 (m : Nat) : (2 : Nat) ^ (8 * m) = 256 ^ m := by rw [Nat.pow_mul]
theorem shr256 (x m : Nat) : (x : Int) / 2 ^ (8 * m) % 256 = ((x / 256 ^ m % 256 : Nat) : Int) := by
  rw [← pow256, show ((2 : Int) ^ (8 * m)) = ((2 ^ (8 * m) : Nat) : Int) from (Int.natCast_pow 2 (8 * m)).symm]; rfl

def FR (w : World) (l : List Nat) (x n : Nat) (s v : Value) (wr : World) : Prop :=
  ∃ k : Nat, k ≤ n ∧ v = .int .i64 k ∧ Ow 5 w.heap.size wr s (l ++ (fixedB x n).take k) ∧ Mod none' w wr
theorem fixed_len (x n : Nat) : (fixedB x n).length = n := by simp [fixedB]
theorem fixed_step (x n k : Nat) (h : k < n) : (fixedB x n).take (k + 1) = (fixedB x n).take k ++ [x / 256 ^ (n - 1 - k) % 256] := by
  rw [List.take_add_one]
  simp [fixedB, h]

set_option maxHeartbeats 400000 in
theorem putFixed_c (A : Option Addr) (m c : Nat) (l : List Nat) (x : Nat) (n : Int) (w : World) (h : Rd w A m l) (hn : A = none → m = 0 ∧ c = 0) (hb : l.length ≤ 1000000000) (hx : Hid (x < 18446744073709551616)) :
    Calls Try.prog 19 #[.slice A m c, .int .u64 (x : Nat), .int .i64 n] w (RetOw w (l ++ fixedL x n)) := by
  by_cases hw : wideB n = true
  · obtain ⟨j, rfl, hj, hj1⟩ : ∃ j : Nat, n = (j : Int) ∧ j ≤ 8 ∧ 1 ≤ j := by
      rcases wideB_true hw with rfl | rfl | rfl | rfl
      · exact ⟨1, rfl, by omega, by omega⟩
      · exact ⟨2, rfl, by omega, by omega⟩
      · exact ⟨4, rfl, by omega, by omega⟩
      · exact ⟨8, rfl, by omega, by omega⟩
    have e : fixedL x (j : Int) = fixedB x j := by unfold fixedL; rw [if_pos hw]; rfl
    rw [e]
    have j1 : (j : Int) ≤ 8 := by omega
    have j2 : (1 : Int) ≤ (j : Int) := by omega
    clear e
    go_enter Try.func19, Try.ntmps19
    go_wp2_with (first
      | (go_at_call 33; refine (clone_c _ _ _ _ _ h hn (by omega)).mono ?_; rintro e w1 ⟨v1, rfl, ho, hm⟩)
      | (go_at_call 34; refine (wide_c _ _).mono ?_; rintro e w2 ⟨rfl, rfl⟩))
    go_loopw [7, 16] (fun s v wr => FR w l x j s v wr) (fun _ s _ => j - (intOf s).toNat)
    case atStart => exact ⟨0, Nat.zero_le _, rfl, by simpa using ho, hm⟩
    case round =>
      obtain ⟨k, hk, rfl, ho', hm'⟩ := hrel
      by_cases hlt : k < j
      · have k1 : (k : Int) < (j : Int) := by omega
        have k0 : (0 : Int) ≤ (k : Int) := by omega
        have x0 : (0 : Int) ≤ (x : Int) := by omega
        have HK := Lib.hid hlt
        have HO := Lib.hid ho'
        have HM := Lib.hid hm'
        have HB := Lib.hid hb
        clear hlt hk ho' hm' ho hm h hn hb
        go_wp2_with (at_builtin; refine wpList_app byte_slice byte_info rfl _ _ rfl (HO.out.modNone (Mod.alloc none' _ _)) (Rd.one _ _ (x / 256 ^ (j - 1 - k) % 256) _ (shr256 _ _)) rfl rfl (by have := HB.out; have := HK.out; simp [fixed_len]; omega) (by have := HM.out.size; simp; omega) ?_; intro v2 w2 h2)
        have a1 := HK.out
        exact ⟨⟨k + 1, by omega, by go_num, by rw [fixed_step x j k a1, ← List.append_assoc]; exact h2.own, h2.still (HO.out.modNone (Mod.alloc none' _ _)) (Nat.le_refl _) (HM.out.trans (Mod.alloc _ _ _))⟩, by simp [intOf]; omega⟩
      · have k1 : ¬ ((k : Int) < (j : Int)) := by omega
        have HK : Hid (k = j) := by show _ = _; omega
        have HO := Lib.hid ho'
        clear hlt hk ho' ho hm h hn hb
        go_wp2
        go_ret
        refine ⟨_, rfl, ?_, hm'⟩
        have := HO.out
        rw [HK.out, List.take_of_length_le (by rw [fixed_len]; exact Nat.le_refl _)] at this
        exact this
  · have hw' : wideB n = false := by simpa using hw
    have e : fixedL x n = [] := by unfold fixedL; rw [hw']; rfl
    rw [e, List.append_nil]
    clear hw e hx
    go_enter Try.func19, Try.ntmps19
    go_wp2_with (first
      | (go_at_call 33; refine (clone_c _ _ _ _ _ h hn (by omega)).mono ?_; rintro e w1 ⟨v1, rfl, ho, hm⟩)
      | (go_at_call 34; refine (wide_c _ _).mono ?_; rintro e w2 ⟨rfl, rfl⟩))
    go_ret
    exact ⟨_, rfl, ho, hm⟩
end Go.Proofs.Ytedfbmaghleioaa
