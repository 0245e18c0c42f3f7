/- The walks of a reader's At, Left, Done; of the example (wakes). -/
import Derived.Test.YtedfbmaghleioaaNumsF
set_option linter.unusedVariables false
set_option linter.unusedSimpArgs false
namespace Go.Proofs.Ytedfbmaghleioaa
open Go.RowKit Go.Ours

theorem packed_inj : ∀ (x y : Nat) (r s : List Nat), packed x ++ r = packed y ++ s → x = y ∧ r = s := by
  intro x
  induction x using Nat.strongRecOn with
  | _ x ih =>
    intro y r s h
    by_cases hx : x < 128
    · by_cases hy : y < 128
      · rw [packed_small hx, packed_small hy] at h
        simpa using h
      · rw [packed_small hx, packed_big (by omega)] at h
        simp at h
        omega
    · by_cases hy : y < 128
      · rw [packed_big (by omega), packed_small hy] at h
        simp at h
        omega
      · rw [packed_big (by omega), packed_big (x := y) (by omega)] at h
        simp only [List.cons_append, List.cons.injEq] at h
        obtain ⟨h1, h2⟩ := ih (x / 128) (by omega) _ _ _ h.2
        exact ⟨by omega, h2⟩

theorem PackedR.known {w W : World} {b : Nat} {l r : List Nat} {at_ y : Nat} {e : Ending} (h : PackedR w b l at_ e W) (he : l.drop at_ = packed y ++ r) (hy : y < 18446744073709551616) :
    e = .returned (.tuple #[.int .u64 (y : Nat), .int .i64 0]) ∧ Rdr W b l (at_ + (packed y).length) ∧ Mod (just b) w W := by
  rcases h with ⟨x, r', hx, h1, h2, h3, h4⟩ | ⟨k, _, _, h, _⟩
  · obtain ⟨rfl, _⟩ := packed_inj _ _ _ _ (h1.symm.trans he)
    exact ⟨h2, h3, h4⟩
  · exact absurd he.symm (h y r hy)

set_option maxHeartbeats 400000 in
theorem at_c (b : Nat) (l : List Nat) (at_ : Nat) (w : World) (h : Rdr w b l at_) :
    Calls Try.prog 17 #[rptr b] w fun e w' => e = .returned (.int .i64 at_) ∧ w' = w := by
  obtain ⟨A, n, c, H⟩ := h
  have c1 := H.c1
  unfold rptr
  go_enter Try.func17, Try.ntmps17
  go_wp2
  go_ret
  exact ⟨rfl, rfl⟩
set_option maxHeartbeats 400000 in
theorem left_c (b : Nat) (l : List Nat) (at_ : Nat) (w : World) (h : Rdr w b l at_) :
    Calls Try.prog 32 #[rptr b] w fun e w' => e = .returned (.int .i64 ((l.length : Int) - at_)) ∧ Mod none' w w' := by
  obtain ⟨A, n, c, H⟩ := h
  have c0 := H.c0
  have c1 := H.c1
  have q1 : (n : Int) ≤ 1000000000 := by have := H.small; omega
  have q2 : (at_ : Int) ≤ (n : Int) := by have := H.le; omega
  have q3 : (0 : Int) ≤ (at_ : Int) := by omega
  rw [H.rd.len]
  clear H
  unfold rptr
  go_enter Try.func32, Try.ntmps32
  go_wp2_with (fail)
  go_quiet (fail)
  go_wp2
  go_ret
  exact ⟨rfl, Mod.drewN _ _ _⟩
set_option maxHeartbeats 400000 in
theorem done_c (b : Nat) (l : List Nat) (at_ : Nat) (w : World) (h : Rdr w b l at_) :
    Calls Try.prog 31 #[rptr b] w fun e w' => e = .returned (.int .i64 (if at_ < l.length then 2 else 0)) ∧ Mod none' w w' := by
  by_cases hq : at_ < l.length
  · rw [if_pos hq]
    have q : (0 : Int) < (l.length : Int) - at_ := by omega
    clear hq
    have hrel := left_c b l at_ w h
    unfold rptr at *
    go_enter Try.func31, Try.ntmps31
    go_wp2_with (go_at_call 32; refine hrel.mono ?_; rintro e w1 ⟨rfl, hm⟩)
    go_ret
    exact ⟨rfl, hm⟩
  · rw [if_neg hq]
    have q : ¬ ((0 : Int) < (l.length : Int) - at_) := by omega
    clear hq
    have hrel := left_c b l at_ w h
    unfold rptr at *
    go_enter Try.func31, Try.ntmps31
    go_wp2_with (go_at_call 32; refine hrel.mono ?_; rintro e w1 ⟨rfl, hm⟩)
    go_ret
    exact ⟨rfl, hm⟩

theorem packed_300 : packed 300 = [172, 2] := by rw [packed_big (by omega), packed_small (by omega)]
theorem Rd.two (w : World) (E : TypeId) : Rd (w.alloc (.cells #[.int .u8 172, .int .u8 2] E)) (some ⟨w.heap.size, 0, none⟩) 2 [172, 2] :=
  ⟨rfl, fun _ => ⟨_, _, rfl, rangeAt_cons (by simp [bv]) (rangeAt_cons (by simp [bv]) (rangeAt_nil _ _ _))⟩⟩

set_option maxRecDepth 4000 in
set_option maxHeartbeats 1000000 in
theorem wakes_c (w : World) : Calls Try.prog 9 #[] w fun e w' => e = .returned (.bool true) ∧ Mod none' w w' := by
  have R0 := Rd.two w 5
  have F5 : foldN (-3) = 5 := by unfold foldN; decide
  have HP := Lib.hid packed_300
  go_enter Try.func9, Try.ntmps9
  go_wp2_with (first
    | (go_at_call 15; refine (new_c _ _ _ _ _ R0 (fun h => by cases h) (by decide) (by decide)).mono ?_; rintro e w1 ⟨b, rfl, hb1, hb2, hR1, hm1⟩; unfold rptr)
    | (go_at_call 16; obtain ⟨A, n, c, H1⟩ := hR1; refine (packedAt_c _ _ _ _ _ _ _ H1).mono ?_; intro e w2 h2; obtain ⟨rfl, hR2, hm2⟩ := h2.known (y := 300) (r := []) (by rw [HP.out]; rfl) (by decide); clear h2)
    | (go_at_call 10; refine (putPacked_c _ _ _ [] _ _ (Rd.nil _ _) (fun _ => ⟨rfl, rfl⟩) (by decide) (by decide)).mono ?_; rintro e w3 ⟨v3, rfl, ho3, hm3⟩; obtain ⟨A3, c3, rfl, hr3, -⟩ := ho3.form; have R3 := Rd.two w3 5; have m3 := Mod.alloc none' w3 (.cells #[.int .u8 172, .int .u8 2] 5))
    | (go_at_call 18; refine (same_c _ _ _ _ _ _ _ _ _ (hr3.modNone m3) R3 (by rw [HP.out]; decide)).mono ?_; rintro e w4 ⟨rfl, hm4⟩; have E4 : decide ([] ++ packed 300 = [172, 2]) = true := by (rw [HP.out]; rfl))
    | (go_at_call 11; refine (fold_c _ _ (by decide)).mono ?_; rintro e w5 ⟨rfl, rfl⟩)
    | (go_at_call 31; refine (done_c _ _ _ _ (hR2.modNone (hm3.trans (m3.trans hm4)))).mono ?_; rintro e w6 ⟨rfl, hm6⟩))
  go_ret
  refine ⟨rfl, ?_⟩
  have m1 := (Mod.alloc none' w (.cells #[.int .u8 172, .int .u8 2] 5)).trans hm1
  have m2 := m1.step hm2 (fun i hi hs => by simp only [just] at hs; simp at hb1; omega)
  exact (((m2.trans hm3).trans m3).trans hm4).trans hm6
end Go.Proofs.Ytedfbmaghleioaa
