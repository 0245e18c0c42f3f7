/- The walk of consistorylaw01.NumsFixed. -/
import Derived.Test.YtedfbmaghleioaaNumsI
import Derived.Test.YtedfbmaghleioaaLibArgs
set_option linter.unusedVariables false
set_option linter.unusedSimpArgs false
namespace Go.Proofs.Ytedfbmaghleioaa
open Go.RowKit Go.Ours

theorem fixed_bytes (x n : Nat) : ∀ b ∈ fixedB x n, b < 256 := by
  intro b hb
  obtain ⟨i, _, rfl⟩ := List.mem_map.1 hb
  exact Nat.mod_lt _ (by omega)
theorem fixedL_wide {x : Nat} {n : Int} (h : wideB n = true) : fixedL x n = fixedB x n.toNat := by unfold fixedL; rw [if_pos h]
theorem fixedL_len (x : Nat) (n : Int) : (fixedL x n).length ≤ 8 := by
  unfold fixedL
  split
  · rename_i h; rw [fixed_len]; rcases wideB_true h with rfl | rfl | rfl | rfl <;> decide
  · simp
/-- append([]byte{}, b...): an empty own slice. -/
theorem made_own (w : World) : Ow 5 w.heap.size (w.alloc (.cells #[] 5)) (.slice (some ⟨w.heap.size, 0, none⟩) 0 0) [] := World.ownsRow_made w #[] 0 (Nat.le_refl _) (by simp [maxLen]) rfl

set_option maxRecDepth 4000 in
set_option maxHeartbeats 1000000 in
theorem fixedLaw (a0 : Option Addr) (l0 c0 : Nat) (x : Nat) (n : Int) (w : World) (k0 : Shp.Reads w (.slice (.int .u8)) [.slice a0 l0 c0]) (hx : Hid (x < 18446744073709551616)) :
     Calls Try.prog 6 #[.slice a0 l0 c0, .int .u64 (x : Nat), .int .i64 n] w fun e w' => e = .returned (.bool true) ∧ Below w.heap.size w w' := by
  obtain ⟨l, hr, hx8, hc, hcm, hn⟩ := rd_of_reads k0
  clear k0
  by_cases hq : 2000 < l0
  · have q : (2000 : Int) < (l0 : Int) := by omega
    clear hr hx8 hc hcm hn hq
    go_enter Try.func6, Try.ntmps6
    go_wp2_with (go_at_call 9; refine (wakes_c _).mono ?_; rintro e w1 ⟨rfl, hm1⟩)
    go_ret
    exact ⟨rfl, hm1.belowAll⟩
  · have q : ¬ ((2000 : Int) < (l0 : Int)) := by omega
    have HQ : Hid (l.length ≤ 2000) := by show _ ≤ _; rw [hr.len]; omega
    have HL := Lib.hid hr.len
    obtain ⟨f, hf⟩ : ∃ f, f = fixedL x n := ⟨_, rfl⟩
    obtain ⟨p, hp⟩ : ∃ p, p = l ++ f := ⟨_, rfl⟩
    have HF : Hid (f.length ≤ 8) := by show _ ≤ _; rw [hf]; exact fixedL_len x n
    have HPL : Hid (p.length = l.length + f.length) := by show _ = _; rw [hp, List.length_append]
    have HFE := Lib.hid hf
    have HPE := Lib.hid hp
    clear hf hp
    clear hcm hq hc
    go_enter Try.func6, Try.ntmps6
    go_wp2_with (first
      | (go_at_call 9; refine (wakes_c _).mono ?_; rintro e w1 ⟨rfl, hm1⟩; have ma := hm1.trans (Mod.alloc none' w1 (.cells #[] 5)))
      | (at_builtin; refine wpList_app byte_slice byte_info rfl _ _ rfl (made_own w1) (hr.modNone ma) rfl rfl (by have := HQ.out; simp; omega) (by simp) ?_; intro v2 w2 h2; have hm2 := hm1.trans (h2.still (made_own w1) (Nat.le_refl _) (Mod.alloc _ _ _)); obtain ⟨A2, c2, rfl, hr2, -, -, -, hn2⟩ := h2.own.form; simp only [List.nil_append] at hr2 hn2; clear h2 ma)
      | (go_at_call 19; refine (putFixed_c _ _ _ _ _ _ _ hr2 (fun h => ⟨List.length_eq_zero_iff.2 (hn2 h).1, (hn2 h).2⟩) (by have := HQ.out; omega) hx).mono ?_; rintro e w3 ⟨v3, rfl, ho3, hm3⟩; rw [← HFE.out, ← HPE.out] at ho3; obtain ⟨A3, c3, rfl, hr3, hc3, hcm3, hA3, hn3⟩ := ho3.form; have hm13 := hm2.trans hm3; clear hr2 hn2)
      | (go_at_call 21; refine (refFixed_c _ _ _ hx).mono ?_; rintro e w4 ⟨v4, rfl, ho4, hm4⟩; rw [← HFE.out] at ho4; obtain ⟨A4, c4, rfl, hr4, -⟩ := ho4.form; have hm14 := hm13.trans hm4)
      | (go_at_call 20; refine (join_c _ _ _ _ _ _ _ _ _ (hr.modNone hm14) hr4 (by have := HQ.out; omega) (by have := HF.out; omega)).mono ?_; rintro e w5 ⟨v5, rfl, ho5, hm5⟩; rw [← HPE.out] at ho5; obtain ⟨A5, c5, rfl, hr5, -⟩ := ho5.form; have hm15 := hm14.trans hm5)
      | (go_at_call 18; refine (same_c _ _ _ _ _ _ _ _ _ ((hr3.modNone hm4).modNone hm5) hr5 (by have := HQ.out; have := HF.out; have := HPL.out; omega)).mono ?_; rintro e w6 ⟨rfl, hm6⟩; have hm16 := hm15.trans hm6))
    by_cases hw : wideB n = true
    · go_at_call 22
      refine (refWide_c _ _).mono ?_
      rintro e w7 ⟨rfl, rfl⟩
      rcases wideB_true hw with rfl | rfl | rfl | rfl
      · have hfl : f.length = 1 := by rw [HFE.out, fixedL_wide hw]; exact fixed_len _ _
        have HBV : Hid (bev (List.take 1 (List.drop 0 f)) = x % 256) := by
          show _ = _
          rw [List.drop_zero, HFE.out, fixedL_wide hw]
          have := bev_fixed x 1 1 (Nat.le_refl _)
          simpa using this
        have HF8 : Hid (∀ b ∈ f, b < 256) := by
          show ∀ b ∈ f, b < 256
          rw [HFE.out, fixedL_wide hw]; exact fixed_bytes x _
        have HD : Hid (p.drop l0 = f) := by show _ = _; rw [HPE.out, ← HL.out, List.drop_left]
        have HPN : Hid (p.length - l0 = 1) := by have := HPL.out; have := HL.out; show _ = _; omega
        have hpl : 1 ≤ p.length := by have := HPL.out; omega
        obtain ⟨g, rfl⟩ : ∃ g, A3 = some ⟨g, 0, none⟩ := by
          cases A3 with
          | none => have := (hn3 rfl).1; rw [this] at hpl; simp at hpl
          | some a => exact ⟨a.block, congrArg some (hA3 a rfl).2.2⟩
        have R3 := ((((hr3.modNone hm4).modNone hm5).modNone hm6).drop (k := l0) (by have := HPL.out; have := HL.out; omega))
        rw [HD.out, Nat.zero_add] at R3
        have s1 : (l0 : Int) ≤ (p.length : Int) := by have := HPL.out; have := HL.out; omega
        have s2 : (p.length : Int) ≤ (c3 : Int) := by omega
        have s3 : (l0 : Int) ≤ 2000 := by have := HL.out; have := HQ.out; omega
        have s4 : (p.length : Int) ≤ 3000 := by have := HPL.out; have := HQ.out; omega
        have x0 : (0 : Int) ≤ (x : Int) := by omega
        have HXX := Lib.hid hfl
        have s5 : ¬ c3 = l0 := by have := HPL.out; have := HL.out; omega
        clear hr hx8 hn ho3 hr3 hA3 hn3 ho4 hr4 ho5 hr5 hpl hfl
        go_wp2_with (first
          | (go_at_call 15; refine (new_c _ _ _ _ _ R3 (fun h => by cases h) (by rw [HXX.out]; decide) HF8.out).mono ?_; rintro e w7 ⟨b, rfl, hb1, hb2, ⟨A7, n7, c7, hR7⟩, hm7⟩; unfold rptr; have hm17 := hm16.trans hm7; have hn7 : n7 = 1 := (hR7.rd.len.symm.trans HXX.out))
          | (go_at_call 23; refine (fixedAt_c b _ _ _ _ 0 1 _ hR7 rfl (by omega)).mono ?_; rintro e w8 ⟨rfl, hR8, hm8⟩; rw [HBV.out]))
        go_ret
        exact ⟨rfl, (hm17.step hm8 (fun i hi hs => by simp only [just] at hs; have := hm16.size; omega)).belowAll⟩
      · have hfl : f.length = 2 := by rw [HFE.out, fixedL_wide hw]; exact fixed_len _ _
        have HBV : Hid (bev (List.take 2 (List.drop 0 f)) = x % 65536) := by
          show _ = _
          rw [List.drop_zero, HFE.out, fixedL_wide hw]
          have := bev_fixed x 2 2 (Nat.le_refl _)
          simpa using this
        have HF8 : Hid (∀ b ∈ f, b < 256) := by
          show ∀ b ∈ f, b < 256
          rw [HFE.out, fixedL_wide hw]; exact fixed_bytes x _
        have HD : Hid (p.drop l0 = f) := by show _ = _; rw [HPE.out, ← HL.out, List.drop_left]
        have HPN : Hid (p.length - l0 = 2) := by have := HPL.out; have := HL.out; show _ = _; omega
        have hpl : 1 ≤ p.length := by have := HPL.out; omega
        obtain ⟨g, rfl⟩ : ∃ g, A3 = some ⟨g, 0, none⟩ := by
          cases A3 with
          | none => have := (hn3 rfl).1; rw [this] at hpl; simp at hpl
          | some a => exact ⟨a.block, congrArg some (hA3 a rfl).2.2⟩
        have R3 := ((((hr3.modNone hm4).modNone hm5).modNone hm6).drop (k := l0) (by have := HPL.out; have := HL.out; omega))
        rw [HD.out, Nat.zero_add] at R3
        have s1 : (l0 : Int) ≤ (p.length : Int) := by have := HPL.out; have := HL.out; omega
        have s2 : (p.length : Int) ≤ (c3 : Int) := by omega
        have s3 : (l0 : Int) ≤ 2000 := by have := HL.out; have := HQ.out; omega
        have s4 : (p.length : Int) ≤ 3000 := by have := HPL.out; have := HQ.out; omega
        have x0 : (0 : Int) ≤ (x : Int) := by omega
        have HXX := Lib.hid hfl
        have s5 : ¬ c3 = l0 := by have := HPL.out; have := HL.out; omega
        clear hr hx8 hn ho3 hr3 hA3 hn3 ho4 hr4 ho5 hr5 hpl hfl
        go_wp2_with (first
          | (go_at_call 15; refine (new_c _ _ _ _ _ R3 (fun h => by cases h) (by rw [HXX.out]; decide) HF8.out).mono ?_; rintro e w7 ⟨b, rfl, hb1, hb2, ⟨A7, n7, c7, hR7⟩, hm7⟩; unfold rptr; have hm17 := hm16.trans hm7; have hn7 : n7 = 2 := (hR7.rd.len.symm.trans HXX.out))
          | (go_at_call 23; refine (fixedAt_c b _ _ _ _ 0 2 _ hR7 rfl (by omega)).mono ?_; rintro e w8 ⟨rfl, hR8, hm8⟩; rw [HBV.out]))
        go_ret
        exact ⟨rfl, (hm17.step hm8 (fun i hi hs => by simp only [just] at hs; have := hm16.size; omega)).belowAll⟩
      · have hfl : f.length = 4 := by rw [HFE.out, fixedL_wide hw]; exact fixed_len _ _
        have HBV : Hid (bev (List.take 4 (List.drop 0 f)) = x % 4294967296) := by
          show _ = _
          rw [List.drop_zero, HFE.out, fixedL_wide hw]
          have := bev_fixed x 4 4 (Nat.le_refl _)
          simpa using this
        have HF8 : Hid (∀ b ∈ f, b < 256) := by
          show ∀ b ∈ f, b < 256
          rw [HFE.out, fixedL_wide hw]; exact fixed_bytes x _
        have HD : Hid (p.drop l0 = f) := by show _ = _; rw [HPE.out, ← HL.out, List.drop_left]
        have HPN : Hid (p.length - l0 = 4) := by have := HPL.out; have := HL.out; show _ = _; omega
        have hpl : 1 ≤ p.length := by have := HPL.out; omega
        obtain ⟨g, rfl⟩ : ∃ g, A3 = some ⟨g, 0, none⟩ := by
          cases A3 with
          | none => have := (hn3 rfl).1; rw [this] at hpl; simp at hpl
          | some a => exact ⟨a.block, congrArg some (hA3 a rfl).2.2⟩
        have R3 := ((((hr3.modNone hm4).modNone hm5).modNone hm6).drop (k := l0) (by have := HPL.out; have := HL.out; omega))
        rw [HD.out, Nat.zero_add] at R3
        have s1 : (l0 : Int) ≤ (p.length : Int) := by have := HPL.out; have := HL.out; omega
        have s2 : (p.length : Int) ≤ (c3 : Int) := by omega
        have s3 : (l0 : Int) ≤ 2000 := by have := HL.out; have := HQ.out; omega
        have s4 : (p.length : Int) ≤ 3000 := by have := HPL.out; have := HQ.out; omega
        have x0 : (0 : Int) ≤ (x : Int) := by omega
        have HXX := Lib.hid hfl
        have s5 : ¬ c3 = l0 := by have := HPL.out; have := HL.out; omega
        clear hr hx8 hn ho3 hr3 hA3 hn3 ho4 hr4 ho5 hr5 hpl hfl
        go_wp2_with (first
          | (go_at_call 15; refine (new_c _ _ _ _ _ R3 (fun h => by cases h) (by rw [HXX.out]; decide) HF8.out).mono ?_; rintro e w7 ⟨b, rfl, hb1, hb2, ⟨A7, n7, c7, hR7⟩, hm7⟩; unfold rptr; have hm17 := hm16.trans hm7; have hn7 : n7 = 4 := (hR7.rd.len.symm.trans HXX.out))
          | (go_at_call 23; refine (fixedAt_c b _ _ _ _ 0 4 _ hR7 rfl (by omega)).mono ?_; rintro e w8 ⟨rfl, hR8, hm8⟩; rw [HBV.out]))
        go_ret
        exact ⟨rfl, (hm17.step hm8 (fun i hi hs => by simp only [just] at hs; have := hm16.size; omega)).belowAll⟩
      · have hfl : f.length = 8 := by rw [HFE.out, fixedL_wide hw]; exact fixed_len _ _
        have HBV : Hid (bev (List.take 8 (List.drop 0 f)) = x) := by
          show _ = _
          rw [List.drop_zero, HFE.out, fixedL_wide hw]
          have := bev_fixed x 8 8 (Nat.le_refl _)
          rw [show x / 256 ^ (8 - 8) % 256 ^ 8 = x by rw [Nat.sub_self, Nat.pow_zero, Nat.div_one]; exact Nat.mod_eq_of_lt (Nat.lt_of_lt_of_le hx.out (by decide))] at this
          exact this
        have HF8 : Hid (∀ b ∈ f, b < 256) := by
          show ∀ b ∈ f, b < 256
          rw [HFE.out, fixedL_wide hw]; exact fixed_bytes x _
        have HD : Hid (p.drop l0 = f) := by show _ = _; rw [HPE.out, ← HL.out, List.drop_left]
        have HPN : Hid (p.length - l0 = 8) := by have := HPL.out; have := HL.out; show _ = _; omega
        have hpl : 1 ≤ p.length := by have := HPL.out; omega
        obtain ⟨g, rfl⟩ : ∃ g, A3 = some ⟨g, 0, none⟩ := by
          cases A3 with
          | none => have := (hn3 rfl).1; rw [this] at hpl; simp at hpl
          | some a => exact ⟨a.block, congrArg some (hA3 a rfl).2.2⟩
        have R3 := ((((hr3.modNone hm4).modNone hm5).modNone hm6).drop (k := l0) (by have := HPL.out; have := HL.out; omega))
        rw [HD.out, Nat.zero_add] at R3
        have s1 : (l0 : Int) ≤ (p.length : Int) := by have := HPL.out; have := HL.out; omega
        have s2 : (p.length : Int) ≤ (c3 : Int) := by omega
        have s3 : (l0 : Int) ≤ 2000 := by have := HL.out; have := HQ.out; omega
        have s4 : (p.length : Int) ≤ 3000 := by have := HPL.out; have := HQ.out; omega
        have x0 : (0 : Int) ≤ (x : Int) := by omega
        have HXX := Lib.hid hfl
        have s5 : ¬ c3 = l0 := by have := HPL.out; have := HL.out; omega
        clear hr hx8 hn ho3 hr3 hA3 hn3 ho4 hr4 ho5 hr5 hpl hfl
        go_wp2_with (first
          | (go_at_call 15; refine (new_c _ _ _ _ _ R3 (fun h => by cases h) (by rw [HXX.out]; decide) HF8.out).mono ?_; rintro e w7 ⟨b, rfl, hb1, hb2, ⟨A7, n7, c7, hR7⟩, hm7⟩; unfold rptr; have hm17 := hm16.trans hm7; have hn7 : n7 = 8 := (hR7.rd.len.symm.trans HXX.out))
          | (go_at_call 23; refine (fixedAt_c b _ _ _ _ 0 8 _ hR7 rfl (by omega)).mono ?_; rintro e w8 ⟨rfl, hR8, hm8⟩; rw [HBV.out]))
        go_ret
        exact ⟨rfl, (hm17.step hm8 (fun i hi hs => by simp only [just] at hs; have := hm16.size; omega)).belowAll⟩
    · have hw' : wideB n = false := by simpa using hw
      clear hr hx8 hn ho3 hr3 hA3 hn3 ho4 hr4 ho5 hr5 hw
      go_wp2_with (go_at_call 22; refine (refWide_c _ _).mono ?_; rintro e w7 ⟨rfl, rfl⟩)
      go_ret
      exact ⟨rfl, hm16.belowAll⟩

theorem walkNumsFixed (a0 : Option Addr) (l0 c0 : Nat) (a1 : Int) (a2 : Int) (w : World) (k0 : Shp.Reads w (.slice (.int .u8)) [.slice a0 l0 c0]) (w1 : (Lit.int .u64 a1).wf = true) (w2 : (Lit.int .i64 a2).wf = true) :
     Calls Try.prog 6 #[.slice a0 l0 c0, .int .u64 a1, .int .i64 a2] w fun e w' => e = .returned (.bool true) ∧ Below w.heap.size w w' := by
  have h0 := bounds_u64 w1
  obtain ⟨x, rfl⟩ := Int.eq_ofNat_of_zero_le h0.1
  exact fixedLaw a0 l0 c0 x a2 w k0 (by show _ < _; omega)
end Go.Proofs.Ytedfbmaghleioaa
