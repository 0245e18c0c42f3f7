/- The walk of consistorylaw01.NumsPuts. -/
import Derived.Test.YtedfbmaghleioaaNumsK
import Derived.Test.YtedfbmaghleioaaNumsFixedW
set_option linter.unusedVariables false
set_option linter.unusedSimpArgs false
namespace Go.Proofs.Ytedfbmaghleioaa
open Go.RowKit Go.Ours

theorem puts_long (a0 : Option Addr) (l0 c0 : Nat) (a1 : Option Addr) (l1 c1 : Nat) (x : Int) (w : World) (h : 2000 < l0 ∨ 2000 < l1) :
     Calls Try.prog 7 #[.slice a0 l0 c0, .slice a1 l1 c1, .int .u64 x] w fun e w' => e = .returned (.bool true) ∧ Below w.heap.size w w' := by
  by_cases h0 : 2000 < l0
  · have q : (2000 : Int) < (l0 : Int) := by omega
    clear h h0
    go_enter Try.func7, Try.ntmps7
    go_wp2_with (go_at_call 9; refine (wakes_c _).mono ?_; rintro e w1 ⟨rfl, hm1⟩)
    go_ret
    exact ⟨rfl, hm1.belowAll⟩
  · have q0 : ¬ ((2000 : Int) < (l0 : Int)) := by omega
    have q : (2000 : Int) < (l1 : Int) := by omega
    clear h h0
    go_enter Try.func7, Try.ntmps7
    go_wp2_with (go_at_call 9; refine (wakes_c _).mono ?_; rintro e w1 ⟨rfl, hm1⟩)
    go_ret
    exact ⟨rfl, hm1.belowAll⟩

theorem some_of {A : Option Addr} {p : List Nat} {c lo hi : Nat} (hn : A = none → p = [] ∧ c = 0) (hA : ∀ a, A = some a → lo ≤ a.block ∧ a.block < hi ∧ a = ⟨a.block, 0, none⟩) (hl : 1 ≤ p.length) : ∃ g, A = some ⟨g, 0, none⟩ := by
  cases A with
  | none => have := (hn rfl).1; rw [this] at hl; simp at hl
  | some a => exact ⟨a.block, congrArg some (hA a rfl).2.2⟩
theorem tail_rd {w : World} {g l0 : Nat} {p l q : List Nat} (h : Rd w (some ⟨g, 0, none⟩) p.length p) (hp : p = l ++ q) (hl : l.length = l0) : Rd w (some ⟨g, l0, none⟩) (p.length - l0) q := by
  have := h.drop (k := l0) (by rw [hp, List.length_append]; omega)
  rw [Nat.zero_add] at this
  have e : p.drop l0 = q := by rw [hp, ← hl, List.drop_left]
  rwa [e] at this

attribute [local irreducible] foldN unfoldN in
set_option maxRecDepth 8000 in
set_option maxHeartbeats 1000000 in
theorem putsLaw (a0 : Option Addr) (l0 c0 : Nat) (a1 : Option Addr) (l1 c1 : Nat) (x : Nat) (w : World) (k0 : Shp.Reads w (.slice (.int .u8)) [.slice a0 l0 c0]) (k1 : Shp.Reads w (.slice (.int .u8)) [.slice a1 l1 c1]) (hx : Hid (x < 18446744073709551616))
     (s0 : ¬ ((2000 : Int) < (l0 : Int))) (s1 : ¬ ((2000 : Int) < (l1 : Int))) :
     Calls Try.prog 7 #[.slice a0 l0 c0, .slice a1 l1 c1, .int .u64 (x : Nat)] w fun e w' => e = .returned (.bool true) ∧ Below w.heap.size w w' := by
  obtain ⟨l, R0, hx8, -, -, hn0⟩ := rd_of_reads k0
  obtain ⟨t, R1, ht8, -, -, hn1⟩ := rd_of_reads k1
  clear k0 k1
  have HL := Lib.hid R0.len
  have HT := Lib.hid R1.len
  have HL2 : Hid (l.length ≤ 2000) := by show _ ≤ _; rw [HL.out]; omega
  have HT2 : Hid (t.length ≤ 2000) := by show _ ≤ _; rw [HT.out]; omega
  have hM := Mod.refl none' w
  obtain ⟨z, hz⟩ : ∃ z, z = IntKind.i64.wrap (x : Int) := ⟨_, rfl⟩
  have hz2 : Hid (-9223372036854775808 ≤ z ∧ z ≤ 9223372036854775807) := by show _ ∧ _; rw [hz]; simp only [IntWalk.i64_left]; unfold wrap64; omega
  have zw : wrap64 (x : Int) = z := by rw [hz]; exact (IntWalk.i64_left _).symm
  have zi : IntKind.i64.wrap (x : Int) = z := hz.symm
  clear hz
  obtain ⟨px, hpx⟩ : ∃ px, px = packed x := ⟨_, rfl⟩
  obtain ⟨y, hy⟩ : ∃ y, y = foldN z := ⟨_, rfl⟩
  obtain ⟨pf, hpf⟩ : ∃ pf, pf = packed y := ⟨_, rfl⟩
  obtain ⟨pt, hpt⟩ : ∃ pt, pt = packed t.length ++ t := ⟨_, rfl⟩
  obtain ⟨p, hp⟩ : ∃ p, p = l ++ px := ⟨_, rfl⟩
  obtain ⟨f, hf⟩ : ∃ f, f = l ++ pf := ⟨_, rfl⟩
  obtain ⟨u, hu⟩ : ∃ u, u = l ++ pt := ⟨_, rfl⟩
  have HPX := Lib.hid hpx
  have HY := Lib.hid hy
  have HPF := Lib.hid hpf
  have HPT := Lib.hid hpt
  have HP := Lib.hid hp
  have HF := Lib.hid hf
  have HU := Lib.hid hu
  have HU2 : Hid (l ++ packed t.length ++ t = u) := by show _ = _; rw [hu, hpt, List.append_assoc]
  have hy64 : Hid (y < 18446744073709551616) := by show _ < _; rw [hy]; exact foldN_lt' z hz2.out
  have HLX : Hid (1 ≤ px.length ∧ px.length ≤ 10) := by show _ ∧ _; rw [hpx]; exact ⟨packed_pos x, packed_len64 x hx.out⟩
  have HLF : Hid (1 ≤ pf.length ∧ pf.length ≤ 10) := by show _ ∧ _; rw [hpf]; exact ⟨packed_pos y, packed_len64 y hy64.out⟩
  have HLT : Hid (1 ≤ pt.length ∧ pt.length ≤ 2010) := by
    show _ ∧ _
    have h1 := packed_pos t.length
    have h2 := packed_len64 t.length (by have := HT2.out; omega)
    have := HT2.out
    rw [hpt, List.length_append]; omega
  have HPL : Hid (p.length = l0 + px.length) := by show _ = _; rw [hp, List.length_append, HL.out]
  have HFL : Hid (f.length = l0 + pf.length) := by show _ = _; rw [hf, List.length_append, HL.out]
  have HUL : Hid (u.length = l0 + pt.length) := by show _ = _; rw [hu, List.length_append, HL.out]
  have b1 : l.length ≤ 1000000000 := by have := HL2.out; omega
  have b2 : t.length ≤ 1000000000 := by have := HT2.out; omega
  have b3 : px.length ≤ 1000000000 := by have := HLX.out; omega
  have b4 : pf.length ≤ 1000000000 := by have := HLF.out; omega
  have b5 : pt.length ≤ 1000000000 := by have := HLT.out; omega
  have Bl : Hid (l.length ≤ 10000000000) := by show _ ≤ _; omega
  have Bt : Hid (t.length ≤ 10000000000) := by show _ ≤ _; omega
  have Bp : Hid (p.length ≤ 10000000000) := by have := HPL.out; have := HL.out; show _ ≤ _; omega
  have Bf : Hid (f.length ≤ 10000000000) := by have := HFL.out; have := HL.out; show _ ≤ _; omega
  have Bu : Hid (u.length ≤ 10000000000) := by have := HUL.out; have := HL.out; show _ ≤ _; omega
  have Y1 : Hid (∀ v ∈ px, v < 256) := by show ∀ v ∈ px, v < 256; rw [hpx]; exact packed_bytes x
  have Y2 : Hid (∀ v ∈ pf, v < 256) := by show ∀ v ∈ pf, v < 256; rw [hpf]; exact packed_bytes y
  have Y3 : Hid (∀ v ∈ pt, v < 256) := by
    show ∀ v ∈ pt, v < 256
    rw [hpt]
    intro v hv
    rcases List.mem_append.1 hv with h | h
    · exact packed_bytes _ v h
    · exact ht8 v h
  have HUZ : Hid (unfoldN y = z) := by show _ = _; rw [hy]; unfold unfoldN foldN; split <;> split <;> omega
  have HLB := Lib.hid b1
  have HTB := Lib.hid b2
  have HXB := Lib.hid b3
  have HFB := Lib.hid b4
  have HPB := Lib.hid b5
  clear b1 b2 b3 b4 b5 hpx hy hpf hpt hp hf hu
  go_enter Try.func7, Try.ntmps7
  go_wp2_with (first
    | (go_at_call 9; refine (wakes_c _).mono ?_; rintro e w1 ⟨rfl, hm⟩; replace R0 := R0.modNone hm; replace R1 := R1.modNone hm; replace hM := hM.trans hm; clear hm)
    | (at_builtin; refine wpList_app byte_slice byte_info rfl _ _ rfl (made_own _) (R0.modNone (Mod.alloc none' _ _)) rfl rfl (by have := HL2.out; simp; omega) (by simp) ?_; intro v2 w2 h2; have hm := h2.still (made_own _) (Nat.le_refl _) (Mod.alloc _ _ _); obtain ⟨A2, c2, rfl, R2, -, -, -, hn2⟩ := h2.own.form; clear h2; simp only [List.nil_append] at R2 hn2; replace R0 := R0.modNone hm; replace R1 := R1.modNone hm; replace hM := hM.trans hm; clear hm)
    | (at_builtin; refine wpList_app byte_slice byte_info rfl _ _ rfl (made_own _) (R1.modNone (Mod.alloc none' _ _)) rfl rfl (by have := HT2.out; simp; omega) (by simp) ?_; intro v3 w3 h3; have hm := h3.still (made_own _) (Nat.le_refl _) (Mod.alloc _ _ _); obtain ⟨A3, c3, rfl, R3, -, -, -, hn3⟩ := h3.own.form; clear h3; simp only [List.nil_append] at R3 hn3; replace R0 := R0.modNone hm; replace R1 := R1.modNone hm; replace R2 := R2.modNone hm; replace hM := hM.trans hm; clear hm)
    | (go_at_call 10; refine (putPacked_c _ _ _ _ _ _ R2 (fun h => ⟨List.length_eq_zero_iff.2 (hn2 h).1, (hn2 h).2⟩) HLB.out hx.out).mono ?_; rintro e w4 ⟨v4, rfl, ho, hm⟩; rw [← HPX.out, ← HP.out] at ho; obtain ⟨A4, c4, rfl, R4, hc4, hcm4, hA4, hn4⟩ := ho.form; clear ho; obtain ⟨g4, rfl⟩ := some_of hn4 hA4 (by have := HPL.out; have := HLX.out; omega); clear hn4 hA4; have t4a : (l0 : Int) ≤ (p.length : Int) := (by have := HPL.out; omega); have t4b : (p.length : Int) ≤ (c4 : Int) := (by omega); have t4c : ¬ c4 = l0 := (by have := HPL.out; have := HLX.out; omega); have t4d : (p.length : Int) ≤ 5000 := (by have := HPL.out; have := HLX.out; omega); replace R0 := R0.modNone hm; replace R1 := R1.modNone hm; replace R2 := R2.modNone hm; replace R3 := R3.modNone hm; replace hM := hM.trans hm; clear hm)
    | (go_at_call 24; refine (putFolded_c _ _ _ _ _ _ R2 (fun h => ⟨List.length_eq_zero_iff.2 (hn2 h).1, (hn2 h).2⟩) HLB.out hz2).mono ?_; rintro e w5 ⟨v5, rfl, ho, hm⟩; rw [← HY.out, ← HPF.out, ← HF.out] at ho; obtain ⟨A5, c5, rfl, R5, hc5, hcm5, hA5, hn5⟩ := ho.form; clear ho; obtain ⟨g5, rfl⟩ := some_of hn5 hA5 (by have := HFL.out; have := HLF.out; omega); clear hn5 hA5; have t5a : (l0 : Int) ≤ (f.length : Int) := (by have := HFL.out; omega); have t5b : (f.length : Int) ≤ (c5 : Int) := (by omega); have t5c : ¬ c5 = l0 := (by have := HFL.out; have := HLF.out; omega); have t5d : (f.length : Int) ≤ 5000 := (by have := HFL.out; have := HLF.out; omega); replace R0 := R0.modNone hm; replace R1 := R1.modNone hm; replace R2 := R2.modNone hm; replace R3 := R3.modNone hm; replace R4 := R4.modNone hm; replace hM := hM.trans hm; clear hm)
    | (go_at_call 25; refine (putText_c _ _ _ _ _ _ _ _ _ R2 R3 (fun h => ⟨List.length_eq_zero_iff.2 (hn2 h).1, (hn2 h).2⟩) HLB.out HTB.out).mono ?_; rintro e w6 ⟨v6, rfl, ho, hm⟩; rw [HU2.out] at ho; obtain ⟨A6, c6, rfl, R6, hc6, hcm6, hA6, hn6⟩ := ho.form; clear ho; obtain ⟨g6, rfl⟩ := some_of hn6 hA6 (by have := HUL.out; have := HLT.out; omega); clear hn6 hA6; have t6a : (l0 : Int) ≤ (u.length : Int) := (by have := HUL.out; omega); have t6b : (u.length : Int) ≤ (c6 : Int) := (by omega); have t6c : ¬ c6 = l0 := (by have := HUL.out; have := HLT.out; omega); have t6d : (u.length : Int) ≤ 5000 := (by have := HUL.out; have := HLT.out; omega); replace R0 := R0.modNone hm; replace R1 := R1.modNone hm; replace R2 := R2.modNone hm; replace R3 := R3.modNone hm; replace R4 := R4.modNone hm; replace R5 := R5.modNone hm; replace hM := hM.trans hm; clear hm)
    | (go_at_call 26; refine (refPacked_c _ _ (by first | exact hx.out | exact hy64.out)).mono ?_; rintro e w7 ⟨v7, rfl, ho, hm⟩; (first | rw [← HPX.out] at ho | rw [← HPF.out] at ho); obtain ⟨A7, c7, rfl, R7, -⟩ := ho.form; clear ho; replace R0 := R0.modNone hm; replace R1 := R1.modNone hm; replace R2 := R2.modNone hm; replace R3 := R3.modNone hm; replace R4 := R4.modNone hm; replace R5 := R5.modNone hm; replace R6 := R6.modNone hm; replace hM := hM.trans hm; clear hm)
    | (go_at_call 12; refine (refFold_c _ _ hz2.out).mono ?_; rintro e w8 ⟨rfl, hm⟩; subst hm; rw [← HY.out])
    | (go_at_call 27; refine (refText_c _ _ _ _ _ R1 HTB.out).mono ?_; rintro e w7 ⟨v7, rfl, ho, hm⟩; rw [← HPT.out] at ho; obtain ⟨A7, c7, rfl, R7, -⟩ := ho.form; clear ho; replace R0 := R0.modNone hm; replace R1 := R1.modNone hm; replace R2 := R2.modNone hm; replace R3 := R3.modNone hm; replace R4 := R4.modNone hm; replace R5 := R5.modNone hm; replace R6 := R6.modNone hm; replace hM := hM.trans hm; clear hm)
    | (go_at_call 20; refine (join_c _ _ _ _ _ _ _ _ _ R0 R7 HLB.out (by first | exact HXB.out | exact HFB.out | exact HPB.out)).mono ?_; rintro e w8 ⟨v8, rfl, ho, hm⟩; (first | rw [← HP.out] at ho | rw [← HF.out] at ho | rw [← HU.out] at ho); obtain ⟨A8, c8, rfl, R8, -⟩ := ho.form; clear ho R7; replace R0 := R0.modNone hm; replace R1 := R1.modNone hm; replace R2 := R2.modNone hm; replace R3 := R3.modNone hm; replace R4 := R4.modNone hm; replace R5 := R5.modNone hm; replace R6 := R6.modNone hm; replace hM := hM.trans hm; clear hm)
    | (go_at_call 18; refine (same_c _ _ _ _ _ _ _ _ _ (by first | exact R4 | exact R5 | exact R6 | exact R2 | exact R3 | exact R9) (by first | exact R8 | exact R0 | exact R1) (by first | exact Bp.out | exact Bf.out | exact Bu.out | exact Bl.out | exact Bt.out)).mono ?_; rintro e w9 ⟨rfl, hm⟩; replace R0 := R0.modNone hm; replace R1 := R1.modNone hm; replace R2 := R2.modNone hm; replace R3 := R3.modNone hm; replace R4 := R4.modNone hm; replace R5 := R5.modNone hm; replace R6 := R6.modNone hm; replace hM := hM.trans hm; clear hm; try clear R8)
    | (go_at_call 15; refine (new_c _ _ _ _ _ (by first | exact tail_rd R4 HP.out HL.out | exact tail_rd R5 HF.out HL.out | exact tail_rd R6 HU.out HL.out) (fun h => by cases h) (by first | exact HXB.out | exact HFB.out | exact HPB.out) (by first | exact Y1.out | exact Y2.out | exact Y3.out)).mono ?_; rintro e w10 ⟨b, rfl, hb1, hb2, ⟨A10, n10, c10, hR⟩, hmN⟩; unfold rptr)
    | (go_at_call 16; refine (packedAt_c _ _ _ _ _ _ _ hR).mono ?_; intro e w11 h11; obtain ⟨rfl, -, hm'⟩ := h11.known (y := x) (r := []) (by rw [HPX.out, List.append_nil]; rfl) hx.out; have hm := hmN.step hm' (fun i hi hs => by simp only [just] at hs; omega); clear h11 hm' hR hmN hb1 hb2; replace R0 := R0.modNone hm; replace R1 := R1.modNone hm; replace R2 := R2.modNone hm; replace R3 := R3.modNone hm; replace R4 := R4.modNone hm; replace R5 := R5.modNone hm; replace R6 := R6.modNone hm; replace hM := hM.trans hm; clear hm)
    | (go_at_call 28; refine (foldedKnown_c _ _ [] 0 y _ ⟨_, _, _, hR⟩ (by rw [HPF.out, List.append_nil]; rfl) hy64).mono ?_; rintro e w12 ⟨rfl, -, hm'⟩; rw [HUZ.out]; have hm := hmN.step hm' (fun i hi hs => by simp only [just] at hs; omega); clear hm' hR hmN hb1 hb2; replace R0 := R0.modNone hm; replace R1 := R1.modNone hm; replace R2 := R2.modNone hm; replace R3 := R3.modNone hm; replace R4 := R4.modNone hm; replace R5 := R5.modNone hm; replace R6 := R6.modNone hm; replace hM := hM.trans hm; clear hm)
    | (go_at_call 29; refine (textKnown_c _ _ _ _ _ t [] 0 l1 _ hR (by rw [HPT.out, List.append_nil]; rfl) (Nat.le_of_eq HT.out) (by omega)).mono ?_; rintro e w13 ⟨v13, rfl, ⟨A9, n9, c9, rfl, R9⟩, hm'⟩; have hm := hmN.step hm' (fun i hi hs => by simp only [just] at hs; omega); clear hm' hR hmN hb1 hb2; replace R0 := R0.modNone hm; replace R1 := R1.modNone hm; replace R2 := R2.modNone hm; replace R3 := R3.modNone hm; replace R4 := R4.modNone hm; replace R5 := R5.modNone hm; replace R6 := R6.modNone hm; replace hM := hM.trans hm; clear hm))
  go_ret
  exact ⟨rfl, hM.belowAll⟩

theorem walkNumsPuts (a0 : Option Addr) (l0 c0 : Nat) (a1 : Option Addr) (l1 c1 : Nat) (a2 : Int) (w : World) (k0 : Shp.Reads w (.slice (.int .u8)) [.slice a0 l0 c0]) (k1 : Shp.Reads w (.slice (.int .u8)) [.slice a1 l1 c1]) (w2 : (Lit.int .u64 a2).wf = true) :
     Calls Try.prog 7 #[.slice a0 l0 c0, .slice a1 l1 c1, .int .u64 a2] w fun e w' => e = .returned (.bool true) ∧ Below w.heap.size w w' := by
  by_cases h : 2000 < l0 ∨ 2000 < l1
  · exact puts_long _ _ _ _ _ _ _ _ h
  · have h0 := bounds_u64 w2
    obtain ⟨x, rfl⟩ := Int.eq_ofNat_of_zero_le h0.1
    exact putsLaw a0 l0 c0 a1 l1 c1 x w k0 k1 (by show _ < _; omega) (by omega) (by omega)
end Go.Proofs.Ytedfbmaghleioaa
