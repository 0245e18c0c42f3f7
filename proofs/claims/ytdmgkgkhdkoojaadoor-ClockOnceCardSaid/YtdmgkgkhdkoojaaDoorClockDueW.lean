/- clock.Due, consistoryref20.Due, wakes: contracts; the laws ClockDue, ClockOnce. -/
import Derived.Test.YtdmgkgkhdkoojaaDoorClockV
set_option linter.unusedVariables false
set_option linter.unusedSimpArgs false
namespace Go.Proofs.YtdmgkgkhdkoojaaDoor
open Go.Abs Go.RowKit Go.Ours

/-- Where a number stands first. -/
def idxF (L : List Nat) (i : Int) : Option Nat := L.findIdx? fun x : Nat => decide ((x : Int) = i)
theorem ixl (L : List Nat) (i : Int) (hL : L.length ≤ 100) : ∀ (l : List Nat) (k : Nat), L.drop k = l → k ≤ L.length → ∀ (Q : Exit → S → Prop),
   (idxF l i = none → ∀ a b c d e, Q (.exit 0) (mk [(0, a), (1, b), (7, c), (8, d), (9, e)] [])) →
   (∀ p a b, idxF l i = some p → Q .ret (mk [(4, .pv (.int .i64 (k + p : Nat))), (5, a), (17, b)] [])) →
   LoopW Tryd.prog [0, 1, 7, 8] [] irSlicesIndexintint_L1 (mk [(0, .pv (.sl 1 (krows .i64 L))), (1, .pv (.int .i64 i)), (7, .pv (.int .i64 (L.length : Nat))), (8, .pv (.int .i64 (k : Nat)))] []) Q := by
  intro l
  induction l with
  | nil =>
    intro k hd hk Q hQ _
    have hk2 : k = L.length := by
      have := congrArg List.length hd
      simp at this
      omega
    subst hk2
    refine LoopW.go irSlicesIndexintint_L1.eq_1 (by simp) ?_
    simp
    exact hQ (by simp [idxF]) _ _ _ _ _
  | cons r l ih =>
    intro k hd hk Q hQ hQ2
    have hlt : k < L.length := by
      have := congrArg List.length hd
      simp at this
      omega
    have hr : L[k]? = some r := by
      have := congrArg (·[0]?) hd
      simpa using this
    have hd' : L.drop (k + 1) = l := by
      have := congrArg (List.drop 1) hd
      simpa [List.drop_drop, Nat.add_comm] using this
    have i1 : (k : Int) < (L.length : Int) := by omega
    have wk : IntKind.i64.wrap ((k : Int) + 1) = (k + 1 : Nat) := by rw [wrap_i64] <;> omega
    by_cases h : (r : Int) = i
    · have h2 := hQ2 0
      rw [Nat.add_zero] at h2
      refine LoopW.go irSlicesIndexintint_L1.eq_1 (by simp) ?_
      simp [-getElem?_pos, i1, hlt, krows_length, krows_get, hr, h]
      exact h2 _ _ (by simp [idxF, List.findIdx?_cons, h])
    · have h' : ¬ i = (r : Int) := fun e => h e.symm
      have e : ∀ x : Option Nat, idxF l i = x → idxF (r :: l) i = x.map (· + 1) := fun x hx => by
        subst hx
        simp [idxF, List.findIdx?_cons, h]
      have hn := ih (k + 1) hd' (by omega) Q (fun hh => hQ (by rw [e _ hh]; rfl)) (fun p a b hh => by
        have := hQ2 (p + 1) a b (by rw [e _ hh]; rfl)
        rwa [show k + 1 + p = k + (p + 1) by omega])
      refine LoopW.go irSlicesIndexintint_L1.eq_1 (by simp) ?_
      simp [-getElem?_pos, i1, hlt, krows_length, krows_get, hr, h', wk]
      exact hn
def idxI (o : Option Nat) : Int := match o with
  | some p => (p : Int)
  | none => -1
theorem index_c (L : List Nat) (i : Int) (hL : L.length ≤ 100) : ACall Tryd.prog 15 [.pv (.sl 1 (krows .i64 L)), .pv (.int .i64 i)] [] (.pv (.int .i64 (idxI (idxF L i)))) [] [] := by
  refine ACall.fn (fn := Tryd.f15) rfl okSlicesIndexintint rfl (by simp) ?_
  simp only [argT, irSlicesIndexintint.eq_1]
  simp [krows_length]
  refine ixl L i hL L 0 rfl (Nat.zero_le _) _ (fun hh a b c d e => ?_) (fun p a b hh => ?_)
  · simp [hh, idxI]
  · simp [hh, idxI]
/-- Does a member save behind a slot? -/
def dueF (n : Int) (m : Nat) (i slot period : Int) : Bool :=
  if rightV n m = true ∧ 1 ≤ period ∧ period ≤ 60 ∧ 1 ≤ slot then (match idxF (memF 16 0 m) i with
    | some p => decide (slot.toNat % period.toNat = p * period.toNat / pop m % period.toNat)
    | none => false) else false
theorem idxF_lt {L : List Nat} {i : Int} {p : Nat} (h : idxF L i = some p) : p < L.length := by
  unfold idxF at h
  rw [List.findIdx?_eq_some_iff_getElem] at h
  exact h.1
theorem right_pop {n : Int} {m : Nat} (h : rightV n m = true) : 4 ≤ pop m ∧ pop m ≤ 7 := by
  unfold rightV at h
  simp at h
  exact h.2.2
theorem due_c (n : Int) (m : Nat) (i slot period : Int) (hm : m < 65536) (hs : slot < 9223372036854775808) : ACall Tryd.prog 6 [.pagg (vwP (n, m)), .pv (.int .i64 i), .pv (.int .i64 slot), .pv (.int .i64 period)] [] (.pv (.bool (dueF n m i slot period))) [] [] := by
  refine ACall.fn (fn := Tryd.f6) rfl okClockDue rfl (by simp) ?_
  simp only [argT, irClockDue.eq_1]
  have c1 := rightV_c n m hm
  have c2 := vmembers_c n m hm
  have hl : (memF 16 0 m).length = pop m := memF_len 16 0 m
  unfold dueF
  cases h : rightV n m
  · rw [h] at c1
    simp only [vwP] at c1 ⊢
    simp
    refine CallG.go c1 ?_
    simp
  · have hp := right_pop h
    rw [h] at c1
    by_cases h1 : period < 1
    · have h1' : ¬ 1 ≤ period := by omega
      simp only [vwP] at c1 ⊢
      simp
      refine CallG.go c1 ?_
      simp [h1, h1']
    · by_cases h2 : 60 < period
      · have h2' : ¬ period ≤ 60 := by omega
        simp only [vwP] at c1 ⊢
        simp
        refine CallG.go c1 ?_
        simp [h1, h2, h2']
      · by_cases h3 : slot < 1
        · have h3' : ¬ 1 ≤ slot := by omega
          simp only [vwP] at c1 ⊢
          simp
          refine CallG.go c1 ?_
          simp [h1, h2, h3, h3']
        · rw [if_pos ⟨rfl, by omega, by omega, by omega⟩]
          obtain ⟨s, rfl⟩ : ∃ s : Nat, slot = s := ⟨slot.toNat, by omega⟩
          obtain ⟨q, rfl⟩ : ∃ q : Nat, period = q := ⟨period.toNat, by omega⟩
          rw [Int.toNat_natCast, Int.toNat_natCast]
          have c3 := index_c (memF 16 0 m) i (by omega)
          generalize memF 16 0 m = L at *
          cases hi : idxF L i with
          | none =>
            rw [hi] at c3
            simp only [vwP, idxI] at c1 c2 c3 ⊢
            simp
            refine CallG.go c1 ?_
            simp [h1, h2, h3]
            refine CallG.go c2 ?_
            simp
            refine CallG.go c3 ?_
            simp
          | some p =>
            rw [hi] at c3
            have hpl := idxF_lt hi
            obtain ⟨x, hx⟩ : ∃ x, x = p * q := ⟨_, rfl⟩
            have hxle : x ≤ 7 * 60 := by rw [hx]; exact Nat.mul_le_mul (by omega) (by omega)
            obtain ⟨y, hy⟩ : ∃ y, y = x / pop m := ⟨_, rfl⟩
            have hyle : y ≤ x := by rw [hy]; exact Nat.div_le_self _ _
            have w1 : IntKind.i64.wrap ((p : Int) * (q : Int)) = (x : Int) := by rw [show (p : Int) * (q : Int) = (x : Int) by rw [hx]; exact (Int.natCast_mul _ _).symm]; rw [wrap_i64] <;> omega
            have w2 : (x : Int).tdiv (pop m : Int) = (y : Int) := by rw [hy]; rfl
            have w3 : IntKind.i64.wrap (y : Int) = (y : Int) := by rw [wrap_i64] <;> omega
            have w4 : (s : Int).tmod (q : Int) = ((s % q : Nat) : Int) := rfl
            have w5 : (y : Int).tmod (q : Int) = ((y % q : Nat) : Int) := rfl
            have hq0 : ¬ (q : Int) = 0 := by omega
            have hq0' : ¬ q = 0 := by omega
            have hp0 : ¬ (pop m : Int) = 0 := by omega
            have hp0' : ¬ pop m = 0 := by omega
            have hb : (((s % q : Nat) : Int) == ((y % q : Nat) : Int)) = decide (s % q = y % q) := by
              by_cases hh : s % q = y % q
              · simp [hh]
              · simp [hh]; omega
            obtain ⟨u, hu⟩ : ∃ u, u = s % q := ⟨_, rfl⟩
            obtain ⟨v, hv⟩ : ∃ v, v = y % q := ⟨_, rfl⟩
            rw [← hu, ← hv] at hb
            rw [← hu] at w4
            rw [← hv] at w5
            simp only [vwP, idxI] at c1 c2 c3 ⊢
            rw [← hx, ← hy, ← hu, ← hv]
            simp
            refine CallG.go c1 ?_
            simp [h1, h2, h3]
            refine CallG.go c2 ?_
            simp
            refine CallG.go c3 ?_
            simp [krows_length, hl, w1, w2, w3, w4, w5, hq0, hq0', hp0, hp0', hb]
theorem rdul (L : List Nat) (i : Int) (s q : Nat) (hq : 1 ≤ q ∧ q ≤ 60) (hL : 1 ≤ L.length ∧ L.length ≤ 7) : ∀ (l : List Nat) (k : Nat), L.drop k = l → k ≤ L.length → ∀ (Q : Exit → S → Prop),
   (idxF l i = none → ∀ a b c d e f g h, Q (.exit 0) (mk [(1, a), (2, b), (3, c), (9, d), (10, e), (28, f), (29, g), (30, h), (31, .pv (.bool false))] [])) →
   (∀ p, idxF l i = some p → ∀ a b c d e f g h x y z t u v w, Q .ret (mk [(2, a), (3, b), (8, .pv (.bool (decide (s % q = (k + p) * q / L.length % q)))), (9, c), (10, d), (40, e), (41, f), (42, g), (43, h), (44, x), (45, y), (46, z), (47, t), (48, u), (49, v), (50, w), (51, .pv (.bool (decide (s % q = (k + p) * q / L.length % q))))] [])) →
   LoopW Tryd.prog [1, 2, 3, 9, 10] [] irRef20Due_L1 (mk [(1, .pv (.int .i64 i)), (2, .pv (.int .i64 (s : Nat))), (3, .pv (.int .i64 (q : Nat))), (9, .os 3 1 (krows .i64 L)), (10, .pv (.int .i64 (k : Nat)))] []) Q := by
  intro l
  induction l with
  | nil =>
    intro k hd hk Q hQ _
    have hk2 : k = L.length := by
      have := congrArg List.length hd
      simp at this
      omega
    subst hk2
    refine LoopW.go irRef20Due_L1.eq_1 (by simp) ?_
    simp [krows_length]
    exact hQ (by simp [idxF]) _ _ _ _ _ _ _ _
  | cons r l ih =>
    intro k hd hk Q hQ hQ2
    have hlt : k < L.length := by
      have := congrArg List.length hd
      simp at this
      omega
    have hr : L[k]? = some r := by
      have := congrArg (·[0]?) hd
      simpa using this
    have hd' : L.drop (k + 1) = l := by
      have := congrArg (List.drop 1) hd
      simpa [List.drop_drop, Nat.add_comm] using this
    have i1 : (k : Int) < (L.length : Int) := by omega
    have wk : IntKind.i64.wrap ((k : Int) + 1) = (k + 1 : Nat) := by rw [wrap_i64] <;> omega
    by_cases h : (r : Int) = i
    · have h2 := hQ2 0 (by simp [idxF, List.findIdx?_cons, h])
      rw [Nat.add_zero] at h2
      obtain ⟨x, hx⟩ : ∃ x, x = k * q := ⟨_, rfl⟩
      have hxle : x ≤ 7 * 60 := by rw [hx]; exact Nat.mul_le_mul (by omega) (by omega)
      obtain ⟨y, hy⟩ : ∃ y, y = x / L.length := ⟨_, rfl⟩
      have hyle : y ≤ x := by rw [hy]; exact Nat.div_le_self _ _
      have w1 : IntKind.i64.wrap ((k : Int) * (q : Int)) = (x : Int) := by rw [show (k : Int) * (q : Int) = (x : Int) by rw [hx]; exact (Int.natCast_mul _ _).symm]; rw [wrap_i64] <;> omega
      have w2 : (x : Int).tdiv (L.length : Int) = (y : Int) := by rw [hy]; rfl
      have w3 : IntKind.i64.wrap (y : Int) = (y : Int) := by rw [wrap_i64] <;> omega
      rw [← hx, ← hy] at h2
      have hq0 : ¬ (q : Int) = 0 := by omega
      have hq0' : ¬ q = 0 := by omega
      have hp0 : ¬ (L.length : Int) = 0 := by omega
      have hp0' : ¬ L.length = 0 := by omega
      have hp0'' : ¬ L = [] := fun e => by subst e; simp at hlt
      obtain ⟨u, hu⟩ : ∃ u, u = s % q := ⟨_, rfl⟩
      obtain ⟨v, hv⟩ : ∃ v, v = y % q := ⟨_, rfl⟩
      have w4 : (s : Int).tmod (q : Int) = (u : Int) := by rw [hu]; rfl
      have w5 : (y : Int).tmod (q : Int) = (v : Int) := by rw [hv]; rfl
      rw [← hu, ← hv] at h2
      have hb : ((u : Int) == (v : Int)) = decide (u = v) := by
        by_cases hh : u = v
        · simp [hh]
        · simp [hh]
      refine LoopW.go irRef20Due_L1.eq_1 (by simp) ?_
      simp [-getElem?_pos, i1, hlt, krows_length, krows_get, hr, h, w1, w2, w3, w4, w5, hq0, hq0', hp0, hp0', hp0'', hb]
      exact h2 _ _ _ _ _ _ _ _ _ _ _ _ _ _ _
    · have e : ∀ x : Option Nat, idxF l i = x → idxF (r :: l) i = x.map (· + 1) := fun x hx => by
        subst hx
        simp [idxF, List.findIdx?_cons, h]
      have hn := ih (k + 1) hd' (by omega) Q (fun hh => hQ (by rw [e _ hh]; rfl)) (fun p hh => by
        have := hQ2 (p + 1) (by rw [e _ hh]; rfl)
        rwa [show k + 1 + p = k + (p + 1) by omega])
      refine LoopW.go irRef20Due_L1.eq_1 (by simp) ?_
      simp [-getElem?_pos, i1, hlt, krows_length, krows_get, hr, h, wk]
      exact hn
theorem refDue_c (n : Int) (m : Nat) (i slot period : Int) (hm : m < 65536) (hs : slot < 9223372036854775808) : ACall Tryd.prog 7 [.pagg (vwP (n, m)), .pv (.int .i64 i), .pv (.int .i64 slot), .pv (.int .i64 period)] [] (.pv (.bool (dueF n m i slot period))) [] [] := by
  refine ACall.fn (fn := Tryd.f7) rfl okRef20Due rfl (by simp) ?_
  simp only [argT, irRef20Due.eq_1]
  have c1 := refRightV_c n m hm
  have c2 := members_c n m hm
  have hl : (memF 16 0 m).length = pop m := memF_len 16 0 m
  unfold dueF
  cases h : rightV n m
  · rw [h] at c1
    simp only [vwP] at c1 ⊢
    simp
    refine CallG.go c1 ?_
    simp
  · have hp := right_pop h
    rw [h] at c1
    by_cases h1 : period < 1
    · have h1' : ¬ 1 ≤ period := by omega
      simp only [vwP] at c1 ⊢
      simp
      refine CallG.go c1 ?_
      simp [h1, h1']
    · by_cases h2 : 60 < period
      · have h2' : ¬ period ≤ 60 := by omega
        simp only [vwP] at c1 ⊢
        simp
        refine CallG.go c1 ?_
        simp [h1, h2, h2']
      · by_cases h3 : slot < 1
        · have h3' : ¬ 1 ≤ slot := by omega
          simp only [vwP] at c1 ⊢
          simp
          refine CallG.go c1 ?_
          simp [h1, h2, h3, h3']
        · rw [if_pos ⟨rfl, by omega, by omega, by omega⟩]
          obtain ⟨s, rfl⟩ : ∃ s : Nat, slot = s := ⟨slot.toNat, by omega⟩
          obtain ⟨q, rfl⟩ : ∃ q : Nat, period = q := ⟨period.toNat, by omega⟩
          rw [Int.toNat_natCast, Int.toNat_natCast]
          have hlp := rdul (memF 16 0 m) i s q ⟨by omega, by omega⟩ ⟨by omega, by omega⟩ (memF 16 0 m) 0 rfl (Nat.zero_le _)
          simp only [hl] at hlp
          generalize memF 16 0 m = L at *
          simp only [vwP] at c1 c2 ⊢
          simp
          refine CallG.go c1 ?_
          simp [h1, h2, h3]
          refine CallG.go c2 ?_
          simp
          refine hlp _ (fun hh a b c d e f g h => ?_) (fun p hh a b c d e f g h x y z t u v w => ?_)
          · simp [hh]
          · simp [hh]
theorem held3 : ACall Tryd.prog 16 [.pv (.int .i64 3)] [] (.pv (.int .i64 3)) [] [] := by
  refine ACall.fn (fn := Tryd.f16) rfl okClockHeld rfl (by simp) ?_
  simp only [argT, irClockHeld.eq_1]
  simp
theorem held20 : ACall Tryd.prog 16 [.pv (.int .i64 20)] [] (.pv (.int .i64 20)) [] [] := by
  refine ACall.fn (fn := Tryd.f16) rfl okClockHeld rfl (by simp) ?_
  simp only [argT, irClockHeld.eq_1]
  simp
theorem new_c : ACall Tryd.prog 10 [.pv (.int .i64 3), .pv (.int .i64 20)] [] (.ptr 2000 0) [] [.pagg [.int .i64 3, .int .i64 20, .int .i64 0]] := by
  refine ACall.fn (fn := Tryd.f10) rfl okClockNew rfl (by simp) ?_
  simp only [argT, irClockNew.eq_1]
  simp
  refine CallG.go held3 ?_
  simp
  refine CallG.go held20 ?_
  simp
theorem w64 (x : Nat) (h : x < 1000) : IntKind.i64.wrap (x : Int) = x := by rw [wrap_i64] <;> omega
theorem limit2 : ACall Tryd.prog 11 [.ptr 1000 0, .pv (.int .i64 2)] [.pagg [.int .i64 3, .int .i64 20, .int .i64 0]] (.pv (.int .i64 12)) [.pagg [.int .i64 3, .int .i64 20, .int .i64 0]] [] := by
  refine ACall.fn (fn := Tryd.f11) rfl okClockClockLimit rfl (by simp) ?_
  simp only [argT, irClockClockLimit.eq_1]
  have w6 : IntKind.i64.wrap 6 = 6 := w64 6 (by decide)
  have w12 : IntKind.i64.wrap 12 = 12 := w64 12 (by decide)
  have hb : min 1 IntKind.i64.bits = 1 := rfl
  simp
  refine LoopW.go irClockClockLimit_L1.eq_1 (by simp) ?_
  simp [hb, w6, w12]
  refine LoopW.go irClockClockLimit_L1.eq_1 (by simp) ?_
  simp [hb, w6, w12]
  refine LoopW.go irClockClockLimit_L1.eq_1 (by simp) ?_
  simp [hb, w6, w12]
theorem limit5 : ACall Tryd.prog 11 [.ptr 1000 0, .pv (.int .i64 5)] [.pagg [.int .i64 3, .int .i64 20, .int .i64 0]] (.pv (.int .i64 20)) [.pagg [.int .i64 3, .int .i64 20, .int .i64 0]] [] := by
  refine ACall.fn (fn := Tryd.f11) rfl okClockClockLimit rfl (by simp) ?_
  simp only [argT, irClockClockLimit.eq_1]
  have w6 : IntKind.i64.wrap 6 = 6 := w64 6 (by decide)
  have w12 : IntKind.i64.wrap 12 = 12 := w64 12 (by decide)
  have w24 : IntKind.i64.wrap 24 = 24 := w64 24 (by decide)
  have w48 : IntKind.i64.wrap 48 = 48 := w64 48 (by decide)
  have w96 : IntKind.i64.wrap 96 = 96 := w64 96 (by decide)
  have hb : min 1 IntKind.i64.bits = 1 := rfl
  simp
  refine LoopW.go irClockClockLimit_L1.eq_1 (by simp) ?_
  simp [hb, w6, w12, w24, w48, w96]
  refine LoopW.go irClockClockLimit_L1.eq_1 (by simp) ?_
  simp [hb, w6, w12, w24, w48, w96]
  refine LoopW.go irClockClockLimit_L1.eq_1 (by simp) ?_
  simp [hb, w6, w12, w24, w48, w96]
  refine LoopW.go irClockClockLimit_L1.eq_1 (by simp) ?_
  simp [hb, w6, w12, w24, w48, w96]
  refine LoopW.go irClockClockLimit_L1.eq_1 (by simp) ?_
  simp [hb, w6, w12, w24, w48, w96]
  refine LoopW.go irClockClockLimit_L1.eq_1 (by simp) ?_
  simp [hb, w6, w12, w24, w48, w96]
theorem at_c : ACall Tryd.prog 12 [.ptr 1000 0] [.pagg [.int .i64 3, .int .i64 20, .int .i64 0]] (.pv (.int .i64 0)) [.pagg [.int .i64 3, .int .i64 20, .int .i64 0]] [] := by
  refine ACall.fn (fn := Tryd.f12) rfl okClockClockAt rfl (by simp) ?_
  simp only [argT, irClockClockAt.eq_1]
  simp
theorem wakes_c : ACall Tryd.prog 5 [] [] (.pv (.bool true)) [] [] := by
  refine ACall.fn (fn := Tryd.f5) rfl okLaw20Wakes rfl (by simp) ?_
  simp only [argT, irLaw20Wakes.eq_1]
  simp
  refine CallG.go new_c ?_
  simp
  refine CallG.go limit2 ?_
  simp
  refine CallG.go limit5 ?_
  simp
  refine CallG.go at_c ?_
  simp
theorem lawDue_c (n : Int) (m : Nat) (i a b : Int) (hm : m < 65536) (ha : a < 9223372036854775808) : ACall Tryd.prog 3 [.pagg (vwP (n, m)), .pv (.int .i64 i), .pagg [.int .i64 a, .int .i64 b]] [] (.pv (.bool true)) [] [] := by
  refine ACall.fn (fn := Tryd.f3) rfl okLaw20ClockDue rfl (by simp) ?_
  simp only [argT, irLaw20ClockDue.eq_1]
  have c1 := due_c n m i a b hm ha
  have c2 := refDue_c n m i a b hm ha
  generalize dueF n m i a b = x at *
  simp only [vwP] at c1 c2 ⊢
  simp
  refine CallG.go wakes_c ?_
  simp
  refine CallG.go c1 ?_
  simp
  refine CallG.go c2 ?_
  simp
theorem arg_pair {w : World} {c : Array Value} (h : Shp.Reads w (.arr 2 (.int .i64)) c.toList) : ∃ (a b : Int), ArgR w (.agg c) (.pagg [.int .i64 a, .int .i64 b]) ∧ a < 9223372036854775808 := by
  obtain ⟨ps, h1, h2, h3⟩ := pvs_of_reads rfl h
  obtain ⟨hl, hat⟩ := h2
  have g0 := hat 0 (by decide)
  have g1 := hat 1 (by decide)
  obtain ⟨a, ea, _, ha⟩ := ok_i64 g0
  obtain ⟨b, eb, _, _⟩ := ok_i64 g1
  match ps, hl, ea, eb with
  | [p, q], _, ea, eb =>
    simp [Shp.size] at ea eb
    subst ea eb
    exact ⟨a, b, ArgR.agg h1, ha⟩
theorem walkClockDue (c0 : Array Value) (a1 : Int) (c2 : Array Value) (w : World) (hg : ∀ (j n : Nat), (Go.Abs.gtOf Tryd.prog)[j]? = some n → w.cell? ⟨0, j, none⟩ = some (.int .u8 (n : Int))) (k0 : Shp.Reads w shV c0.toList) (w1 : (Lit.int .i64 a1).wf = true) (k2 : Shp.Reads w (.arr 2 (.int .i64)) c2.toList) :
     Calls Tryd.prog 3 #[.agg c0, .int .i64 a1, .agg c2] w fun e w' => e = .returned (.bool true) ∧ Below w.heap.size w w' := by
  obtain ⟨n, m, q0, hm⟩ := arg_view k0
  obtain ⟨a, b, q1, ha⟩ := arg_pair k2
  refine lawCallsG (lawDue_c n m a1 a b hm ha) rfl hg fun i v av hv ha => ?_
  match i with
  | 0 => cases hv; cases ha; exact q0
  | 1 => cases hv; cases ha; exact arg_int _ _
  | 2 => cases hv; cases ha; exact q1
  | n + 3 => simp at hv
end Go.Proofs.YtdmgkgkhdkoojaaDoor
