/- The disk: crashes: contracts. No condition. -/
import Derived.Test.YtlbfpnckoblppaaSnapC
set_option linter.unusedVariables false
set_option linter.unusedSimpArgs false
namespace Go.Proofs.Ytlbfpnckoblppaa
open Go.Abs Go.RowKit Go.Ours

def planP (keep torn cut : Int) : List PV := [.int .u64 keep, .int .i64 torn, .int .i64 cut]
theorem left_cut (k : Nat) (hk : k = 1 ∨ k = 2) (n m : ByteArray) (v : List Nat) (i kk : Nat) (keep torn cut : Int) (ht : torn = (i : Int)) (hc : (if 0 < (if (v.length : Int) < cut then (v.length : Int) else cut) then (if (v.length : Int) < cut then (v.length : Int) else cut) else 0) = (kk : Int)) (hkk : kk ≤ v.length) :
    ACall Try.prog 41 [.pagg (actP k n m v), .pv (.int .i64 (i : Nat)), .pagg (planP keep torn cut)] [] (.tup [.pagg (actP k n m (v.take kk)), .pv (.bool true)]) [] [] := by
  refine ACall.fn (fn := Try.f41) rfl okDiskLeft rfl (by simp) ?_
  simp only [argT, irDiskLeft.eq_1]
  subst ht
  have hk2 : (kk : Int) ≤ (v.length : Int) := by omega
  rcases hk with rfl | rfl
  · simp [actP, planP, krows_length, hc, hkk, hk2, krows_take]
  · simp [actP, planP, krows_length, hc, hkk, hk2, krows_take]
def bitF (keep : Int) (i : Nat) : Bool := !decide (bits BinOp.and IntKind.u64 (keep.fdiv (2 ^ min (i % 64) IntKind.u64.bits)) 1 = 0)
theorem left_keep (k : Nat) (n m : ByteArray) (v : List Nat) (i : Nat) (keep torn cut : Int) (ht : torn ≠ (i : Int) ∨ (k ≠ 1 ∧ k ≠ 2)) :
    ACall Try.prog 41 [.pagg (actP k n m v), .pv (.int .i64 (i : Nat)), .pagg (planP keep torn cut)] [] (.tup [.pagg (actP k n m v), .pv (.bool (bitF keep i))]) [] [] := by
  refine ACall.fn (fn := Try.f41) rfl okDiskLeft rfl (by simp) ?_
  simp only [argT, irDiskLeft.eq_1]
  obtain ⟨j, hj⟩ : ∃ j, j = i % 64 := ⟨_, rfl⟩
  have ht2 : (i : Int).tmod 64 = (j : Int) := by rw [hj]; rfl
  unfold bitF
  rw [← hj]
  by_cases h : torn = (i : Int)
  · have h2 : k ≠ 1 ∧ k ≠ 2 := by
      rcases ht with h2 | h2
      · exact absurd h h2
      · exact h2
    subst h
    have h3 : ¬ (k : Int) = 1 := by omega
    have h4 : ¬ (k : Int) = 2 := by omega
    by_cases hb : bits BinOp.and IntKind.u64 (keep.fdiv (2 ^ min j IntKind.u64.bits)) 1 = 0
    · simp [actP, planP, h2, h3, h4, ht2, hb]
    · simp [actP, planP, h2, h3, h4, ht2, hb]
  · have h' : ¬ (i : Int) = torn := fun e => h e.symm
    by_cases hb : bits BinOp.and IntKind.u64 (keep.fdiv (2 ^ min j IntKind.u64.bits)) 1 = 0
    · simp [actP, planP, h', ht2, hb]
    · simp [actP, planP, h', ht2, hb]
/-- What a crash leaves of a thing. -/
theorem left_d (k : Nat) (hk : k = 1 ∨ k = 2 ∨ k = 3) (n m : ByteArray) (v : List Nat) (i : Nat) (keep torn cut : Int) : ∃ (v' : List Nat) (b : Bool), v'.length ≤ v.length ∧ (k = 3 → v' = v) ∧
    ACall Try.prog 41 [.pagg (actP k n m v), .pv (.int .i64 (i : Nat)), .pagg (planP keep torn cut)] [] (.tup [.pagg (actP k n m v'), .pv (.bool b)]) [] [] := by
  by_cases h : torn = (i : Int) ∧ (k = 1 ∨ k = 2)
  · obtain ⟨h1, h2⟩ := h
    have hex : ∃ kk : Nat, kk ≤ v.length ∧ (if 0 < (if (v.length : Int) < cut then (v.length : Int) else cut) then (if (v.length : Int) < cut then (v.length : Int) else cut) else 0) = (kk : Int) := by
      by_cases c1 : (v.length : Int) < cut
      · refine ⟨v.length, Nat.le_refl _, ?_⟩
        rw [if_pos c1]
        split <;> omega
      · rw [if_neg c1]
        by_cases c2 : 0 < cut
        · exact ⟨cut.toNat, by omega, by rw [if_pos c2]; omega⟩
        · exact ⟨0, by omega, by rw [if_neg c2]; rfl⟩
    obtain ⟨kk, hkk, hc⟩ := hex
    exact ⟨v.take kk, true, by rw [List.length_take]; omega, fun e => by omega, left_cut k h2 n m v i kk keep torn cut h1 hc hkk⟩
  · exact ⟨v, bitF keep i, Nat.le_refl _, fun _ => rfl, left_keep k n m v i keep torn cut (by
      by_cases h1 : torn = (i : Int)
      · right; constructor <;> (intro e; exact h ⟨h1, by omega⟩)
      · left; exact h1)⟩
theorem crash0_d (room : Nat) (F : Fs) (e2 : List (List PV × PV)) (keep torn cut : Int) : ACall Try.prog 21 [.ptr 1000 0, .pagg (planP keep torn cut)] [dkA room [], mcF F, .mc false [.s] e2] (.tup []) [.agg [.pv (.int .i64 (room : Nat)), .mp 1001, .mp 2000, .os 61 4 [], .pv (.int .i64 (-1)), .pv (.bool false)], mcF F, .mc false [.s] e2] [mcF F] := by
  refine ACall.fn (fn := Try.f21) rfl okDiskDiskCrash rfl (by simp) ?_
  simp only [argT, irDiskDiskCrash.eq_1]
  have c := settle_d room [] (fcs F) e2
  simp only [dkA, mcF] at c ⊢
  generalize fcs F = f at *
  generalize planP keep torn cut = p at *
  simp
  refine LoopW.go irDiskDiskCrash_L1.eq_1 (by simp) ?_
  simp
  refine CallG.go c ?_
  simp
  rfl
theorem crash1_d (room : Nat) (F : Fs) (e2 : List (List PV × PV)) (keep torn cut : Int) (k : Nat) (hk : k = 1 ∨ k = 2 ∨ k = 3) (n m : ByteArray) (v : List Nat) (g : List Nat → Fs)
    (hdo : ∀ v', v'.length ≤ v.length → (k = 3 → v' = v) → ACall Try.prog 42 [.mp 1000, .pagg (actP k n m v')] [mcF F] (.tup []) [mcF (g v')] []) :
    ∃ F', (F' = F ∨ ∃ v', v'.length ≤ v.length ∧ (k = 3 → v' = v) ∧ F' = g v') ∧ ACall Try.prog 21 [.ptr 1000 0, .pagg (planP keep torn cut)] [dkA room [actP k n m v], mcF F, .mc false [.s] e2] (.tup []) [.agg [.pv (.int .i64 (room : Nat)), .mp 1001, .mp 2000, .os 61 4 [], .pv (.int .i64 (-1)), .pv (.bool false)], mcF F', .mc false [.s] e2] [mcF F'] := by
  obtain ⟨v', b, h1, h2, cl⟩ := left_d k hk n m v 0 keep torn cut
  have hd := hdo v' h1 h2
  have e0 : ((0 : Nat) : Int) = 0 := rfl
  rw [e0] at cl
  have la : (actP k n m v).length = 4 := rfl
  have la' : (actP k n m v').length = 4 := rfl
  have lp : (planP keep torn cut).length = 3 := rfl
  cases b with
  | false =>
    refine ⟨F, Or.inl rfl, ?_⟩
    refine ACall.fn (fn := Try.f21) rfl okDiskDiskCrash rfl (by simp) ?_
    simp only [argT, irDiskDiskCrash.eq_1]
    have c := settle_d room [actP k n m v] (fcs F) e2
    simp only [dkA, mcF] at c ⊢
    generalize fcs F = f at *
    generalize planP keep torn cut = p at *
    generalize actP k n m v = A at *
    generalize actP k n m v' = A' at *
    simp
    refine LoopW.go irDiskDiskCrash_L1.eq_1 (by simp) ?_
    simp [la, lp]
    refine CallG.go cl ?_
    simp [la']
    refine LoopW.go irDiskDiskCrash_L1.eq_1 (by simp) ?_
    simp
    refine CallG.go c ?_
    simp
    rfl
  | true =>
    refine ⟨g v', Or.inr ⟨v', h1, h2, rfl⟩, ?_⟩
    refine ACall.fn (fn := Try.f21) rfl okDiskDiskCrash rfl (by simp) ?_
    simp only [argT, irDiskDiskCrash.eq_1]
    have c := settle_d room [actP k n m v] (fcs (g v')) e2
    simp only [dkA, mcF] at c hd ⊢
    generalize fcs (g v') = f' at *
    generalize fcs F = f at *
    generalize planP keep torn cut = p at *
    generalize actP k n m v = A at *
    generalize actP k n m v' = A' at *
    simp
    refine LoopW.go irDiskDiskCrash_L1.eq_1 (by simp) ?_
    simp [la, lp]
    refine CallG.go cl ?_
    simp [la']
    refine CallG.go hd ?_
    simp
    refine LoopW.go irDiskDiskCrash_L1.eq_1 (by simp) ?_
    simp
    refine CallG.go c ?_
    simp
    rfl
end Go.Proofs.Ytlbfpnckoblppaa
