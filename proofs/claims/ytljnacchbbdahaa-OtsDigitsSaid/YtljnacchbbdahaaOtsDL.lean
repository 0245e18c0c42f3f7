/- The walk of OtsDigits. -/
import Derived.Test.YtljnacchbbdahaaOtsDR
set_option linter.unusedVariables false
set_option linter.unusedSimpArgs false
namespace Go.Proofs.Ytljnacchbbdahaa
open Go.Abs Go.RowKit Go.Ours

def lo (A B : List Nat) (k : Nat) : Bool := (List.range k).any fun i => decide (A.getD i 0 < B.getD i 0)
def df (A B : List Nat) (k : Nat) : Bool := (List.range k).any fun i => decide (A.getD i 0 ≠ B.getD i 0)
theorem lo_step (A B : List Nat) (k x y : Nat) (hx : A[k]? = some x) (hy : B[k]? = some y) : lo A B (k + 1) = (lo A B k || decide (x < y)) := by
  simp [lo, List.range_succ, List.getD_eq_getElem?_getD, hx, hy]
theorem df_step (A B : List Nat) (k x y : Nat) (hx : A[k]? = some x) (hy : B[k]? = some y) : df A B (k + 1) = (df A B k || decide (x ≠ y)) := by
  simp [df, List.range_succ, List.getD_eq_getElem?_getD, hx, hy]

theorem wlp1 (h1 h2 A B : List Nat) (hA : A.length = 35) (hB : B.length = 35) : ∀ (n k : Nat), k + n = 35 → ∀ (Q : Exit → S → Prop),
   (∀ b1 b2, b1 = lo A B 35 → b2 = lo B A 35 → Q (.exit 0) (mk [(2, .ptr 2 0), (3, .ptr 3 0), (5, .ptr 5 0), (6, .ptr 6 0), (7, .pv (.bool b1)), (8, .pv (.bool b2)), (9, .pv (.bool false)), (30, .pv (.int .i64 35)), (31, .pv (.bool false))] [(2, .pagg (kns .u8 h1)), (3, .pagg (kns .u8 h2)), (5, .pagg (kns .i64 A)), (6, .pagg (kns .i64 B))])) →
   LoopW Try.prog [2, 3, 5, 6, 7, 8, 9, 30] [2, 3, 5, 6] irLaw04OtsDigits_L1 (mk [(2, .ptr 2 0), (3, .ptr 3 0), (5, .ptr 5 0), (6, .ptr 6 0), (7, .pv (.bool (lo A B k))), (8, .pv (.bool (lo B A k))), (9, .pv (.bool false)), (30, .pv (.int .i64 k))] [(2, .pagg (kns .u8 h1)), (3, .pagg (kns .u8 h2)), (5, .pagg (kns .i64 A)), (6, .pagg (kns .i64 B))]) Q := by
  intro n
  induction n with
  | zero =>
    intro k hk Q hQ
    obtain rfl : k = 35 := by omega
    refine LoopW.go irLaw04OtsDigits_L1.eq_1 (by simp) ?_
    simp
    exact hQ _ _ rfl rfl
  | succ n ih =>
    intro k hk Q hQ
    obtain ⟨x, hx⟩ : ∃ x, A[k]? = some x := ⟨_, List.getElem?_eq_getElem (by omega)⟩
    obtain ⟨y, hy⟩ : ∃ y, B[k]? = some y := ⟨_, List.getElem?_eq_getElem (by omega)⟩
    have i1 : (k : Int) < 35 := by omega
    have i2 : k < 35 := by omega
    have v5 : IntKind.i64.wrap ((k : Int) + 1) = (k + 1 : Nat) := by rw [wrap_i64] <;> omega
    have hn := ih (k + 1) (by omega) Q hQ
    rw [lo_step A B k x y hx hy, lo_step B A k y x hy hx] at hn
    refine LoopW.go irLaw04OtsDigits_L1.eq_1 (by simp) ?_
    generalize lo A B k = b1 at *
    generalize lo B A k = b2 at *
    cases b1 <;> cases b2 <;> simpa [-getElem?_pos, i1, i2, kns_get, krows_get, hx, hy, v5] using hn
theorem wlp2 (h1 h2 : List Nat) (b1 b2 : Bool) (hA : h1.length = 32) (hB : h2.length = 32) : ∀ (n k : Nat), k + n = 16 → ∀ (Q : Exit → S → Prop),
   (∀ b3, b3 = df h1 h2 16 → Q (.exit 2) (mk [(2, .ptr 2 0), (3, .ptr 3 0), (7, .pv (.bool b1)), (8, .pv (.bool b2)), (9, .pv (.bool b3)), (54, .pv (.int .i64 16)), (55, .pv (.bool false))] [(2, .pagg (kns .u8 h1)), (3, .pagg (kns .u8 h2))])) →
   LoopW Try.prog [2, 3, 7, 8, 9, 54] [2, 3] irLaw04OtsDigits_L2 (mk [(2, .ptr 2 0), (3, .ptr 3 0), (7, .pv (.bool b1)), (8, .pv (.bool b2)), (9, .pv (.bool (df h1 h2 k))), (54, .pv (.int .i64 k))] [(2, .pagg (kns .u8 h1)), (3, .pagg (kns .u8 h2))]) Q := by
  intro n
  induction n with
  | zero =>
    intro k hk Q hQ
    obtain rfl : k = 16 := by omega
    refine LoopW.go irLaw04OtsDigits_L2.eq_1 (by simp) ?_
    simp
    exact hQ _ rfl
  | succ n ih =>
    intro k hk Q hQ
    obtain ⟨x, hx⟩ : ∃ x, h1[k]? = some x := ⟨_, List.getElem?_eq_getElem (by omega)⟩
    obtain ⟨y, hy⟩ : ∃ y, h2[k]? = some y := ⟨_, List.getElem?_eq_getElem (by omega)⟩
    have i1 : (k : Int) < 16 := by omega
    have i2 : (k : Int) < 32 := by omega
    have i3 : k < 32 := by omega
    have v5 : IntKind.i64.wrap ((k : Int) + 1) = (k + 1 : Nat) := by rw [wrap_i64] <;> omega
    have hn := ih (k + 1) (by omega) Q hQ
    rw [df_step h1 h2 k x y hx hy] at hn
    refine LoopW.go irLaw04OtsDigits_L2.eq_1 (by simp) ?_
    generalize df h1 h2 k = b3 at *
    cases b3 <;> simpa [-getElem?_pos, i1, i2, i3, kns_get, krows_get, hx, hy, v5] using hn
/-- The plain law. -/
theorem lo_true (A B : List Nat) (i x y : Nat) (hi : i < 35) (hx : A[i]? = some x) (hy : B[i]? = some y) (hlt : x < y) : lo A B 35 = true := by
  simp only [lo, List.any_eq_true, List.mem_range, decide_eq_true_eq]
  exact ⟨i, hi, by simpa [List.getD_eq_getElem?_getD, hx, hy] using hlt⟩
theorem plain (h1 h2 : List Nat) (hA : h1.length = 32) (hB : h2.length = 32) (hb1 : ∀ x ∈ h1, x < 256) (hb2 : ∀ x ∈ h2, x < 256) :
    df h1 h2 16 = lo (digs (h1.take 16)) (digs (h2.take 16)) 35 ∧ df h1 h2 16 = lo (digs (h2.take 16)) (digs (h1.take 16)) 35 := by
  have l1 : (h1.take 16).length = 16 := by rw [List.length_take]; omega
  have l2 : (h2.take 16).length = 16 := by rw [List.length_take]; omega
  by_cases h : h1.take 16 = h2.take 16
  · have e : df h1 h2 16 = false := by
      simp only [df, List.any_eq_false, List.mem_range, decide_eq_true_eq, Decidable.not_not, ne_eq]
      intro i hi
      have := congrArg (fun l : List Nat => l[i]?) h
      simp only [List.getElem?_take, if_pos hi] at this
      rw [List.getD_eq_getElem?_getD, List.getD_eq_getElem?_getD, this]
    rw [e, h]
    simp [lo]
  · have e : df h1 h2 16 = true := by
      refine Classical.byContradiction fun hn => h ?_
      simp only [Bool.not_eq_true, df, List.any_eq_false, List.mem_range, decide_eq_true_eq, Decidable.not_not, ne_eq] at hn
      refine List.ext_getElem? fun i => ?_
      by_cases hi : i < 16
      · have := hn i hi
        rw [List.getD_eq_getElem?_getD, List.getD_eq_getElem?_getD] at this
        rw [List.getElem?_take, List.getElem?_take, if_pos hi, if_pos hi]
        rw [List.getElem?_eq_getElem (by omega : i < h1.length), List.getElem?_eq_getElem (by omega : i < h2.length)] at this ⊢
        simpa using this
      · rw [List.getElem?_eq_none (by omega), List.getElem?_eq_none (by omega)]
    obtain ⟨i, x, y, hi, hx, hy, hlt⟩ := digs_below _ _ l1 l2 (fun x hx => hb1 x (List.mem_of_mem_take hx)) (fun x hx => hb2 x (List.mem_of_mem_take hx)) h
    obtain ⟨i', x', y', hi', hx', hy', hlt'⟩ := digs_below _ _ l2 l1 (fun x hx => hb2 x (List.mem_of_mem_take hx)) (fun x hx => hb1 x (List.mem_of_mem_take hx)) (fun e => h e.symm)
    rw [e, lo_true _ _ i x y hi hx hy hlt, lo_true _ _ i' x' y' hi' hx' hy' hlt']
    exact ⟨rfl, rfl⟩
theorem law_c (h1 h2 : List Nat) (hA : h1.length = 32) (hB : h2.length = 32) (hb1 : ∀ x ∈ h1, x < 256) (hb2 : ∀ x ∈ h2, x < 256) : ACall Try.prog 3 [.pagg (kns .u8 h1), .pagg (kns .u8 h2)] [] (.pv (.bool true)) [] [] := by
  refine ACall.fn (fn := Try.f3) rfl okLaw04OtsDigits rfl (by simp) ?_
  simp only [argT, irLaw04OtsDigits.eq_1]
  have d1 := dig_c h1 hA hb1
  have d2 := dig_c h2 hB hb2
  have r1 := rdig_c h1 hA hb1
  have r2 := rdig_c h2 hB hb2
  have la : (digs (h1.take 16)).length = 35 := by rw [digs_length, List.length_take]; omega
  have lb : (digs (h2.take 16)).length = 35 := by rw [digs_length, List.length_take]; omega
  have s1 := same_c _ _ la la
  have s2 := same_c _ _ lb lb
  obtain ⟨p1, p2⟩ := plain h1 h2 hA hB hb1 hb2
  generalize digs (h1.take 16) = A at *
  generalize digs (h2.take 16) = B at *
  simp [-List.reduceReplicate]
  refine CallG.go wakes_c ?_
  simp [-List.reduceReplicate, kns_length, hA, hB]
  refine CallG.go d1 ?_
  simp [-List.reduceReplicate, kns_length, hA, hB]
  refine CallG.go d2 ?_
  simp [-List.reduceReplicate, kns_length, hA, hB, la, lb]
  refine CallG.go r1 ?_
  simp [-List.reduceReplicate, kns_length, hA, hB, la, lb]
  refine CallG.go s1 ?_
  simp [-List.reduceReplicate, kns_length, hA, hB, la, lb]
  refine CallG.go r2 ?_
  simp [-List.reduceReplicate, kns_length, hA, hB, la, lb]
  refine CallG.go s2 ?_
  simp [-List.reduceReplicate, kns_length, hA, hB, la, lb]
  refine wlp1 h1 h2 A B la lb 35 0 rfl _ fun b1 b2 e1 e2 => ?_
  simp [-List.reduceReplicate]
  refine wlp2 h1 h2 b1 b2 hA hB 16 0 rfl _ fun b3 e3 => ?_
  obtain rfl : b3 = b1 := by rw [e3, p1, e1]
  obtain rfl : b3 = b2 := by rw [e3, p2, e2]
  cases b3 <;> simp
end Go.Proofs.Ytljnacchbbdahaa
