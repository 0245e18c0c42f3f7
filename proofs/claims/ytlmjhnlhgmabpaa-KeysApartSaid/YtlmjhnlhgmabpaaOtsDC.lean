import Derived.Test.YtlmjhnlhgmabpaaAbs2
import Derived.Test.YtlmjhnlhgmabpaaPlainOts
import Derived.Test.YtlmjhnlhgmabpaaIrOtsD
import Derived.IntWalk
set_option linter.unusedVariables false
set_option linter.unusedSimpArgs false
namespace Go.Proofs.Ytlmjhnlhgmabpaa
open Go.Abs Go.RowKit Go.Ours

def digD (h : List Nat) (k : Nat) : List Nat := nibs (h.take k) ++ List.replicate (35 - 2 * k) 0
def sumI (h : List Nat) (k : Nat) : Int := 30 * k - (sumL (nibs (h.take k)) : Nat)
theorem nibs_snoc (l : List Nat) (x : Nat) : nibs (l ++ [x]) = nibs l ++ [x / 16, x % 16] := by
  induction l with
  | nil => rfl
  | cons b t ih => simp [nibs, ih]
theorem digD_step {h : List Nat} {k x : Nat} (hx : h[k]? = some x) (hk : k < 16) : ((digD h k).set (2 * k) (x / 16)).set (2 * k + 1) (x % 16) = digD h (k + 1) := by
  have hl : (nibs (h.take k)).length = 2 * k := by
    rw [nibs_length, List.length_take]
    have := (List.getElem?_eq_some_iff.1 hx).1
    omega
  unfold digD
  rw [List.take_add_one, hx]
  simp only [Option.toList_some]
  rw [nibs_snoc, List.set_append_right _ _ (by omega), List.set_append_right _ _ (by omega), hl, Nat.sub_self, show 2 * k + 1 - 2 * k = 1 by omega, show 35 - 2 * k = (35 - 2 * (k + 1)) + 1 + 1 by omega]
  simp [List.replicate_succ]

theorem digD_len {h : List Nat} {k : Nat} (hl : h.length = 32) (hk : k ≤ 16) : (digD h k).length = 35 := by simp [digD, nibs_length, hl]; omega

theorem dig1 (h : List Nat) (k x : Nat) (left : Int) (D : List Nat) (hk : k < 16) (hx : h[k]? = some x) (hb : x < 256) (hd : D.length = 35) (hs : 0 ≤ left ∧ left < 1000) (Q : Exit → S → Prop)
    (hn : LoopW Try.prog [1, 2, 3, 4, 7] [1, 2, 3] irOtsDigits_L1 (mk [(1, .ptr 1 0), (2, .ptr 2 0), (3, .ptr 3 0), (4, .pv (.int .i64 (left + 30 - (x / 16 : Nat) - (x % 16 : Nat)))), (7, .pv (.int .i64 (k + 1 : Nat)))] [(1, .pagg (kns .u8 h)), (2, .pagg (kns .i64 (List.replicate 35 0))), (3, .pagg (kns .i64 ((D.set (2 * k) (x / 16)).set (2 * k + 1) (x % 16))))]) Q) :
   LoopW Try.prog [1, 2, 3, 4, 7] [1, 2, 3] irOtsDigits_L1 (mk [(1, .ptr 1 0), (2, .ptr 2 0), (3, .ptr 3 0), (4, .pv (.int .i64 left)), (7, .pv (.int .i64 k))] [(1, .pagg (kns .u8 h)), (2, .pagg (kns .i64 (List.replicate 35 0))), (3, .pagg (kns .i64 D))]) Q := by
  refine LoopW.go irOtsDigits_L1.eq_1 (by simp) ?_
  have h1 : (k : Int) < 16 := by omega
  obtain ⟨j, hj⟩ : ∃ j, j = 2 * k := ⟨_, rfl⟩
  have w0 : IntKind.i64.wrap (2 * (k : Int)) = (j : Int) := by rw [wrap_i64] <;> omega
  have w1 : IntKind.i64.wrap ((j : Int) + 1) = ((j + 1 : Nat) : Int) := by rw [wrap_i64] <;> omega
  have w2 : (x : Int).fdiv (2 ^ min 4 IntKind.u8.bits) = ((x / 16 : Nat) : Int) := shr_nat x 4
  have w3 := and_15 x hb
  have w4 : IntKind.i64.wrap ((x / 16 : Nat) : Int) = ((x / 16 : Nat) : Int) := by rw [wrap_i64] <;> omega
  have w5 : IntKind.i64.wrap ((x % 16 : Nat) : Int) = ((x % 16 : Nat) : Int) := by rw [wrap_i64] <;> omega
  have j1 : (j : Int) < 35 := by omega
  have j2 : (j : Int) + 1 < 35 := by omega
  have j3 : j < 35 := by omega
  have j4 : j + 1 < 35 := by omega
  have p1 : x / 16 < 16 := by omega
  have q1 : x % 16 < 16 := by omega
  clear hb
  generalize x / 16 = p at *
  generalize x % 16 = q at *
  have g1 : (D.set j p)[j]? = some p := List.getElem?_set_self (by omega)
  have g2 : ((D.set j p).set (j + 1) q)[j + 1]? = some q := List.getElem?_set_self (by simp; omega)
  have v1 : IntKind.i64.wrap (30 - (p : Int)) = 30 - p := by rw [wrap_i64] <;> omega
  have v2 : IntKind.i64.wrap (30 - (p : Int) - q) = 30 - p - q := by rw [wrap_i64] <;> omega
  have v3 : IntKind.i64.wrap (left + (30 - (p : Int) - q)) = left + 30 - p - q := by rw [wrap_i64] <;> omega
  have v4 : IntKind.i64.wrap ((k : Int) + 1) = (k + 1 : Nat) := by rw [wrap_i64] <;> omega
  simp [-List.reduceReplicate, h1, kns_get, hx, w0, w1, w2, w3, w4, w5, kns_set, j1, j2, hd, kns_length, g1, g2, v1, v2, v3, v4]
  subst hj
  exact ⟨by omega, by omega, by omega, hn⟩
theorem sumI_step {h : List Nat} {k x : Nat} (hx : h[k]? = some x) : sumI h (k + 1) = sumI h k + 30 - (x / 16 : Nat) - (x % 16 : Nat) := by
  unfold sumI
  rw [List.take_add_one, hx]
  simp only [Option.toList_some]
  rw [nibs_snoc]
  have hs : ∀ (l m : List Nat), sumL (l ++ m) = sumL l + sumL m := by
    intro l m
    induction l with
    | nil => simp [sumL]
    | cons a l ih => simp only [sumL, List.cons_append, List.foldr_cons] at *; omega
  rw [hs]
  simp only [sumL, List.foldr_cons, List.foldr_nil]
  omega
theorem sumI_le (h : List Nat) (hb : ∀ x ∈ h, x < 256) (k : Nat) (hk : k ≤ 16) (hl : h.length = 32) : 0 ≤ sumI h k ∧ sumI h k < 1000 := by
  have := sum_le (h.take k) (fun x hx => hb x (List.mem_of_mem_take hx))
  rw [List.length_take] at this
  unfold sumI
  omega
theorem lp1 (h : List Nat) (hl : h.length = 32) (hb : ∀ x ∈ h, x < 256) : ∀ (n k : Nat), k + n = 16 → ∀ (Q : Exit → S → Prop),
   (∀ D : List Nat, D = digD h 16 → Q (.exit 0) (mk [(1, .ptr 1 0), (2, .ptr 2 0), (3, .ptr 3 0), (4, .pv (.int .i64 (sumI h 16))), (7, .pv (.int .i64 16)), (8, .pv (.bool false))] [(1, .pagg (kns .u8 h)), (2, .pagg (kns .i64 (List.replicate 35 0))), (3, .pagg (kns .i64 D))])) →
   LoopW Try.prog [1, 2, 3, 4, 7] [1, 2, 3] irOtsDigits_L1 (mk [(1, .ptr 1 0), (2, .ptr 2 0), (3, .ptr 3 0), (4, .pv (.int .i64 (sumI h k))), (7, .pv (.int .i64 k))] [(1, .pagg (kns .u8 h)), (2, .pagg (kns .i64 (List.replicate 35 0))), (3, .pagg (kns .i64 (digD h k)))]) Q := by
  intro n
  induction n with
  | zero =>
    intro k hk Q hQ
    obtain rfl : k = 16 := by omega
    refine LoopW.go irOtsDigits_L1.eq_1 (by simp) ?_
    simp [-List.reduceReplicate]
    exact hQ _ rfl
  | succ n ih =>
    intro k hk Q hQ
    obtain ⟨x, hx⟩ : ∃ x, h[k]? = some x := ⟨_, List.getElem?_eq_getElem (by omega)⟩
    refine dig1 h k x _ _ (by omega) hx (hb x (List.mem_of_getElem? hx)) (digD_len hl (by omega)) (sumI_le h hb k (by omega) hl) Q ?_
    rw [digD_step hx (by omega), ← sumI_step hx]
    exact ih (k + 1) (by omega) Q hQ
theorem digs_set (h : List Nat) (hl : h.length = 32) (a b c : Nat) : (((digD h 16).set 32 a).set 33 b).set 34 c = nibs (h.take 16) ++ [a, b, c] := by
  have hn : (nibs (h.take 16)).length = 32 := by rw [nibs_length, List.length_take]; omega
  unfold digD
  rw [List.set_append_right _ _ (by omega), List.set_append_right _ _ (by omega), List.set_append_right _ _ (by omega), hn]
  rfl
theorem dig_c (h : List Nat) (hl : h.length = 32) (hb : ∀ x ∈ h, x < 256) : ACall Try.prog 38 [.pagg (kns .u8 h)] [] (.pagg (kns .i64 (digs (h.take 16)))) [] [] := by
  refine ACall.fn (fn := Try.f38) rfl okOtsDigits rfl (by simp) ?_
  simp only [argT, irOtsDigits.eq_1]
  simp [-List.reduceReplicate]
  rw [kns_rep]
  refine lp1 h hl hb 16 0 rfl _ fun D hD => ?_
  have hL : sumI h 16 = (left_ (h.take 16) : Nat) := by
    have := sum_le (h.take 16) (fun x hx => hb x (List.mem_of_mem_take hx))
    unfold sumI left_
    rw [List.length_take, hl] at *
    omega
  have hS := sumI_le h hb 16 (Nat.le_refl _) hl
  have hd : D.length = 35 := by rw [hD]; exact digD_len hl (Nat.le_refl _)
  rw [hL] at hS ⊢
  have hE := digs_set h hl
  rw [← hD] at hE
  unfold digs
  generalize left_ (h.take 16) = L at *
  have w0 : (L : Int).fdiv (2 ^ min 8 IntKind.i64.bits) = ((L / 256 : Nat) : Int) := shr_nat L 8
  have w1 : (L : Int).fdiv (2 ^ min 4 IntKind.i64.bits) = ((L / 16 : Nat) : Int) := shr_nat L 4
  have w2 : (L : Int).fdiv (2 ^ min 0 IntKind.i64.bits) = (L : Int) := by simp
  have v0 := mask4_i64 (L / 256) (by omega)
  have v1 := mask4_i64 (L / 16) (by omega)
  have v2 := mask4_i64 L (by omega)
  generalize L / 256 % 16 = r0 at *
  generalize L / 16 % 16 = r1 at *
  generalize L % 16 = r2 at *
  generalize L / 256 = p0 at *
  generalize L / 16 = p1 at *
  simp [-List.reduceReplicate]
  refine LoopW.go irOtsDigits_L2.eq_1 (by simp) ?_
  simp [-List.reduceReplicate, w0, v0, kns_set, hd, kns_length]
  refine LoopW.go irOtsDigits_L2.eq_1 (by simp) ?_
  simp [-List.reduceReplicate, w1, v1, kns_set, hd, kns_length]
  refine LoopW.go irOtsDigits_L2.eq_1 (by simp) ?_
  simp [-List.reduceReplicate, w2, v2, kns_set, hd, kns_length, hE]
  refine LoopW.go irOtsDigits_L2.eq_1 (by simp) ?_
  simp [-List.reduceReplicate, kns_length, nibs_length, hl]
end Go.Proofs.Ytlmjhnlhgmabpaa
