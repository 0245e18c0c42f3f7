/- consistoryref04.Digits' contract. -/
import Derived.Test.YtlmjhnlhgmabpaaOtsDC
set_option linter.unusedVariables false
set_option linter.unusedSimpArgs false
namespace Go.Proofs.Ytlmjhnlhgmabpaa
open Go.Abs Go.RowKit Go.Ours

theorem rlp (h : List Nat) (hl : h.length = 32) (hb : ∀ x ∈ h, x < 256) : ∀ (n k : Nat), k + n = 16 → ∀ (Q : Exit → S → Prop),
   Q (.exit 0) (mk [(1, .ptr 1 0), (3, .os 3 1 (krows .i64 (nibs (h.take 16)))), (4, .pv (.int .i64 (sumI h 16))), (5, .pv (.int .i64 16)), (8, .pv (.int .i64 16)), (9, .pv (.bool false))] [(1, .pagg (kns .u8 h))]) →
   LoopW Try.prog [1, 3, 4, 5] [1] irRef04Digits_L1 (mk [(1, .ptr 1 0), (3, .os 3 1 (krows .i64 (nibs (h.take k)))), (4, .pv (.int .i64 (sumI h k))), (5, .pv (.int .i64 k))] [(1, .pagg (kns .u8 h))]) Q := by
  intro n
  induction n with
  | zero =>
    intro k hk Q hQ
    obtain rfl : k = 16 := by omega
    refine LoopW.go irRef04Digits_L1.eq_1 (by simp) ?_
    simp
    exact hQ
  | succ n ih =>
    intro k hk Q hQ
    obtain ⟨x, hx⟩ : ∃ x, h[k]? = some x := ⟨_, List.getElem?_eq_getElem (by omega)⟩
    have hb := hb x (List.mem_of_getElem? hx)
    have hS := sumI_le h ‹_› k (by omega) hl
    have hn := ih (k + 1) (by omega) Q hQ
    rw [List.take_add_one, hx, sumI_step hx, Option.toList_some, nibs_snoc] at hn
    have h1 : (k : Int) < 16 := by omega
    have h2 : k < 32 := by omega
    have h3 : (k : Int) < 32 := by omega
    refine LoopW.go irRef04Digits_L1.eq_1 (by simp) ?_
    have w1 : IntKind.i64.wrap (x : Int) = x := by rw [wrap_i64] <;> omega
    have w2 : (x : Int).tdiv 16 = ((x / 16 : Nat) : Int) := rfl
    have w3 : (x : Int).tmod 16 = ((x % 16 : Nat) : Int) := rfl
    have p1 : x / 16 < 16 := by omega
    have q1 : x % 16 < 16 := by omega
    have hln : (nibs (h.take k)).length ≤ 99999999998 := by rw [nibs_length, List.length_take]; omega
    clear hb
    generalize x / 16 = p at *
    generalize x % 16 = q at *
    generalize sumI h k = left at *
    have v1 : IntKind.i64.wrap (p : Int) = p := by rw [wrap_i64] <;> omega
    have v2 : IntKind.i64.wrap (left + 30) = left + 30 := by rw [wrap_i64] <;> omega
    have v3 : IntKind.i64.wrap (left + 30 - p) = left + 30 - p := by rw [wrap_i64] <;> omega
    have v4 : IntKind.i64.wrap (left + 30 - p - q) = left + 30 - p - q := by rw [wrap_i64] <;> omega
    have v5 : IntKind.i64.wrap ((k : Int) + 1) = (k + 1 : Nat) := by rw [wrap_i64] <;> omega
    simp [h1, h2, h3, kns_get, hx, w1, w2, w3, v1, v2, v3, v4, v5, krows_length, krows_two]
    exact ⟨hln, hn⟩
theorem rdig_c (h : List Nat) (hl : h.length = 32) (hb : ∀ x ∈ h, x < 256) : ACall Try.prog 41 [.pagg (kns .u8 h)] [] (.os 3 1 (krows .i64 (digs (h.take 16)))) [] [] := by
  refine ACall.fn (fn := Try.f41) rfl okRef04Digits rfl (by simp) ?_
  simp only [argT, irRef04Digits.eq_1]
  simp
  refine rlp h hl hb 16 0 rfl _ ?_
  have hL : sumI h 16 = (left_ (h.take 16) : Nat) := by
    have := sum_le (h.take 16) (fun x hx => hb x (List.mem_of_mem_take hx))
    unfold sumI left_
    rw [List.length_take, hl] at *
    omega
  have hS := sumI_le h hb 16 (Nat.le_refl _) hl
  have hln : (nibs (h.take 16)).length ≤ 1000 := by rw [nibs_length, List.length_take]; omega
  rw [hL] at hS ⊢
  unfold digs
  generalize left_ (h.take 16) = L at *
  have e0 : L / 256 % 16 = L / 256 := by omega
  rw [e0]
  have w2 : (L : Int).tdiv 256 = ((L / 256 : Nat) : Int) := rfl
  have w3 : (L : Int).tdiv 16 = ((L / 16 : Nat) : Int) := rfl
  have w4 : (L : Int).tmod 16 = ((L % 16 : Nat) : Int) := rfl
  have w5 : ((L / 16 : Nat) : Int).tmod 16 = ((L / 16 % 16 : Nat) : Int) := rfl
  have p0 : L / 256 < 256 := by omega
  have p1 : L / 16 < 256 := by omega
  clear e0
  generalize L / 16 % 16 = r1 at *
  generalize L % 16 = r2 at *
  generalize L / 256 = r0 at *
  generalize L / 16 = q1 at *
  have v1 : IntKind.i64.wrap (q1 : Int) = q1 := by rw [wrap_i64] <;> omega
  have v2 : IntKind.i64.wrap (r0 : Int) = r0 := by rw [wrap_i64] <;> omega
  simp [w2, w3, w4, w5, v1, v2, krows_length, krows_three]
  omega
end Go.Proofs.Ytlmjhnlhgmabpaa
