/- sha.padded's contract. -/
import Derived.Test.YtlbfpnckoblppaaShaG
set_option linter.unusedVariables false
set_option linter.unusedSimpArgs false
namespace Go.Proofs.Ytlbfpnckoblppaa
open Go.Abs Go.RowKit Go.Ours

def padz (n : Nat) : Nat := (119 - n % 64) % 64
def pad (t : List Nat) (n : Nat) : List Nat := t ++ [128] ++ List.replicate (padz t.length) 0 ++ fx 8 (n * 8)
theorem pdl (n : Nat) : ∀ (m : Nat) (L : List Nat), m < 64 → (L.length + m) % 64 = 56 → L.length + m ≤ 5000000000 → ∀ (Q : Exit → S → Prop),
   (∀ a b, Q (.exit 0) (mk [(1, .pv (.int .i64 n)), (5, .os 5 1 (krows .u8 (L ++ List.replicate m 0))), (11, a), (12, b), (13, .pv (.int .i64 56)), (14, .pv (.bool false))] [])) →
   LoopW Try.prog [1, 5] [] irShaPadded_L1 (mk [(1, .pv (.int .i64 n)), (5, .os 5 1 (krows .u8 L))] []) Q := by
  intro m
  induction m with
  | zero =>
    intro L _ h1 h2 Q hQ
    have hr : ((L.length : Int)).tmod 64 = 56 := by
      show ((L.length % 64 : Nat) : Int) = 56
      omega
    simp only [List.replicate_zero, List.append_nil] at hQ
    refine LoopW.go irShaPadded_L1.eq_1 (by simp) ?_
    simp [krows_length, hr]
    exact hQ _ _
  | succ m ih =>
    intro L h0 h1 h2 Q hQ
    have hr : ¬ ((L.length : Int)).tmod 64 = 56 := by
      show ¬ ((L.length % 64 : Nat) : Int) = 56
      omega
    have hn := ih (L ++ [0]) (by omega) (by simp; omega) (by simp; omega) Q (fun a b => by
      rw [List.append_assoc]
      exact hQ a b)
    have k0 : krows .u8 L ++ [[.int .u8 0]] = krows .u8 (L ++ [0]) := krows_one .u8 L 0
    refine LoopW.go irShaPadded_L1.eq_1 (by simp) ?_
    simp [krows_length, hr, k0]
    exact ⟨by omega, hn⟩
theorem padded_c (t : List Nat) (n : Nat) (ht : t.length ≤ 1000000000) (hn : n ≤ 1000000000000) : ACall Try.prog 61 [.pv (.sl 1 (krows .u8 t)), .pv (.int .i64 n)] [] (.os 5 1 (krows .u8 (pad t n))) [] [] := by
  refine ACall.fn (fn := Try.f61) rfl okShaPadded rfl (by simp) ?_
  simp only [argT, irShaPadded.eq_1]
  have k0 : krows .u8 t ++ [[.int .u8 128]] = krows .u8 (t ++ [128]) := krows_one .u8 t 128
  simp [krows_length, k0]
  refine ⟨by omega, by omega, ?_⟩
  refine pdl n (padz t.length) (t ++ [128]) (by unfold padz; omega) (by unfold padz; simp; omega) (by unfold padz; simp; omega) _ fun a b => ?_
  have w1 : IntKind.u64.wrap (n : Int) = n := by rw [wrap_u64] <;> omega
  have w2 : IntKind.u64.wrap ((n : Int) * 8) = ((n * 8 : Nat) : Int) := by rw [wrap_u64] <;> omega
  have hc := put8_c (t ++ [128] ++ List.replicate (padz t.length) 0) (n * 8) (by unfold padz; simp; omega)
  generalize hN : n * 8 = N at *
  generalize hL : t ++ [128] ++ List.replicate (padz t.length) 0 = L at *
  simp [w1, w2]
  refine CallG.go hc ?_
  simp [pad, hN, hL]
end Go.Proofs.Ytlbfpnckoblppaa
