/- Packed numbers, texts, pairs: their contracts. -/
import Derived.Test.YtlmjhnlhgmabpaaShaO
import Derived.Test.YtlmjhnlhgmabpaaIrSha2
import Derived.Test.YtlmjhnlhgmabpaaPlainNums
set_option linter.unusedVariables false
set_option linter.unusedSimpArgs false
namespace Go.Proofs.Ytlmjhnlhgmabpaa
open Go.Abs Go.RowKit Go.Ours

theorem kns_rows (k : IntKind) (l : List Nat) : (kns k l).map (fun p => [p]) = krows k l := by simp [kns, krows]
theorem kns_take (k : IntKind) (l : List Nat) (n : Nat) : (kns k l).take n = kns k (l.take n) := by simp [kns]
theorem kns_drop (k : IntKind) (l : List Nat) (n : Nat) : (kns k l).drop n = kns k (l.drop n) := by simp [kns]
theorem or_128 (x : Nat) : bits BinOp.or IntKind.u8 (IntKind.u8.wrap (x : Int)) 128 = ((x % 128 + 128 : Nat) : Int) := by
  have h : ∀ a : _root_.Fin 256, bits BinOp.or IntKind.u8 ((a.val : Nat) : Int) 128 = ((a.val % 128 + 128 : Nat) : Int) := by decide +kernel
  have e : IntKind.u8.wrap (x : Int) = ((x % 256 : Nat) : Int) := by simp [IntKind.wrap, IntKind.bits, IntKind.signed]
  rw [e, h ⟨x % 256, by omega⟩]
  simp only
  omega
/-- A text, told apart. -/
def txt (t : List Nat) : List Nat := packed t.length ++ t
theorem join_c (a b : List Nat) (ha : a.length ≤ 10000000000) (hb : b.length ≤ 10000000000) : ACall Try.prog 43 [.pv (.sl 1 (krows .u8 a)), .pv (.sl 1 (krows .u8 b))] [] (.os 5 1 (krows .u8 (a ++ b))) [] [] := by
  refine ACall.fn (fn := Try.f43) rfl okRef01Join rfl (by simp) ?_
  simp only [argT, irRef01Join.eq_1]
  simp [krows_length, krows_app]
  omega
theorem joined2_c (a b : List Nat) (ha : a.length ≤ 10000000000) (hb : b.length ≤ 10000000000) : ACall Try.prog 40 [.pv (.sl 1 [[.sl 1 (krows .u8 a)], [.sl 1 (krows .u8 b)]])] [] (.os 5 1 (krows .u8 (a ++ b))) [] [] := by
  refine ACall.fn (fn := Try.f40) rfl okShaJoined rfl (by simp) ?_
  simp only [argT, irShaJoined.eq_1]
  simp
  refine LoopW.go irShaJoined_L1.eq_1 (by simp) ?_
  simp [krows_length]
  refine ⟨by omega, ?_⟩
  refine LoopW.go irShaJoined_L1.eq_1 (by simp) ?_
  simp [krows_length, krows_app]
  refine ⟨by omega, ?_⟩
  refine LoopW.go irShaJoined_L1.eq_1 (by simp) ?_
  simp
theorem pair_c (a b : List Nat) (ha : a.length = 32) (hb : b.length = 32) (ha2 : ∀ x ∈ a, x < 256) (hb2 : ∀ x ∈ b, x < 256) : ACall Try.prog 26 [.pagg (kns .u8 a), .pagg (kns .u8 b)] [] (.pagg (kns .u8 (shaF (a ++ b)))) [] [] := by
  refine ACall.fn (fn := Try.f26) rfl okShaPair rfl (by simp) ?_
  simp only [argT, irShaPair.eq_1]
  have hc := joined2_c a b (by omega) (by omega)
  have hs := sum_c (a ++ b) (by rw [List.length_append]; omega) (fun x hx => by rcases List.mem_append.1 hx with h | h; exact ha2 x h; exact hb2 x h)
  have hl := shaF_len (a ++ b)
  generalize shaF (a ++ b) = x at *
  have ea : List.take 32 a = a := List.take_of_length_le (by omega)
  have eb : List.take 32 b = b := List.take_of_length_le (by omega)
  simp [-List.reduceReplicate, kns_length, ha, hb, kns_take, kns_rows, ea, eb]
  refine CallG.go hc ?_
  simp [-List.reduceReplicate]
  refine CallG.go hs ?_
  simp [-List.reduceReplicate, kns_length, hl]
theorem byl (l : List Nat) (hl : l.length = 32) : ∀ (n k : Nat), k + n = 32 → ∀ (Q : Exit → S → Prop),
   (∀ a b, Q (.exit 0) (mk [(1, a), (3, .os 5 1 (krows .u8 l)), (4, b), (5, .pv (.int .i64 32)), (6, .pv (.bool false))] [])) →
   LoopW Try.prog [1, 3, 4] [] irRef02Bytes_L1 (mk [(1, .rp (kns .u8 l)), (3, .os 5 1 (krows .u8 (l.take k))), (4, .pv (.int .i64 (k : Nat)))] []) Q := by
  intro n
  induction n with
  | zero =>
    intro k hk Q hQ
    obtain rfl : k = 32 := by omega
    rw [List.take_of_length_le (by omega)]
    refine LoopW.go irRef02Bytes_L1.eq_1 (by simp) ?_
    simp
    exact hQ _ _
  | succ n ih =>
    intro k hk Q hQ
    have hn := ih (k + 1) (by omega) Q hQ
    obtain ⟨x, hx⟩ : ∃ x, l[k]? = some x := ⟨_, List.getElem?_eq_getElem (by omega)⟩
    rw [List.take_add_one, hx] at hn
    have i1 : (k : Int) < 32 := by omega
    have w : IntKind.i64.wrap ((k : Int) + 1) = (k + 1 : Nat) := by rw [wrap_i64] <;> omega
    have hlen : (l.take k).length ≤ 32 := by rw [List.length_take]; omega
    generalize l.take k = L at *
    refine LoopW.go irRef02Bytes_L1.eq_1 (by simp) ?_
    simp [-getElem?_pos, i1, w, kns_get, hx, krows_length, krows_one]
    exact ⟨by omega, hn⟩
theorem bytes_c (l : List Nat) (hl : l.length = 32) : ACall Try.prog 22 [.pagg (kns .u8 l)] [] (.os 5 1 (krows .u8 l)) [] [] := by
  refine ACall.fn (fn := Try.f22) rfl okRef02Bytes rfl (by simp) ?_
  simp only [argT, irRef02Bytes.eq_1]
  simp
  refine byl l hl 32 0 rfl _ fun a b => ?_
  simp
theorem refPair_c (a b : List Nat) (ha : a.length = 32) (hb : b.length = 32) (ha2 : ∀ x ∈ a, x < 256) (hb2 : ∀ x ∈ b, x < 256) : ACall Try.prog 28 [.pagg (kns .u8 a), .pagg (kns .u8 b)] [] (.pagg (kns .u8 (shaF (a ++ b)))) [] [] := by
  refine ACall.fn (fn := Try.f28) rfl okRef02Pair rfl (by simp) ?_
  simp only [argT, irRef02Pair.eq_1]
  have hc := join_c a b (by omega) (by omega)
  have hs := refSum_c (a ++ b) (by rw [List.length_append]; omega) (fun x hx => by rcases List.mem_append.1 hx with h | h; exact ha2 x h; exact hb2 x h)
  have hl := shaF_len (a ++ b)
  generalize shaF (a ++ b) = x at *
  simp [-List.reduceReplicate, kns_length, ha, hb]
  refine CallG.go (bytes_c a ha) ?_
  simp [-List.reduceReplicate, kns_length, hb]
  refine CallG.go (bytes_c b hb) ?_
  simp [-List.reduceReplicate]
  refine CallG.go hc ?_
  simp [-List.reduceReplicate]
  refine CallG.go hs ?_
  simp [-List.reduceReplicate, kns_length, hl]
end Go.Proofs.Ytlmjhnlhgmabpaa
