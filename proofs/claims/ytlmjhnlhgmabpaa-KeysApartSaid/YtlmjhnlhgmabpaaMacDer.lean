/- mac.Derive's contract, and the document's. -/
import Derived.Test.YtlmjhnlhgmabpaaShaQ
import Derived.Test.YtlmjhnlhgmabpaaArgTxt
import Derived.Test.YtlmjhnlhgmabpaaIrMac
set_option linter.unusedVariables false
set_option linter.unusedSimpArgs false
namespace Go.Proofs.Ytlmjhnlhgmabpaa
open Go.Abs Go.RowKit Go.Ours

def derF (m : List Nat) (who use : Int) : List Nat := shaF (m ++ fx 8 (uw who) ++ fx 8 (uw use))
theorem der_len (m : List Nat) (who use : Int) (h : m.length = 32) : (m ++ fx 8 (uw who) ++ fx 8 (uw use)).length = 48 := by simp [h, fx_len]
theorem der_lt (m : List Nat) (who use : Int) (h : ∀ x ∈ m, x < 256) : ∀ x ∈ m ++ fx 8 (uw who) ++ fx 8 (uw use), x < 256 := by
  intro x hx
  rcases List.mem_append.1 hx with hx | hx
  · rcases List.mem_append.1 hx with hx | hx
    · exact h x hx
    · exact fx_lt _ _ x hx
  · exact fx_lt _ _ x hx
theorem derive_c (m : List Nat) (who use : Int) (hl : m.length = 32) (hb : ∀ x ∈ m, x < 256) : ACall Try.prog 19 [.pagg (kns .u8 m), .pv (.int .i64 who), .pv (.int .i64 use)] [] (.pv (.sl 1 (krows .u8 (derF m who use)))) [] [] := by
  refine ACall.fn (fn := Try.f19) rfl okMacDerive rfl (by simp) ?_
  simp only [argT, irMacDerive.eq_1]
  have c1 := put8_c m (uw who) (by omega)
  have c2 := put8_c (m ++ fx 8 (uw who)) (uw use) (by simp [hl, fx_len])
  have c3 := sum_c (m ++ fx 8 (uw who) ++ fx 8 (uw use)) (by rw [der_len m who use hl]; omega) (der_lt m who use hb)
  have hl3 := shaF_len (m ++ fx 8 (uw who) ++ fx 8 (uw use))
  have hd : derF m who use = shaF (m ++ fx 8 (uw who) ++ fx 8 (uw use)) := rfl
  rw [← hd] at c3 hl3
  generalize derF m who use = y at *
  have em : List.take 32 m = m := List.take_of_length_le (by omega)
  have ey : List.take 32 y = y := List.take_of_length_le (by omega)
  have w1 := uw_wrap who
  have w2 := uw_wrap use
  simp [-List.reduceReplicate, kns_length, hl, kns_take, kns_rows, em, w1]
  refine CallG.go c1 ?_
  simp [-List.reduceReplicate, w2]
  refine CallG.go c2 ?_
  simp [-List.reduceReplicate]
  rw [← List.append_assoc]
  refine CallG.go c3 ?_
  simp [-List.reduceReplicate, kns_length, hl3, kns_take, kns_rows, ey]
theorem refDerive_c (m : List Nat) (who use : Int) (hl : m.length = 32) (hb : ∀ x ∈ m, x < 256) : ACall Try.prog 13 [.pagg (kns .u8 m), .pv (.int .i64 who), .pv (.int .i64 use)] [] (.os 5 1 (krows .u8 (derF m who use))) [] [] := by
  refine ACall.fn (fn := Try.f13) rfl okRef03Derive rfl (by simp) ?_
  simp only [argT, irRef03Derive.eq_1]
  have c1 := fixed_c (uw who) 8 (uw_lt who) (Or.inr rfl)
  have c2 := fixed_c (uw use) 8 (uw_lt use) (Or.inr rfl)
  have c3 := refSum_c (m ++ fx 8 (uw who) ++ fx 8 (uw use)) (by rw [der_len m who use hl]; omega) (der_lt m who use hb)
  have hl3 := shaF_len (m ++ fx 8 (uw who) ++ fx 8 (uw use))
  have hd : derF m who use = shaF (m ++ fx 8 (uw who) ++ fx 8 (uw use)) := rfl
  rw [← hd] at c3 hl3
  have f1 := fx_len 8 (uw who)
  have f2 := fx_len 8 (uw use)
  generalize derF m who use = y at *
  have w1 := uw_wrap who
  have w2 := uw_wrap use
  generalize fx 8 (uw who) = F1 at *
  generalize fx 8 (uw use) = F2 at *
  simp [kns_length, hl, w1]
  refine CallG.go (bytes_c m hl) ?_
  simp [w1]
  refine CallG.go c1 ?_
  simp [krows_length, krows_app, w2]
  refine ⟨by omega, ?_⟩
  refine CallG.go c2 ?_
  simp [krows_length, krows_app]
  refine ⟨by omega, ?_⟩
  rw [← List.append_assoc]
  refine CallG.go c3 ?_
  simp
  refine CallG.go (bytes_c y hl3) ?_
  simp
end Go.Proofs.Ytlmjhnlhgmabpaa
