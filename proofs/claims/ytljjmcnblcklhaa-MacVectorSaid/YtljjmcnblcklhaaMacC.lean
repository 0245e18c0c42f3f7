/- mac.Vector's and Derive's contracts; wakes. -/
import Derived.Test.YtljjmcnblcklhaaMacB
import Derived.Test.YtljjmcnblcklhaaArgTxt
set_option linter.unusedVariables false
set_option linter.unusedSimpArgs false
namespace Go.Proofs.Ytljjmcnblcklhaa
open Go.Abs Go.RowKit Go.Ours

/-- A row of digests. -/
def hrows (T : List (List Nat)) : List (List PV) := T.map fun h => kns .u8 h
theorem hrows_get (T : List (List Nat)) (i : Nat) : (hrows T)[i]? = T[i]?.map fun h => kns .u8 h := by simp [hrows]
theorem hrows_length (T : List (List Nat)) : (hrows T).length = T.length := by simp [hrows]
theorem hrows_one (T : List (List Nat)) (h : List Nat) : hrows T ++ [kns .u8 h] = hrows (T ++ [h]) := by simp [hrows]
/-- A number as it is put. -/
def uw (n : Int) : Nat := (n % 18446744073709551616).toNat
theorem uw_wrap (n : Int) : IntKind.u64.wrap n = (uw n : Int) := by
  have : IntKind.u64.wrap n = n % 18446744073709551616 := by simp [IntKind.wrap, IntKind.bits, IntKind.signed]
  rw [this]
  unfold uw
  omega
theorem uw_lt (n : Int) : uw n < 18446744073709551616 := by unfold uw; omega
def derF (m : List Nat) (who use : Int) : List Nat := shaF (m ++ fx 8 (uw who) ++ fx 8 (uw use))
theorem der_len (m : List Nat) (who use : Int) (h : m.length = 32) : (m ++ fx 8 (uw who) ++ fx 8 (uw use)).length = 48 := by simp [h, fx_len]
theorem der_lt (m : List Nat) (who use : Int) (h : ∀ x ∈ m, x < 256) : ∀ x ∈ m ++ fx 8 (uw who) ++ fx 8 (uw use), x < 256 := by
  intro x hx
  rcases List.mem_append.1 hx with hx | hx
  · rcases List.mem_append.1 hx with hx | hx
    · exact h x hx
    · exact fx_lt _ _ x hx
  · exact fx_lt _ _ x hx
theorem derive_c (m : List Nat) (who use : Int) (hl : m.length = 32) (hb : ∀ x ∈ m, x < 256) : ACall Try.prog 8 [.pagg (kns .u8 m), .pv (.int .i64 who), .pv (.int .i64 use)] [] (.pv (.sl 1 (krows .u8 (derF m who use)))) [] [] := by
  refine ACall.fn (fn := Try.f8) rfl okMacDerive rfl (by simp) ?_
  simp only [argT, irMacDerive.eq_1]
  have c1 := put8_c m (uw who) (by omega)
  have c2 := put8_c (m ++ fx 8 (uw who)) (uw use) (by simp [hl, fx_len])
  have c3 := sum_c (m ++ fx 8 (uw who) ++ fx 8 (uw use)) (by rw [der_len m who use hl]; omega) (der_lt m who use hb)
  have hl3 := shaF_len (m ++ fx 8 (uw who) ++ fx 8 (uw use))
  have hd : derF m who use = shaF (m ++ fx 8 (uw who) ++ fx 8 (uw use)) := rfl
  rw [← hd] at c3 hl3
  generalize derF m who use = y at *
  have em : List.take 32 m = m := List.take_of_length_le (by omega)
  have ey : List.take 32 y = y := List.take_of_length_le (by omega)
  have w1 := uw_wrap who
  have w2 := uw_wrap use
  simp [-List.reduceReplicate, kns_length, hl, kns_take, kns_rows, em, w1]
  refine CallG.go c1 ?_
  simp [-List.reduceReplicate, w2]
  refine CallG.go c2 ?_
  simp [-List.reduceReplicate]
  rw [← List.append_assoc]
  refine CallG.go c3 ?_
  simp [-List.reduceReplicate, kns_length, hl3, kns_take, kns_rows, ey]
theorem refDerive_c (m : List Nat) (who use : Int) (hl : m.length = 32) (hb : ∀ x ∈ m, x < 256) : ACall Try.prog 10 [.pagg (kns .u8 m), .pv (.int .i64 who), .pv (.int .i64 use)] [] (.os 5 1 (krows .u8 (derF m who use))) [] [] := by
  refine ACall.fn (fn := Try.f10) rfl okRef03Derive rfl (by simp) ?_
  simp only [argT, irRef03Derive.eq_1]
  have c1 := fixed_c (uw who) 8 (uw_lt who) (Or.inr rfl)
  have c2 := fixed_c (uw use) 8 (uw_lt use) (Or.inr rfl)
  have c3 := refSum_c (m ++ fx 8 (uw who) ++ fx 8 (uw use)) (by rw [der_len m who use hl]; omega) (der_lt m who use hb)
  have hl3 := shaF_len (m ++ fx 8 (uw who) ++ fx 8 (uw use))
  have hd : derF m who use = shaF (m ++ fx 8 (uw who) ++ fx 8 (uw use)) := rfl
  rw [← hd] at c3 hl3
  have f1 := fx_len 8 (uw who)
  have f2 := fx_len 8 (uw use)
  generalize derF m who use = y at *
  have w1 := uw_wrap who
  have w2 := uw_wrap use
  generalize fx 8 (uw who) = F1 at *
  generalize fx 8 (uw use) = F2 at *
  simp [kns_length, hl, w1]
  refine CallG.go (bytes_c m hl) ?_
  simp [w1]
  refine CallG.go c1 ?_
  simp [krows_length, krows_app, w2]
  refine ⟨by omega, ?_⟩
  refine CallG.go c2 ?_
  simp [krows_length, krows_app]
  refine ⟨by omega, ?_⟩
  rw [← List.append_assoc]
  refine CallG.go c3 ?_
  simp
  refine CallG.go (bytes_c y hl3) ?_
  simp
theorem vl (T : List (List Nat)) (t : List Nat) (hT1 : T.length ≤ 1000) (ht : t.length ≤ 1000000) (htb : ∀ x ∈ t, x < 256) (hT : ∀ k ∈ T, k.length ≤ 1000000) (hb : ∀ k ∈ T, ∀ x ∈ k, x < 256) : ∀ (n k : Nat) (B : List (List Nat)), k + n = T.length → B.length + n ≤ 1000 → ∀ (Q : Exit → S → Prop),
   (∀ a b c d, Q (.exit 0) (mk [(1, a), (5, .os 23 32 (hrows (B ++ (T.drop k).map fun x => tagF x t))), (8, b), (9, c), (10, d), (11, .pv (.bool false))] [])) →
   LoopW Try.prog [1, 5, 8, 9, 10] [] irMacVector_L1 (mk [(1, .pv (.sl 1 (krows .u8 t))), (5, .os 23 32 (hrows B)), (8, .pv (.sl 1 (trows T))), (9, .pv (.int .i64 (T.length : Nat))), (10, .pv (.int .i64 (k : Nat)))] []) Q := by
  intro n
  induction n with
  | zero =>
    intro k B hk hB Q hQ
    obtain rfl : k = T.length := by omega
    simp only [List.drop_length, List.map_nil, List.append_nil] at hQ
    refine LoopW.go irMacVector_L1.eq_1 (by simp) ?_
    simp
    exact hQ _ _ _ _
  | succ n ih =>
    intro k B hk hB Q hQ
    obtain ⟨x, hx⟩ : ∃ x, T[k]? = some x := ⟨_, List.getElem?_eq_getElem (by omega)⟩
    have hxm := List.mem_of_getElem? hx
    have hd : T.drop k = x :: T.drop (k + 1) := by
      rw [List.drop_eq_getElem_cons (by omega)]
      congr 1
      rw [List.getElem?_eq_getElem (by omega)] at hx
      exact Option.some.inj hx
    have hc := tag_c x t (hT x hxm) ht (hb x hxm) htb
    have hl := tagF_len x t
    have hn := ih (k + 1) (B ++ [tagF x t]) (by omega) (by simp; omega) Q (fun a b c d => by
      have := hQ a b c d
      rwa [hd, List.map_cons, List.append_cons] at this)
    generalize tagF x t = y at *
    have i1 : (k : Int) < (T.length : Int) := by omega
    have i2 : k < T.length := by omega
    have w : IntKind.i64.wrap ((k : Int) + 1) = (k + 1 : Nat) := by rw [wrap_i64] <;> omega
    refine LoopW.go irMacVector_L1.eq_1 (by simp) ?_
    simp [-getElem?_pos, i1, i2, w, trows_get, hx]
    refine CallG.go hc ?_
    simp [-getElem?_pos, w, kns_length, hl, hrows_length, hrows_one]
    exact ⟨by omega, hn⟩
theorem vector_c (T : List (List Nat)) (t : List Nat) (hT1 : T.length ≤ 1000) (ht : t.length ≤ 1000000) (htb : ∀ x ∈ t, x < 256) (hT : ∀ k ∈ T, k.length ≤ 1000000) (hb : ∀ k ∈ T, ∀ x ∈ k, x < 256) : ACall Try.prog 11 [.pv (.sl 1 (trows T)), .pv (.sl 1 (krows .u8 t))] [] (.os 23 32 (hrows (T.map fun x => tagF x t))) [] [] := by
  refine ACall.fn (fn := Try.f11) rfl okMacVector rfl (by simp) ?_
  simp only [argT, irMacVector.eq_1]
  simp [trows_length]
  refine vl T t hT1 ht htb hT hb T.length 0 [] (by omega) (by simpa using hT1) _ fun a b c d => ?_
  simp
theorem wakes_c : ACall Try.prog 7 [] [] (.pv (.bool true)) [] [] := by
  refine ACall.fn (fn := Try.f7) rfl okLaw03Wakes rfl (by simp) ?_
  simp only [argT, irLaw03Wakes.eq_1]
  have c1 := tag_c [74, 101, 102, 101] [119, 104, 97, 116, 32, 100, 111, 32, 121, 97, 32, 119, 97, 110, 116, 32, 102, 111, 114, 32, 110, 111, 116, 104, 105, 110, 103, 63] (by simp) (by simp) (by simp) (by simp)
  have l1 := tagF_len [74, 101, 102, 101] [119, 104, 97, 116, 32, 100, 111, 32, 121, 97, 32, 119, 97, 110, 116, 32, 102, 111, 114, 32, 110, 111, 116, 104, 105, 110, 103, 63]
  have h1 := wake_tag
  generalize tagF [74, 101, 102, 101] [119, 104, 97, 116, 32, 100, 111, 32, 121, 97, 32, 119, 97, 110, 116, 32, 102, 111, 114, 32, 110, 111, 116, 104, 105, 110, 103, 63] = x at *
  have g : ∀ {l : List Nat} {a b c d : Nat}, l.take 4 = [a, b, c, d] → l[0]? = some a ∧ l[1]? = some b ∧ l[2]? = some c ∧ l[3]? = some d := fun {l a b c d} h => by
    match l, h with
    | p :: q :: r :: s :: t, h => simpa using h
  obtain ⟨p0, p1, p2, p3⟩ := g h1
  simp [-List.reduceReplicate, -getElem?_pos]
  refine CallG.go c1 ?_
  simp [-List.reduceReplicate, -getElem?_pos, kns_length, l1, kns_get, p0, p1, p2, p3]
end Go.Proofs.Ytljjmcnblcklhaa
