/- The law ShaAll. -/
import Derived.Test.YtgnajpfackfcaaaShaP
import Derived.Test.YtgnajpfackfcaaaShaR
set_option linter.unusedVariables false
set_option linter.unusedSimpArgs false
namespace Go.Proofs.Ytgnajpfackfcaaa
open Go.Abs Go.RowKit Go.Ours

theorem lal (T : List (List Nat)) (hT : T.length ≤ 30) (hm : ∀ t ∈ T, t.length ≤ maxLen) (p q : AV) : ∀ (n k : Nat), k + n = T.length → (∀ t ∈ T.take k, t.length ≤ 200) → ∀ (Q : Exit → S → Prop),
   ((∀ t ∈ T, t.length ≤ 200) → ∀ b c, Q (.exit 0) (mk [(0, .pv (.sl 1 (trows T))), (4, p), (5, q), (14, b), (15, c), (16, .pv (.bool false))] [])) →
   Q .ret (mk [(6, .pv (.bool true))] []) →
   LoopW Try.prog [0, 4, 5, 14, 15] [] irLaw02ShaAll_L1 (mk [(0, .pv (.sl 1 (trows T))), (4, p), (5, q), (14, .pv (.int .i64 (T.length : Nat))), (15, .pv (.int .i64 (k : Nat)))] []) Q := by
  intro n
  induction n with
  | zero =>
    intro k hk ht Q h1 h2
    obtain rfl : k = T.length := by omega
    rw [List.take_length] at ht
    refine LoopW.go irLaw02ShaAll_L1.eq_1 (by simp) ?_
    simp
    exact h1 ht _ _
  | succ n ih =>
    intro k hk ht Q h1 h2
    obtain ⟨t, hx⟩ : ∃ t, T[k]? = some t := ⟨_, List.getElem?_eq_getElem (by omega)⟩
    have htl := hm t (List.mem_of_getElem? hx)
    have i1 : (k : Int) < (T.length : Int) := by omega
    have i2 : k < T.length := by omega
    have w : IntKind.i64.wrap ((k : Int) + 1) = (k + 1 : Nat) := by rw [wrap_i64] <;> omega
    refine LoopW.go irLaw02ShaAll_L1.eq_1 (by simp) ?_
    simp [-getElem?_pos, i1, i2, w, trows_get, krows_length, hx]
    constructor
    · intro _; exact h2
    · intro hle
      refine ih (k + 1) (by omega) (fun u hu => ?_) Q h1 h2
      rw [List.take_add_one, hx] at hu
      rcases List.mem_append.1 hu with hu | hu
      · exact ht u hu
      · simp at hu; subst hu; omega
theorem lawAll_c (T : List (List Nat)) (a b : List Nat) (hm : ∀ t ∈ T, t.length ≤ maxLen) (hT : T.length ≤ maxLen) (hb : ∀ t ∈ T, ∀ x ∈ t, x < 256) (ha : a.length = 32) (hbl : b.length = 32) (ha2 : ∀ x ∈ a, x < 256) (hb2 : ∀ x ∈ b, x < 256) : ACall Try.prog 6 [.pv (.sl 1 (trows T)), .pagg (kns .u8 a), .pagg (kns .u8 b)] [] (.pv (.bool true)) [] [] := by
  refine ACall.fn (fn := Try.f6) rfl okLaw02ShaAll rfl (by simp) ?_
  simp only [argT, irLaw02ShaAll.eq_1]
  simp
  refine CallG.go wakes_c ?_
  simp [trows_length]
  intro hle
  have hl30 : T.length ≤ 30 := by omega
  refine lal T hl30 hm _ _ T.length 0 (by omega) (by simp) _ (fun h200 u v => ?_) (by simp)
  have c1 := all_c T (fun t ht => by have := h200 t ht; omega) hb (by omega)
  have c2 := refAll_c T (fun t ht => by have := h200 t ht; omega) hb (by omega)
  have c3 := pair_c a b ha hbl ha2 hb2
  have c4 := refPair_c a b ha hbl ha2 hb2
  have hl1 := shaF_len (T.flatMap txt)
  have hl2 := shaF_len (a ++ b)
  generalize shaF (T.flatMap txt) = x at *
  generalize shaF (a ++ b) = y at *
  simp
  refine CallG.go c1 ?_
  simp
  refine CallG.go c2 ?_
  simp [kns_length, hl1, ha, hbl]
  refine CallG.go c3 ?_
  simp [kns_length, hl1, ha, hbl]
  refine CallG.go c4 ?_
  simp [kns_length, hl2]
theorem walkShaAll (a0 : Option Addr) (l0 c0 : Nat) (c1 : Array Value) (c2 : Array Value) (w : World) (k0 : Shp.Reads w (.slice (.slice (.int .u8))) [.slice a0 l0 c0]) (k1 : Shp.Reads w (.arr 32 (.int .u8)) c1.toList) (k2 : Shp.Reads w (.arr 32 (.int .u8)) c2.toList) :
     Calls Try.prog 6 #[.slice a0 l0 c0, .agg c1, .agg c2] w fun e w' => e = .returned (.bool true) ∧ Below w.heap.size w w' := by
  obtain ⟨T, a0, n0, m0, b0⟩ := arg_ssl8 k0
  obtain ⟨l1, a1, n1, b1⟩ := arg_arr8 k1
  obtain ⟨l2, a2, n2, b2⟩ := arg_arr8 k2
  refine lawCalls (lawAll_c T l1 l2 m0 n0 b0 n1 n2 b1 b2) rfl fun i v av hv ha => ?_
  match i with
  | 0 => cases hv; cases ha; exact a0
  | 1 => cases hv; cases ha; exact a1
  | 2 => cases hv; cases ha; exact a2
  | n + 3 => simp at hv
end Go.Proofs.Ytgnajpfackfcaaa
