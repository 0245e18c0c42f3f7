/- The law MacVector. -/
import Derived.Test.YtljjmcnblcklhaaMacC
set_option linter.unusedVariables false
set_option linter.unusedSimpArgs false
namespace Go.Proofs.Ytljjmcnblcklhaa
open Go.Abs Go.RowKit Go.Ours

theorem lvl (T : List (List Nat)) (hT : T.length ≤ 20) (hm : ∀ t ∈ T, t.length ≤ maxLen) (p : AV) : ∀ (n k : Nat), k + n = T.length → (∀ t ∈ T.take k, t.length ≤ 300) → ∀ (Q : Exit → S → Prop),
   ((∀ t ∈ T, t.length ≤ 300) → ∀ b c, Q (.exit 0) (mk [(0, .pv (.sl 1 (trows T))), (1, p), (19, b), (20, c), (21, .pv (.bool false))] [])) →
   Q .ret (mk [(4, .pv (.bool true))] []) →
   LoopW Try.prog [0, 1, 19, 20] [] irLaw03MacVector_L1 (mk [(0, .pv (.sl 1 (trows T))), (1, p), (19, .pv (.int .i64 (T.length : Nat))), (20, .pv (.int .i64 (k : Nat)))] []) Q := by
  intro n
  induction n with
  | zero =>
    intro k hk ht Q h1 h2
    obtain rfl : k = T.length := by omega
    rw [List.take_length] at ht
    refine LoopW.go irLaw03MacVector_L1.eq_1 (by simp) ?_
    simp
    exact h1 ht _ _
  | succ n ih =>
    intro k hk ht Q h1 h2
    obtain ⟨t, hx⟩ : ∃ t, T[k]? = some t := ⟨_, List.getElem?_eq_getElem (by omega)⟩
    have htl := hm t (List.mem_of_getElem? hx)
    have i1 : (k : Int) < (T.length : Int) := by omega
    have i2 : k < T.length := by omega
    have w : IntKind.i64.wrap ((k : Int) + 1) = (k + 1 : Nat) := by rw [wrap_i64] <;> omega
    refine LoopW.go irLaw03MacVector_L1.eq_1 (by simp) ?_
    simp [-getElem?_pos, i1, i2, w, trows_get, krows_length, hx]
    constructor
    · intro _; exact h2
    · intro hle
      refine ih (k + 1) (by omega) (fun u hu => ?_) Q h1 h2
      rw [List.take_add_one, hx] at hu
      rcases List.mem_append.1 hu with hu | hu
      · exact ht u hu
      · simp at hu; subst hu; omega
theorem lvl2 (T : List (List Nat)) (t : List Nat) (hT : T.length ≤ 20) (ht : t.length ≤ 500) (htb : ∀ x ∈ t, x < 256) (h3 : ∀ k ∈ T, k.length ≤ 300) (hb : ∀ k ∈ T, ∀ x ∈ k, x < 256) : ∀ (n k : Nat), k + n = T.length → ∀ (Q : Exit → S → Prop),
   (∀ a b c d e f, Q (.exit 2) (mk [(0, a), (1, b), (6, c), (39, d), (40, e), (41, f)] [])) →
   LoopW Try.prog [0, 1, 6, 39, 40] [] irLaw03MacVector_L2 (mk [(0, .pv (.sl 1 (trows T))), (1, .pv (.sl 1 (krows .u8 t))), (6, .os 23 32 (hrows (T.map fun x => tagF x t))), (39, .pv (.int .i64 (T.length : Nat))), (40, .pv (.int .i64 (k : Nat)))] []) Q := by
  intro n
  induction n with
  | zero =>
    intro k hk Q hQ
    obtain rfl : k = T.length := by omega
    refine LoopW.go irLaw03MacVector_L2.eq_1 (by simp) ?_
    simp
    exact hQ _ _ _ _ _ _
  | succ n ih =>
    intro k hk Q hQ
    obtain ⟨x, hx⟩ : ∃ x, T[k]? = some x := ⟨_, List.getElem?_eq_getElem (by omega)⟩
    have hxm := List.mem_of_getElem? hx
    have hx2 : (T.map fun x => tagF x t)[k]? = some (tagF x t) := by rw [List.getElem?_map, hx]; rfl
    have hc := refTag_c x t (by have := h3 x hxm; omega) (by omega) (hb x hxm) htb
    have hl := tagF_len x t
    have hn := ih (k + 1) (by omega) Q hQ
    generalize tagF x t = y at *
    have hll : (T.map fun x => tagF x t).length = T.length := List.length_map ..
    generalize (T.map fun x => tagF x t) = H at *
    have i1 : (k : Int) < (T.length : Int) := by omega
    have i2 : k < T.length := by omega
    have w : IntKind.i64.wrap ((k : Int) + 1) = (k + 1 : Nat) := by rw [wrap_i64] <;> omega
    refine LoopW.go irLaw03MacVector_L2.eq_1 (by simp) ?_
    simp [-getElem?_pos, i1, i2, w, trows_get, hrows_get, hx, hx2, kns_length, hl]
    refine CallG.go hc ?_
    simp [-getElem?_pos, w, kns_length, hl]
    exact hn
theorem lawVector_c (T : List (List Nat)) (t : List Nat) (hT : T.length ≤ maxLen) (hm : ∀ t ∈ T, t.length ≤ maxLen) (hb : ∀ t ∈ T, ∀ x ∈ t, x < 256) (ht : t.length ≤ maxLen) (htb : ∀ x ∈ t, x < 256) : ACall Try.prog 4 [.pv (.sl 1 (trows T)), .pv (.sl 1 (krows .u8 t))] [] (.pv (.bool true)) [] [] := by
  refine ACall.fn (fn := Try.f4) rfl okLaw03MacVector rfl (by simp) ?_
  simp only [argT, irLaw03MacVector.eq_1]
  simp
  refine CallG.go wakes_c ?_
  by_cases h1 : 20 < T.length
  · have h1' : (20 : Int) < (T.length : Int) := by omega
    simp [trows_length, h1, h1']
  · have h1' : ¬ (20 : Int) < (T.length : Int) := by omega
    by_cases h2 : 500 < t.length
    · have h2' : (500 : Int) < (t.length : Int) := by omega
      simp [trows_length, krows_length, h1, h1', h2, h2']
    · have h2' : ¬ (500 : Int) < (t.length : Int) := by omega
      simp [trows_length, krows_length, h1, h1', h2, h2']
      refine lvl T (by omega) hm _ T.length 0 (by omega) (by simp) _ (fun h3 b c => ?_) (by simp)
      have c1 := vector_c T t (by omega) (by omega) htb (fun k hk => by have := h3 k hk; omega) hb
      have hll : (T.map fun x => tagF x t).length = T.length := List.length_map ..
      have hq := lvl2 T t (by omega) (by omega) htb h3 hb T.length 0 (by omega)
      generalize (T.map fun x => tagF x t) = H at *
      simp
      refine CallG.go c1 ?_
      simp [trows_length, hrows_length, hll]
      refine hq _ fun a b c d e f => ?_
      simp
theorem walkMacVector (a0 : Option Addr) (l0 c0 : Nat) (a1 : Option Addr) (l1 c1 : Nat) (w : World) (k0 : Shp.Reads w (.slice (.slice (.int .u8))) [.slice a0 l0 c0]) (k1 : Shp.Reads w (.slice (.int .u8)) [.slice a1 l1 c1]) :
     Calls Try.prog 4 #[.slice a0 l0 c0, .slice a1 l1 c1] w fun e w' => e = .returned (.bool true) ∧ Below w.heap.size w w' := by
  obtain ⟨T, a0, n0, m0, b0⟩ := arg_ssl8 k0
  obtain ⟨l1, a1, n1, b1⟩ := arg_sl8 k1
  refine lawCalls (lawVector_c T l1 n0 m0 b0 n1 b1) rfl fun i v av hv ha => ?_
  match i with
  | 0 => cases hv; cases ha; exact a0
  | 1 => cases hv; cases ha; exact a1
  | n + 2 => simp at hv
end Go.Proofs.Ytljjmcnblcklhaa
