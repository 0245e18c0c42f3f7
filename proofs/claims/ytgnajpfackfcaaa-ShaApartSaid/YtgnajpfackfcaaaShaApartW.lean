/- The law ShaApart. -/
import Derived.Test.YtgnajpfackfcaaaShaP
import Derived.Test.YtgnajpfackfcaaaShaR
set_option linter.unusedVariables false
set_option linter.unusedSimpArgs false
namespace Go.Proofs.Ytgnajpfackfcaaa
open Go.Abs Go.RowKit Go.Ours

theorem txt_ne (a c : List Nat) (h1 : a.length < c.length) (h2 : c.length < 16384) : txt a ≠ txt c := by
  intro e
  have he := congrArg List.length e
  simp only [txt, List.length_append] at he
  have pl : ∀ x : Nat, x < 16384 → (packed x).length = if x < 128 then 1 else 2 := fun x hx => by
    by_cases h : x < 128
    · rw [packed_small h, if_pos h]; rfl
    · rw [packed_big (by omega), packed_small (by omega), if_neg h]; rfl
  rw [pl _ (by omega), pl _ h2] at he
  split at he <;> split at he <;> omega
theorem lawApart_c (a b : List Nat) (k : Nat) (ha : a.length ≤ maxLen) (hbl : b.length ≤ maxLen) (hk : k < 256) (ha2 : ∀ x ∈ a, x < 256) (hb2 : ∀ x ∈ b, x < 256) : ACall Try.prog 5 [.pv (.sl 1 (krows .u8 a)), .pv (.sl 1 (krows .u8 b)), .pv (.int .u8 (k : Nat))] [] (.pv (.bool true)) [] [] := by
  refine ACall.fn (fn := Try.f5) rfl okLaw02ShaApart rfl (by simp) ?_
  simp only [argT, irLaw02ShaApart.eq_1]
  simp [-List.reduceReplicate]
  refine CallG.go wakes_c ?_
  by_cases h1 : 200 < a.length
  · have h1' : (200 : Int) < (a.length : Int) := by omega
    simp [-List.reduceReplicate, krows_length, h1, h1']
  · have h1' : ¬ (200 : Int) < (a.length : Int) := by omega
    by_cases h2 : 200 < b.length
    · have h2' : (200 : Int) < (b.length : Int) := by omega
      simp [-List.reduceReplicate, krows_length, h1, h1', h2, h2']
    · have h2' : ¬ (200 : Int) < (b.length : Int) := by omega
      by_cases h3 : b.length = 0
      · simp [-List.reduceReplicate, krows_length, h1, h1', h2, h2', h3]
      · obtain ⟨r, hr⟩ : ∃ r, r = k % b.length := ⟨_, rfl⟩
        have hrl : r < b.length := by rw [hr]; exact Nat.mod_lt _ (by omega)
        have e1 : (k : Int).tmod (b.length : Int) = (r : Int) := by rw [hr]; rfl
        have e2 : IntKind.i64.wrap (k : Int) = (k : Int) := by rw [wrap_i64] <;> omega
        have e3 : IntKind.i64.wrap (1 + (r : Int)) = ((1 + r : Nat) : Int) := by rw [wrap_i64] <;> omega
        obtain ⟨n, hn⟩ : ∃ n, n = 1 + r := ⟨_, rfl⟩
        rw [← hn] at e3
        have hcl : (a ++ b.take n).length = a.length + n := by rw [List.length_append, List.length_take]; omega
        have hdl : (b.drop n).length = b.length - n := List.length_drop
        have hc2 : ∀ x ∈ a ++ b.take n, x < 256 := fun x hx => by rcases List.mem_append.1 hx with h | h; exact ha2 x h; exact hb2 x (List.mem_of_mem_take h)
        have hd2 : ∀ x ∈ b.drop n, x < 256 := fun x hx => hb2 x (List.mem_of_mem_drop hx)
        have hne := txt_ne a (a ++ b.take n) (by omega) (by omega)
        have hab1 : ∀ t ∈ [a, b], t.length ≤ 1000 := fun t ht => by simp at ht; rcases ht with rfl | rfl <;> omega
        have hab2 : ∀ t ∈ [a, b], ∀ x ∈ t, x < 256 := fun t ht => by simp at ht; rcases ht with rfl | rfl; exact ha2; exact hb2
        have hcd1 : ∀ t ∈ [a ++ b.take n, b.drop n], t.length ≤ 1000 := fun t ht => by simp only [List.mem_cons, List.not_mem_nil, or_false] at ht; rcases ht with rfl | rfl <;> omega
        have hcd2 : ∀ t ∈ [a ++ b.take n, b.drop n], ∀ x ∈ t, x < 256 := fun t ht => by simp only [List.mem_cons, List.not_mem_nil, or_false] at ht; rcases ht with rfl | rfl; exact hc2; exact hd2
        have hi1 : n ≤ b.length := by omega
        have hi2 : (n : Int) ≤ (b.length : Int) := by omega
        have ta := refText_c a (by omega)
        have tc := refText_c (a ++ b.take n) (by omega)
        have tal := txt_len a (by omega)
        have sm := same_c (txt a) (txt (a ++ b.take n)) (by omega)
        have t1 : trows [a, b] = [[.sl 1 (krows .u8 a)], [.sl 1 (krows .u8 b)]] := rfl
        have t2 : trows [a ++ b.take n, b.drop n] = [[.sl 1 (krows .u8 (a ++ b.take n))], [.sl 1 (krows .u8 (b.drop n))]] := rfl
        have c1 := all_c [a, b] hab1 hab2 (by simp)
        have c2 := refAll_c [a, b] hab1 hab2 (by simp)
        have c3 := all_c [a ++ b.take n, b.drop n] hcd1 hcd2 (by simp)
        have c4 := refAll_c [a ++ b.take n, b.drop n] hcd1 hcd2 (by simp)
        have hl1 := shaF_len ([a, b].flatMap txt)
        have hl2 := shaF_len ([a ++ b.take n, b.drop n].flatMap txt)
        rw [t1] at c1 c2
        rw [t2] at c3 c4
        generalize shaF ([a, b].flatMap txt) = x at *
        generalize shaF ([a ++ b.take n, b.drop n].flatMap txt) = y at *
        have kt : (krows .u8 b).take n = krows .u8 (b.take n) := krows_take _ _ _
        have kd : (krows .u8 b).drop n = krows .u8 (b.drop n) := krows_drop _ _ _
        have kb : (krows .u8 b).take b.length = krows .u8 b := by rw [krows_take, List.take_length]
        have hbt : (b.take n).length ≤ 200 := by rw [List.length_take]; omega
        have hw0 : (b.take n).length = n := by rw [List.length_take]; omega
        generalize hct : b.take n = bt at *
        generalize hdt : b.drop n = bd at *
        simp [-List.reduceReplicate, krows_length, h1, h1', h2, h2', h3, e1, e2, e3, hi1, hi2, kt, kb, kd, krows_app]
        refine ⟨by omega, by omega, ?_⟩
        refine CallG.go c1 ?_
        simp [-List.reduceReplicate]
        refine CallG.go c3 ?_
        simp [-List.reduceReplicate, kns_length, hl1, hl2]
        refine CallG.go c2 ?_
        simp [-List.reduceReplicate, kns_length, hl1, hl2]
        refine CallG.go c4 ?_
        simp [-List.reduceReplicate, kns_length, hl1, hl2]
        refine CallG.go ta ?_
        simp [-List.reduceReplicate]
        refine CallG.go tc ?_
        simp [-List.reduceReplicate]
        refine CallG.go sm ?_
        simp [hne]
theorem walkShaApart (a0 : Option Addr) (l0 c0 : Nat) (a1 : Option Addr) (l1 c1 : Nat) (a2 : Int) (w : World) (k0 : Shp.Reads w (.slice (.int .u8)) [.slice a0 l0 c0]) (k1 : Shp.Reads w (.slice (.int .u8)) [.slice a1 l1 c1]) (w2 : (Lit.int .u8 a2).wf = true) :
     Calls Try.prog 5 #[.slice a0 l0 c0, .slice a1 l1 c1, .int .u8 a2] w fun e w' => e = .returned (.bool true) ∧ Below w.heap.size w w' := by
  obtain ⟨l0, a0, n0, b0⟩ := arg_sl8 k0
  obtain ⟨l1, a1, n1, b1⟩ := arg_sl8 k1
  obtain ⟨m, rfl, hm⟩ := wf_n rfl w2
  refine lawCalls (lawApart_c l0 l1 m n0 n1 hm b0 b1) rfl fun i v av hv ha => ?_
  match i with
  | 0 => cases hv; cases ha; exact a0
  | 1 => cases hv; cases ha; exact a1
  | 2 => cases hv; cases ha; exact arg_int _ _
  | n + 3 => simp at hv
end Go.Proofs.Ytgnajpfackfcaaa
