/- The law KeysApart. -/
import Derived.Test.YtlmjhnlhgmabpaaKeysD
import Derived.Test.YtlmjhnlhgmabpaaIrKeysO
set_option linter.unusedVariables false
set_option linter.unusedSimpArgs false
namespace Go.Proofs.Ytlmjhnlhgmabpaa
open Go.Abs Go.RowKit Go.Ours

theorem ksig_lt' (seed : List Nat) (k : Nat) (t : List Nat) (hk : k < 8) : ∀ x ∈ ksigF seed k t, x < 256 := by
  intro x hx
  simp only [ksigF, List.mem_append] at hx
  rcases hx with (((hx | hx) | hx) | hx) | hx
  · simp at hx; omega
  · exact sig_lt seed k t 35 x hx
  · exact (bes_dig seed k 0 (beside_lt k 0 hk (by decide))).2 x hx
  · exact (bes_dig seed k 1 (beside_lt k 1 hk (by decide))).2 x hx
  · exact (bes_dig seed k 2 (beside_lt k 2 hk (by decide))).2 x hx
theorem kns_rowsA (k : IntKind) (l : List Nat) (n : Nat) : ((kns k l).take n).map (fun p => [p]) = krows k (l.take n) := by
  simp [kns, krows, List.map_take, Function.comp_def]
theorem lawApart_c (seed t : List Nat) (y : Nat) (hl : seed.length = 32) (hb : ∀ x ∈ seed, x < 256) (ht : t.length ≤ maxLen) (htb : ∀ x ∈ t, x < 256) (hy : y < 256) : ACall Try.prog 5 [.pagg (kns .u8 seed), .pv (.sl 1 (krows .u8 t)), .pv (.int .u8 (y : Nat))] [] (.pv (.bool true)) [] [] := by
  refine ACall.fn (fn := Try.f5) rfl okKeysApartO rfl (by simp) ?_
  simp only [argT, irKeysApartO.eq_1]
  simp [-List.reduceReplicate, kns_length, hl]
  refine CallG.go wakes_c ?_
  by_cases h1 : 300 < t.length
  · have h1' : (300 : Int) < (t.length : Int) := by omega
    simp [-List.reduceReplicate, krows_length, h1, h1']
  · have h1' : ¬ (300 : Int) < (t.length : Int) := by omega
    obtain ⟨k, hk⟩ : ∃ k, k = y % 8 := ⟨_, rfl⟩
    have hk8 : k < 8 := by omega
    have w1 : IntKind.i64.wrap (y : Int) = y := by rw [wrap_i64] <;> omega
    have w2 : (y : Int).tmod 8 = (k : Int) := by rw [hk]; rfl
    have hsl := ksig_len seed k t hk8
    have hsb := ksig_lt' seed k t hk8
    have c0 := ACall.osv (refKSign_c seed t k hk8 hl hb (by omega) htb) (by rw [krows_length, hsl]; decide) (flat_krows _ _)
    rw [krows_flat, krows_length, hsl] at c0
    generalize ksigF seed k t = s at *
    have hcl : (s.take y).length = y := by rw [List.length_take]; omega
    have c1 := verify_c (List.replicate 32 0) t (s.take y) (by simp) (by omega) htb (by omega) (fun x hx => hsb x (List.mem_of_mem_take hx))
    have v1 : verF (List.replicate 32 0) t (s.take y) = (0, 2) := by
      unfold verF
      rw [if_neg (by rw [hcl]; omega)]
    rw [v1] at c1
    have hsl2 : (s.set 0 y).length = 657 := by rw [List.length_set, hsl]
    have hsb2 : ∀ x ∈ s.set 0 y, x < 256 := fun x hx => by
      rcases List.mem_or_eq_of_mem_set hx with hx | rfl
      · exact hsb x hx
      · exact hy
    have c2 := verify_c (List.replicate 32 0) t (s.set 0 y) (by simp) (by omega) htb (by omega) hsb2
    have c3 := refVerify_c (List.replicate 32 0) t (s.set 0 y) (by simp) (by omega) htb (by omega) hsb2
    have h0 : (s.set 0 y).getD 0 0 = y := by
      rw [List.getD_eq_getElem?_getD, List.getElem?_set, if_pos rfl, if_pos (by omega)]
      rfl
    have v2 : 8 ≤ y → (verF (List.replicate 32 0) t (s.set 0 y)).2 = 2 := fun h => by
      unfold verF
      rw [h0, if_neg (by omega)]
    have hset : (kns .u8 s).set 0 (.int .u8 (y : Int)) = kns .u8 (s.set 0 y) := by rw [kns_set]
    have hr1 := kns_rowsA .u8 s y
    have hr2 : ((kns .u8 (s.set 0 y)).take 657).map (fun p => [p]) = krows .u8 (s.set 0 y) := by rw [kns_rowsA, List.take_of_length_le (by omega)]
    have hr3 : (krows .u8 (s.set 0 y)).take 657 = krows .u8 (s.set 0 y) := List.take_of_length_le (by rw [krows_length]; omega)
    have hy657 : y ≤ 657 := by omega
    have hy657' : (y : Int) ≤ 657 := by omega
    generalize verF (List.replicate 32 0) t (s.set 0 y) = v at *
    rw [← kns_rep] at c1 c2 c3
    generalize s.set 0 y = s2 at *
    simp [-List.reduceReplicate, krows_length, h1, h1', kns_length, hl, w1, w2]
    refine CallG.go c0 ?_
    simp [-List.reduceReplicate, kns_length, hsl, hy657, hy657', w1, hr1]
    refine CallG.go c1 ?_
    simp [-List.reduceReplicate, kns_length, hsl, hset, hsl2, hr2, hr3]
    refine CallG.go c2 ?_
    simp [-List.reduceReplicate, kns_length, hsl2, hr2, hr3]
    refine CallG.go c3 ?_
    by_cases h8 : y < 8
    · have h8' : (y : Int) < 8 := by omega
      simp [h8, h8']
    · have h8' : ¬ (y : Int) < 8 := by omega
      have := v2 (by omega)
      simp [h8, h8', this]
theorem walkKeysApart (c0 : Array Value) (a1 : Option Addr) (l1 c1 : Nat) (a2 : Int) (w : World) (k0 : Shp.Reads w (.arr 32 (.int .u8)) c0.toList) (k1 : Shp.Reads w (.slice (.int .u8)) [.slice a1 l1 c1]) (w2 : (Lit.int .u8 a2).wf = true) :
     Calls Try.prog 5 #[.agg c0, .slice a1 l1 c1, .int .u8 a2] w fun e w' => e = .returned (.bool true) ∧ Below w.heap.size w w' := by
  obtain ⟨seed, q0, hl, hb⟩ := arg_arr8 k0
  obtain ⟨t, q1, ht, htb⟩ := arg_sl8 k1
  obtain ⟨y, rfl, hy⟩ := wf_n (k := .u8) rfl w2
  refine lawCalls (lawApart_c seed t y hl hb ht htb hy) rfl fun i v av hv ha => ?_
  match i with
  | 0 => cases hv; cases ha; exact q0
  | 1 => cases hv; cases ha; exact q1
  | 2 => cases hv; cases ha; exact arg_int _ _
  | n + 3 => simp at hv
end Go.Proofs.Ytlmjhnlhgmabpaa
