/- The laws KeysSigns, KeysVerify, KeysTable. -/
import Derived.Test.YtlmjhnlhgmabpaaKeysD
set_option linter.unusedVariables false
set_option linter.unusedSimpArgs false
namespace Go.Proofs.Ytlmjhnlhgmabpaa
open Go.Abs Go.RowKit Go.Ours

theorem ksig_lt (seed : List Nat) (k : Nat) (t : List Nat) (hk : k < 8) : ∀ x ∈ ksigF seed k t, x < 256 := by
  intro x hx
  simp only [ksigF, List.mem_append] at hx
  rcases hx with (((hx | hx) | hx) | hx) | hx
  · simp at hx; omega
  · exact sig_lt seed k t 35 x hx
  · exact (bes_dig seed k 0 (beside_lt k 0 hk (by decide))).2 x hx
  · exact (bes_dig seed k 1 (beside_lt k 1 hk (by decide))).2 x hx
  · exact (bes_dig seed k 2 (beside_lt k 2 hk (by decide))).2 x hx
theorem ver_sig (seed : List Nat) (k : Nat) (t : List Nat) (hk : k < 8) : verF (rootF seed) t (ksigF seed k t) = (k, 0) := by
  unfold verF
  have h1 := ksig_len seed k t hk
  have h2 : (ksigF seed k t).getD 0 0 = k := rfl
  rw [h2, if_pos ⟨h1, hk⟩, ktop_sig seed k t hk, if_pos rfl]
theorem lawSigns_c (seed t : List Nat) (k : Int) (hl : seed.length = 32) (hb : ∀ x ∈ seed, x < 256) (ht : t.length ≤ maxLen) (htb : ∀ x ∈ t, x < 256) : ACall Try.prog 6 [.pagg (kns .u8 seed), .pv (.int .i64 k), .pv (.sl 1 (krows .u8 t))] [] (.pv (.bool true)) [] [] := by
  refine ACall.fn (fn := Try.f6) rfl okLaw05KeysSigns rfl (by simp) ?_
  simp only [argT, irLaw05KeysSigns.eq_1]
  simp [-List.reduceReplicate, kns_length, hl]
  refine CallG.go wakes_c ?_
  by_cases h1 : 500 < t.length
  · have h1' : (500 : Int) < (t.length : Int) := by omega
    simp [-List.reduceReplicate, krows_length, h1, h1']
  · have h1' : ¬ (500 : Int) < (t.length : Int) := by omega
    have c1 := tree_c seed hl hb
    have c2 := root_c seed hl hb
    have htl := tree_len seed
    have htr := tree_root seed
    obtain ⟨hrl, hrb⟩ := root_dig seed
    by_cases hk : k < 0 ∨ 8 ≤ k
    · have c3 := ksign_bad seed t k hk hl
      generalize rootF seed = r at *
      generalize treeF seed = T at *
      by_cases hk1 : k < 0
      · simp [-List.reduceReplicate, -getElem?_pos, krows_length, h1, h1', kns_length, hl]
        refine CallG.go c1 ?_
        simp [-List.reduceReplicate, -getElem?_pos, kns_length, hl]
        refine CallG.go c2 ?_
        simp [-List.reduceReplicate, -getElem?_pos, kns_length, hl, hrl, hrows_length, htl, hrows_get, htr, krows_length]
        refine ⟨by omega, ?_⟩
        refine CallG.go c3 ?_
        simp [-List.reduceReplicate, -getElem?_pos, hk1]
      · have hk2 : 7 < k := by omega
        simp [-List.reduceReplicate, -getElem?_pos, krows_length, h1, h1', kns_length, hl]
        refine CallG.go c1 ?_
        simp [-List.reduceReplicate, -getElem?_pos, kns_length, hl]
        refine CallG.go c2 ?_
        simp [-List.reduceReplicate, -getElem?_pos, kns_length, hl, hrl, hrows_length, htl, hrows_get, htr, krows_length]
        refine ⟨by omega, ?_⟩
        refine CallG.go c3 ?_
        simp [-List.reduceReplicate, -getElem?_pos, hk1, hk2]
    · obtain ⟨n, rfl⟩ : ∃ n : Nat, k = n := ⟨k.toNat, by omega⟩
      have hn : n < 8 := by omega
      have hk1 : ¬ (n : Int) < 0 := by omega
      have hk2 : ¬ 7 < (n : Int) := by omega
      have hk3 : ¬ 7 < n := by omega
      have c3 := ksign_c seed t n hn hl hb (by omega) htb
      have c4 := verify_c (rootF seed) t (ksigF seed n t) hrl (by omega) htb (by rw [ksig_len seed n t hn]; omega) (ksig_lt seed n t hn)
      rw [ver_sig seed n t hn] at c4
      have c5 := refKSign_c seed t n hn hl hb (by omega) htb
      have c6 := same_c (ksigF seed n t) (ksigF seed n t) (by rw [ksig_len seed n t hn]; omega)
      simp only [decide_true] at c6
      generalize rootF seed = r at *
      generalize treeF seed = T at *
      generalize ksigF seed n t = z at *
      simp [-List.reduceReplicate, -getElem?_pos, krows_length, h1, h1', kns_length, hl]
      refine CallG.go c1 ?_
      simp [-List.reduceReplicate, -getElem?_pos, kns_length, hl]
      refine CallG.go c2 ?_
      simp [-List.reduceReplicate, -getElem?_pos, kns_length, hl, hrl, hrows_length, htl, hrows_get, htr, krows_length]
      refine ⟨by omega, ?_⟩
      refine CallG.go c3 ?_
      simp [-List.reduceReplicate, -getElem?_pos, hk1, hk2, hk3, kns_length, hrl]
      refine CallG.go c4 ?_
      simp [-List.reduceReplicate, -getElem?_pos, kns_length, hl]
      refine CallG.go c5 ?_
      simp [-List.reduceReplicate, -getElem?_pos]
      refine CallG.go c6 ?_
      simp [-List.reduceReplicate, -getElem?_pos]
theorem lawVerify_c (root t sig : List Nat) (hl : root.length = 32) (ht : t.length ≤ maxLen) (htb : ∀ x ∈ t, x < 256) (hs : sig.length ≤ maxLen) (hsb : ∀ x ∈ sig, x < 256) : ACall Try.prog 4 [.pagg (kns .u8 root), .pv (.sl 1 (krows .u8 t)), .pv (.sl 1 (krows .u8 sig))] [] (.pv (.bool true)) [] [] := by
  refine ACall.fn (fn := Try.f4) rfl okLaw05KeysVerify rfl (by simp) ?_
  simp only [argT, irLaw05KeysVerify.eq_1]
  simp [-List.reduceReplicate, kns_length, hl]
  refine CallG.go wakes_c ?_
  by_cases h1 : 500 < t.length
  · have h1' : (500 : Int) < (t.length : Int) := by omega
    simp [-List.reduceReplicate, krows_length, h1, h1']
  · have h1' : ¬ (500 : Int) < (t.length : Int) := by omega
    by_cases h2 : 2000 < sig.length
    · have h2' : (2000 : Int) < (sig.length : Int) := by omega
      simp [-List.reduceReplicate, krows_length, h1, h1', h2, h2']
    · have h2' : ¬ (2000 : Int) < (sig.length : Int) := by omega
      have c1 := verify_c root t sig hl (by omega) htb (by omega) hsb
      have c2 := refVerify_c root t sig hl (by omega) htb (by omega) hsb
      have c3 := same_c sig sig (by omega)
      simp only [decide_true] at c3
      generalize verF root t sig = y at *
      simp [-List.reduceReplicate, krows_length, h1, h1', h2, h2', kns_length, hl]
      refine ⟨by omega, ?_⟩
      refine CallG.go c1 ?_
      simp [-List.reduceReplicate, kns_length, hl]
      refine CallG.go c2 ?_
      simp [-List.reduceReplicate]
      refine CallG.go c3 ?_
      simp [-List.reduceReplicate]
theorem lawTable_c (m : List Nat) (c i : Nat) (hl : m.length = 32) (hb : ∀ x ∈ m, x < 256) (hc : c < 256) (hi : i < 256) : ACall Try.prog 3 [.pagg (kns .u8 m), .pv (.int .u8 (c : Nat)), .pv (.int .u8 (i : Nat))] [] (.pv (.bool true)) [] [] := by
  refine ACall.fn (fn := Try.f3) rfl okLaw05KeysTable rfl (by simp) ?_
  simp only [argT, irLaw05KeysTable.eq_1]
  obtain ⟨k, hk⟩ : ∃ k, k = c % 6 := ⟨_, rfl⟩
  obtain ⟨n, hn⟩ : ∃ n, n = i % 16 := ⟨_, rfl⟩
  have w1 : IntKind.i64.wrap (c : Int) = c := by rw [wrap_i64] <;> omega
  have w2 : IntKind.i64.wrap (i : Int) = i := by rw [wrap_i64] <;> omega
  have v1 : (c : Int).tmod 6 = (k : Int) := by rw [hk]; rfl
  have v2 : (i : Int).tmod 16 = (n : Int) := by rw [hn]; rfl
  have c1 := table_c m hl hb
  have c2 := seed_c m k hl hb
  have c3 := refSeed_c m k hl hb
  obtain ⟨hyl, hyb⟩ := dig_der m k 2
  have c4 := root_c (derF m k 2) hyl hyb
  obtain ⟨hrl, hrb⟩ := root_dig (derF m k 2)
  have c5 := refDerive_c m n 1 hl hb
  have hsl := seal_len m 16
  have hrl2 := roots_len m 6
  have g1 : (rootsF m 6)[k]? = some (rootF (derF m k 2)) := by simp [rootsF, show k < 6 by omega]
  have g2 : (sealF m 16)[n]? = some (derF m n 1) := by simp [sealF, show n < 16 by omega]
  obtain ⟨hdl, _⟩ := dig_der m n 1
  have c6 := same_c (derF m n 1) (derF m n 1) (by omega)
  simp only [decide_true] at c6
  generalize rootF (derF m k 2) = r at *
  generalize derF m k 2 = y at *
  generalize derF m n 1 = d at *
  generalize rootsF m 6 = R at *
  generalize sealF m 16 = T at *
  have i1 : (k : Int) < 6 := by omega
  have i2 : k < 6 := by omega
  have i3 : (n : Int) < 16 := by omega
  have i4 : n < 16 := by omega
  simp [-List.reduceReplicate, -getElem?_pos, kns_length, hl]
  refine CallG.go wakes_c ?_
  simp [-List.reduceReplicate, -getElem?_pos, kns_length, hl]
  refine CallG.go c1 ?_
  simp [-List.reduceReplicate, -getElem?_pos, kns_length, hl, trows_length, hrows_length, hsl, hrl2, w1, w2, v1, v2]
  refine CallG.go c2 ?_
  simp [-List.reduceReplicate, -getElem?_pos, kns_length, hl, hyl]
  refine CallG.go c3 ?_
  simp [-List.reduceReplicate, -getElem?_pos, kns_length, hl, hyl, hrl, hrows_length, hrl2, hrows_get, g1, i1, i2]
  refine CallG.go c4 ?_
  simp [-List.reduceReplicate, -getElem?_pos, kns_length, hl, hrl, trows_length, hsl, trows_get, g2, i3, i4]
  refine CallG.go c5 ?_
  simp [-List.reduceReplicate, -getElem?_pos]
  refine CallG.go c6 ?_
  simp [-List.reduceReplicate, -getElem?_pos]
theorem walkKeysSigns (c0 : Array Value) (a1 : Int) (a2 : Option Addr) (l2 c2 : Nat) (w : World) (k0 : Shp.Reads w (.arr 32 (.int .u8)) c0.toList) (w1 : (Lit.int .i64 a1).wf = true) (k2 : Shp.Reads w (.slice (.int .u8)) [.slice a2 l2 c2]) :
     Calls Try.prog 6 #[.agg c0, .int .i64 a1, .slice a2 l2 c2] w fun e w' => e = .returned (.bool true) ∧ Below w.heap.size w w' := by
  obtain ⟨l0, a0, n0, b0⟩ := arg_arr8 k0
  obtain ⟨l2, a2, n2, b2⟩ := arg_sl8 k2
  refine lawCalls (lawSigns_c l0 l2 a1 n0 b0 n2 b2) rfl fun i v av hv ha => ?_
  match i with
  | 0 => cases hv; cases ha; exact a0
  | 1 => cases hv; cases ha; exact arg_int _ _
  | 2 => cases hv; cases ha; exact a2
  | n + 3 => simp at hv
theorem walkKeysVerify (c0 : Array Value) (a1 : Option Addr) (l1 c1 : Nat) (a2 : Option Addr) (l2 c2 : Nat) (w : World) (k0 : Shp.Reads w (.arr 32 (.int .u8)) c0.toList) (k1 : Shp.Reads w (.slice (.int .u8)) [.slice a1 l1 c1]) (k2 : Shp.Reads w (.slice (.int .u8)) [.slice a2 l2 c2]) :
     Calls Try.prog 4 #[.agg c0, .slice a1 l1 c1, .slice a2 l2 c2] w fun e w' => e = .returned (.bool true) ∧ Below w.heap.size w w' := by
  obtain ⟨l0, a0, n0, b0⟩ := arg_arr8 k0
  obtain ⟨l1, a1, n1, b1⟩ := arg_sl8 k1
  obtain ⟨l2, a2, n2, b2⟩ := arg_sl8 k2
  refine lawCalls (lawVerify_c l0 l1 l2 n0 n1 b1 n2 b2) rfl fun i v av hv ha => ?_
  match i with
  | 0 => cases hv; cases ha; exact a0
  | 1 => cases hv; cases ha; exact a1
  | 2 => cases hv; cases ha; exact a2
  | n + 3 => simp at hv
theorem walkKeysTable (c0 : Array Value) (a1 : Int) (a2 : Int) (w : World) (k0 : Shp.Reads w (.arr 32 (.int .u8)) c0.toList) (w1 : (Lit.int .u8 a1).wf = true) (w2 : (Lit.int .u8 a2).wf = true) :
     Calls Try.prog 3 #[.agg c0, .int .u8 a1, .int .u8 a2] w fun e w' => e = .returned (.bool true) ∧ Below w.heap.size w w' := by
  obtain ⟨l0, a0, n0, b0⟩ := arg_arr8 k0
  obtain ⟨m1, rfl, h1⟩ := wf_n rfl w1
  obtain ⟨m2, rfl, h2⟩ := wf_n rfl w2
  refine lawCalls (lawTable_c l0 m1 m2 n0 b0 h1 h2) rfl fun i v av hv ha => ?_
  match i with
  | 0 => cases hv; cases ha; exact a0
  | 1 => cases hv; cases ha; exact arg_int _ _
  | 2 => cases hv; cases ha; exact arg_int _ _
  | n + 3 => simp at hv
end Go.Proofs.Ytlmjhnlhgmabpaa
