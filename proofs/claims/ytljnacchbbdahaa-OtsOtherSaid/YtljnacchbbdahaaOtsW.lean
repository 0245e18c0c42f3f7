/- The laws OtsSigns, OtsRecovers, OtsOther. -/
import Derived.Test.YtljnacchbbdahaaOtsF
import Derived.Test.YtljnacchbbdahaaIrLaw04
set_option linter.unusedVariables false
set_option linter.unusedSimpArgs false
namespace Go.Proofs.Ytljnacchbbdahaa
open Go.Abs Go.RowKit Go.Ours

theorem lawSigns_c (seed t : List Nat) (idx : Int) (hl : seed.length = 32) (hb : ∀ x ∈ seed, x < 256) (ht : t.length ≤ maxLen) (htb : ∀ x ∈ t, x < 256) : ACall Try.prog 6 [.pagg (kns .u8 seed), .pv (.int .i64 idx), .pv (.sl 1 (krows .u8 t))] [] (.pv (.bool true)) [] [] := by
  refine ACall.fn (fn := Try.f6) rfl okLaw04OtsSigns rfl (by simp) ?_
  simp only [argT, irLaw04OtsSigns.eq_1]
  simp [-List.reduceReplicate]
  refine CallG.go wakes_c ?_
  by_cases h1 : 500 < t.length
  · have h1' : (500 : Int) < (t.length : Int) := by omega
    simp [-List.reduceReplicate, krows_length, h1, h1']
  · have h1' : ¬ (500 : Int) < (t.length : Int) := by omega
    have c1 := public_c seed idx hl hb
    have c2 := sign_c seed t idx hl hb (by omega) htb
    have c3 := refPublic_c seed idx hl hb
    have c4 := refSign_c seed t idx hl hb (by omega) htb
    have hsl := sig_len seed idx t 35
    have c5 := recover_c t (sigB seed idx t 35) (by omega) (sig_lt seed idx t 35) (by omega) htb
    rw [rec_sig] at c5
    have c6 := same_c (sigB seed idx t 35) (sigB seed idx t 35) (by omega)
    simp only [decide_true] at c6
    have hfl : (pubF seed idx).length = 32 := shaF_len _
    generalize pubF seed idx = y at *
    generalize sigB seed idx t 35 = z at *
    simp [-List.reduceReplicate, krows_length, h1, h1']
    simp [-List.reduceReplicate, kns_length, hl, krows_length]
    refine CallG.go c1 ?_
    simp [-List.reduceReplicate, kns_length, hl, krows_length]
    refine ⟨by omega, ?_⟩
    refine CallG.go c2 ?_
    simp [-List.reduceReplicate, kns_length, hl, hfl]
    refine CallG.go c3 ?_
    simp [-List.reduceReplicate, kns_length, hl, hfl]
    refine CallG.go c4 ?_
    simp [-List.reduceReplicate]
    refine CallG.go c6 ?_
    simp [-List.reduceReplicate]
    refine CallG.go c5 ?_
    simp [-List.reduceReplicate, kns_length, hfl]
theorem lawRecovers_c (t sig : List Nat) (ht : t.length ≤ maxLen) (htb : ∀ x ∈ t, x < 256) (hs : sig.length ≤ maxLen) (hb : ∀ x ∈ sig, x < 256) : ACall Try.prog 4 [.pv (.sl 1 (krows .u8 t)), .pv (.sl 1 (krows .u8 sig))] [] (.pv (.bool true)) [] [] := by
  refine ACall.fn (fn := Try.f4) rfl okLaw04OtsRecovers rfl (by simp) ?_
  simp only [argT, irLaw04OtsRecovers.eq_1]
  simp [-List.reduceReplicate]
  refine CallG.go wakes_c ?_
  by_cases h1 : 500 < t.length
  · have h1' : (500 : Int) < (t.length : Int) := by omega
    simp [-List.reduceReplicate, krows_length, h1, h1']
  · have h1' : ¬ (500 : Int) < (t.length : Int) := by omega
    by_cases h2 : 2000 < sig.length
    · have h2' : (2000 : Int) < (sig.length : Int) := by omega
      simp [-List.reduceReplicate, krows_length, h1, h1', h2, h2']
    · have h2' : ¬ (2000 : Int) < (sig.length : Int) := by omega
      have c6 := same_c sig sig (by omega)
      simp only [decide_true] at c6
      by_cases h3 : sig.length = 560
      · have c1 := recover_c t sig h3 hb (by omega) htb
        have c2 := refRecover_c t sig h3 hb (by omega) htb
        have hfl : (recF t sig).length = 32 := shaF_len _
        generalize recF t sig = y at *
        simp [-List.reduceReplicate, krows_length, h1, h1', h2, h2']
        refine ⟨by omega, ?_⟩
        refine CallG.go c1 ?_
        simp [-List.reduceReplicate, kns_length, hfl]
        refine CallG.go c2 ?_
        simp [-List.reduceReplicate, kns_length, hfl]
        refine CallG.go c6 ?_
        simp
      · have c1 := recover_bad t sig h3 hs
        have c2 := refRecover_bad t sig h3 hs
        have hfl : (List.replicate 32 0 : List Nat).length = 32 := rfl
        generalize (List.replicate 32 0 : List Nat) = y at *
        simp [-List.reduceReplicate, krows_length, h1, h1', h2, h2']
        refine ⟨by omega, ?_⟩
        refine CallG.go c1 ?_
        simp [-List.reduceReplicate, kns_length, hfl]
        refine CallG.go c2 ?_
        simp [-List.reduceReplicate, kns_length, hfl]
        refine CallG.go c6 ?_
        simp
theorem fx8_inj {x y : Nat} (hx : x < 18446744073709551616) (hy : y < 18446744073709551616) (h : fx 8 x = fx 8 y) : x = y := by
  simp only [fx, List.range, List.range.loop, List.map_cons, List.map_nil, List.cons.injEq, and_true] at h
  obtain ⟨h7, h6, h5, h4, h3, h2, h1, h0⟩ := h
  simp only [Nat.sub_zero, Nat.add_one_sub_one, Nat.reduceSub, Nat.reducePow] at h7 h6 h5 h4 h3 h2 h1 h0
  have e7 : x / 72057594037927936 = y / 72057594037927936 := by omega
  have e6 : x / 281474976710656 = y / 281474976710656 := by omega
  have e5 : x / 1099511627776 = y / 1099511627776 := by omega
  have e4 : x / 4294967296 = y / 4294967296 := by omega
  have e3 : x / 16777216 = y / 16777216 := by omega
  have e2 : x / 65536 = y / 65536 := by omega
  have e1 : x / 256 = y / 256 := by omega
  omega
theorem lawOther_c (seed : List Nat) (a b : Int) (hl : seed.length = 32) (hb : ∀ x ∈ seed, x < 256) (ha : -9223372036854775808 ≤ a ∧ a < 9223372036854775808) (hbb : -9223372036854775808 ≤ b ∧ b < 9223372036854775808) : ACall Try.prog 5 [.pagg (kns .u8 seed), .pv (.int .i64 a), .pv (.int .i64 b)] [] (.pv (.bool true)) [] [] := by
  refine ACall.fn (fn := Try.f5) rfl okLaw04OtsOther rfl (by simp) ?_
  simp only [argT, irLaw04OtsOther.eq_1]
  have c1 := fixed_c (uw a) 8 (uw_lt a) (Or.inr rfl)
  have c2 := fixed_c (uw b) 8 (uw_lt b) (Or.inr rfl)
  have f1 := fx_len 8 (uw a)
  have w1 := uw_wrap a
  have w2 := uw_wrap b
  have c3 := same_c (fx 8 (uw a)) (fx 8 (uw b)) (by omega)
  have c4 := public_c seed a hl hb
  have c5 := refPublic_c seed a hl hb
  have c6 := public_c seed b hl hb
  have hfl : (pubF seed a).length = 32 := shaF_len _
  simp [kns_length, hl]
  refine CallG.go wakes_c ?_
  simp [kns_length, hl, w1]
  refine CallG.go c1 ?_
  simp [kns_length, hl, w2]
  refine CallG.go c2 ?_
  by_cases hab : a = b
  · subst hab
    generalize pubF seed a = y at *
    generalize fx 8 (uw a) = F at *
    simp [kns_length, hl]
    refine CallG.go c4 ?_
    simp [kns_length, hl]
    refine CallG.go c5 ?_
    simp [kns_length, hl, hfl]
    refine CallG.go c4 ?_
    simp [kns_length, hl, hfl]
    refine CallG.go c4 ?_
    simp [kns_length, hfl]
  · have hne : ¬ fx 8 (uw a) = fx 8 (uw b) := fun h => by
      have := fx8_inj (uw_lt a) (uw_lt b) h
      unfold uw at this
      omega
    have hab' : (a != b) = true := by simp [hab]
    generalize pubF seed a = y at *
    generalize fx 8 (uw a) = F at *
    generalize fx 8 (uw b) = F2 at *
    simp [kns_length, hl, hab, hab']
    refine CallG.go c3 ?_
    simp [kns_length, hl, hne, hab, hab']
    refine CallG.go c4 ?_
    simp [kns_length, hl, hne, hab, hab']
    refine CallG.go c5 ?_
    simp [kns_length, hl, hfl, hne, hab, hab']
theorem walkOtsSigns (c0 : Array Value) (a1 : Int) (a2 : Option Addr) (l2 c2 : Nat) (w : World) (k0 : Shp.Reads w (.arr 32 (.int .u8)) c0.toList) (w1 : (Lit.int .i64 a1).wf = true) (k2 : Shp.Reads w (.slice (.int .u8)) [.slice a2 l2 c2]) :
     Calls Try.prog 6 #[.agg c0, .int .i64 a1, .slice a2 l2 c2] w fun e w' => e = .returned (.bool true) ∧ Below w.heap.size w w' := by
  obtain ⟨l0, a0, n0, b0⟩ := arg_arr8 k0
  obtain ⟨l2, a2, n2, b2⟩ := arg_sl8 k2
  refine lawCalls (lawSigns_c l0 l2 a1 n0 b0 n2 b2) rfl fun i v av hv ha => ?_
  match i with
  | 0 => cases hv; cases ha; exact a0
  | 1 => cases hv; cases ha; exact arg_int _ _
  | 2 => cases hv; cases ha; exact a2
  | n + 3 => simp at hv
theorem walkOtsRecovers (a0 : Option Addr) (l0 c0 : Nat) (a1 : Option Addr) (l1 c1 : Nat) (w : World) (k0 : Shp.Reads w (.slice (.int .u8)) [.slice a0 l0 c0]) (k1 : Shp.Reads w (.slice (.int .u8)) [.slice a1 l1 c1]) :
     Calls Try.prog 4 #[.slice a0 l0 c0, .slice a1 l1 c1] w fun e w' => e = .returned (.bool true) ∧ Below w.heap.size w w' := by
  obtain ⟨l0, a0, n0, b0⟩ := arg_sl8 k0
  obtain ⟨l1, a1, n1, b1⟩ := arg_sl8 k1
  refine lawCalls (lawRecovers_c l0 l1 n0 b0 n1 b1) rfl fun i v av hv ha => ?_
  match i with
  | 0 => cases hv; cases ha; exact a0
  | 1 => cases hv; cases ha; exact a1
  | n + 2 => simp at hv
theorem walkOtsOther (c0 : Array Value) (a1 : Int) (a2 : Int) (w : World) (k0 : Shp.Reads w (.arr 32 (.int .u8)) c0.toList) (w1 : (Lit.int .i64 a1).wf = true) (w2 : (Lit.int .i64 a2).wf = true) :
     Calls Try.prog 5 #[.agg c0, .int .i64 a1, .int .i64 a2] w fun e w' => e = .returned (.bool true) ∧ Below w.heap.size w w' := by
  obtain ⟨l0, a0, n0, b0⟩ := arg_arr8 k0
  refine lawCalls (lawOther_c l0 a1 a2 n0 b0 (wf_i64 w1) (wf_i64 w2)) rfl fun i v av hv ha => ?_
  match i with
  | 0 => cases hv; cases ha; exact a0
  | 1 => cases hv; cases ha; exact arg_int _ _
  | 2 => cases hv; cases ha; exact arg_int _ _
  | n + 3 => simp at hv
end Go.Proofs.Ytljnacchbbdahaa
