/- The laws MacTag, MacCheck, MacDerive. -/
import Derived.Test.YtljjmcnblcklhaaMacC
import Derived.Test.YtljjmcnblcklhaaShaO
set_option linter.unusedVariables false
set_option linter.unusedSimpArgs false
namespace Go.Proofs.Ytljjmcnblcklhaa
open Go.Abs Go.RowKit Go.Ours

theorem lawTag_c (key t : List Nat) (hk : key.length ≤ maxLen) (ht : t.length ≤ maxLen) (hb : ∀ x ∈ key, x < 256) (htb : ∀ x ∈ t, x < 256) : ACall Try.prog 5 [.pv (.sl 1 (krows .u8 key)), .pv (.sl 1 (krows .u8 t))] [] (.pv (.bool true)) [] [] := by
  refine ACall.fn (fn := Try.f5) rfl okLaw03MacTag rfl (by simp) ?_
  simp only [argT, irLaw03MacTag.eq_1]
  simp [-List.reduceReplicate]
  refine CallG.go wakes_c ?_
  by_cases h1 : 1000 < key.length
  · have h1' : (1000 : Int) < (key.length : Int) := by omega
    simp [-List.reduceReplicate, krows_length, h1, h1']
  · have h1' : ¬ (1000 : Int) < (key.length : Int) := by omega
    by_cases h2 : 2000 < t.length
    · have h2' : (2000 : Int) < (t.length : Int) := by omega
      simp [-List.reduceReplicate, krows_length, h1, h1', h2, h2']
    · have h2' : ¬ (2000 : Int) < (t.length : Int) := by omega
      have c1 := tag_c key t (by omega) (by omega) hb htb
      have c2 := refTag_c key t (by omega) (by omega) hb htb
      have hl := tagF_len key t
      have c3 := check_c key t (tagF key t) (by omega) (by omega) hb htb hl (tagF_lt key t)
      have c4 := same_c key key (by omega)
      have c5 := same_c t t (by omega)
      simp only [decide_true] at c3 c4 c5
      generalize tagF key t = y at *
      simp [-List.reduceReplicate, krows_length, h1, h1', h2, h2']
      refine ⟨by omega, by omega, ?_⟩
      refine CallG.go c1 ?_
      simp [-List.reduceReplicate, kns_length, hl]
      refine CallG.go c2 ?_
      simp [-List.reduceReplicate, kns_length, hl]
      refine CallG.go c3 ?_
      simp [-List.reduceReplicate]
      refine CallG.go c4 ?_
      simp [-List.reduceReplicate]
      refine CallG.go c5 ?_
      simp
theorem lawCheck_c (key t tag : List Nat) (hk : key.length ≤ maxLen) (ht : t.length ≤ maxLen) (hb : ∀ x ∈ key, x < 256) (htb : ∀ x ∈ t, x < 256) (hl : tag.length = 32) (hb2 : ∀ x ∈ tag, x < 256) : ACall Try.prog 6 [.pv (.sl 1 (krows .u8 key)), .pv (.sl 1 (krows .u8 t)), .pagg (kns .u8 tag)] [] (.pv (.bool true)) [] [] := by
  refine ACall.fn (fn := Try.f6) rfl okLaw03MacCheck rfl (by simp) ?_
  simp only [argT, irLaw03MacCheck.eq_1]
  simp [-List.reduceReplicate]
  refine CallG.go wakes_c ?_
  by_cases h1 : 1000 < key.length
  · have h1' : (1000 : Int) < (key.length : Int) := by omega
    simp [-List.reduceReplicate, krows_length, h1, h1']
  · have h1' : ¬ (1000 : Int) < (key.length : Int) := by omega
    by_cases h2 : 2000 < t.length
    · have h2' : (2000 : Int) < (t.length : Int) := by omega
      simp [-List.reduceReplicate, krows_length, h1, h1', h2, h2']
    · have h2' : ¬ (2000 : Int) < (t.length : Int) := by omega
      have c2 := refTag_c key t (by omega) (by omega) hb htb
      have hl2 := tagF_len key t
      have c3 := check_c key t tag (by omega) (by omega) hb htb hl hb2
      generalize tagF key t = y at *
      simp [-List.reduceReplicate, krows_length, h1, h1', h2, h2', kns_length, hl]
      refine CallG.go c3 ?_
      simp [-List.reduceReplicate, kns_length, hl]
      refine CallG.go c2 ?_
      have e : decide (y = tag) = decide (tag = y) := by
        by_cases h : y = tag
        · simp [h]
        · have h' : ¬ tag = y := fun e => h e.symm
          simp [h, h']
      simp [-List.reduceReplicate, kns_length, hl, hl2, e]
theorem lawDerive_c (m : List Nat) (who use : Int) (hl : m.length = 32) (hb : ∀ x ∈ m, x < 256) : ACall Try.prog 3 [.pagg (kns .u8 m), .pv (.int .i64 who), .pv (.int .i64 use)] [] (.pv (.bool true)) [] [] := by
  refine ACall.fn (fn := Try.f3) rfl okLaw03MacDerive rfl (by simp) ?_
  simp only [argT, irLaw03MacDerive.eq_1]
  have c1 := derive_c m who use hl hb
  have c2 := refDerive_c m who use hl hb
  have hl2 : (derF m who use).length = 32 := shaF_len _
  have c3 := same_c (derF m who use) (derF m who use) (by omega)
  simp only [decide_true] at c3
  generalize derF m who use = y at *
  simp [-List.reduceReplicate]
  refine CallG.go wakes_c ?_
  simp [-List.reduceReplicate, kns_length, hl]
  refine CallG.go c1 ?_
  simp [-List.reduceReplicate, kns_length, hl, krows_length, hl2]
  refine CallG.go c2 ?_
  simp [-List.reduceReplicate]
  refine CallG.go c3 ?_
  simp
theorem walkMacTag (a0 : Option Addr) (l0 c0 : Nat) (a1 : Option Addr) (l1 c1 : Nat) (w : World) (k0 : Shp.Reads w (.slice (.int .u8)) [.slice a0 l0 c0]) (k1 : Shp.Reads w (.slice (.int .u8)) [.slice a1 l1 c1]) :
     Calls Try.prog 5 #[.slice a0 l0 c0, .slice a1 l1 c1] w fun e w' => e = .returned (.bool true) ∧ Below w.heap.size w w' := by
  obtain ⟨l0, a0, n0, b0⟩ := arg_sl8 k0
  obtain ⟨l1, a1, n1, b1⟩ := arg_sl8 k1
  refine lawCalls (lawTag_c l0 l1 n0 n1 b0 b1) rfl fun i v av hv ha => ?_
  match i with
  | 0 => cases hv; cases ha; exact a0
  | 1 => cases hv; cases ha; exact a1
  | n + 2 => simp at hv
theorem walkMacCheck (a0 : Option Addr) (l0 c0 : Nat) (a1 : Option Addr) (l1 c1 : Nat) (c2 : Array Value) (w : World) (k0 : Shp.Reads w (.slice (.int .u8)) [.slice a0 l0 c0]) (k1 : Shp.Reads w (.slice (.int .u8)) [.slice a1 l1 c1]) (k2 : Shp.Reads w (.arr 32 (.int .u8)) c2.toList) :
     Calls Try.prog 6 #[.slice a0 l0 c0, .slice a1 l1 c1, .agg c2] w fun e w' => e = .returned (.bool true) ∧ Below w.heap.size w w' := by
  obtain ⟨l0, a0, n0, b0⟩ := arg_sl8 k0
  obtain ⟨l1, a1, n1, b1⟩ := arg_sl8 k1
  obtain ⟨l2, a2, n2, b2⟩ := arg_arr8 k2
  refine lawCalls (lawCheck_c l0 l1 l2 n0 n1 b0 b1 n2 b2) rfl fun i v av hv ha => ?_
  match i with
  | 0 => cases hv; cases ha; exact a0
  | 1 => cases hv; cases ha; exact a1
  | 2 => cases hv; cases ha; exact a2
  | n + 3 => simp at hv
theorem walkMacDerive (c0 : Array Value) (a1 : Int) (a2 : Int) (w : World) (k0 : Shp.Reads w (.arr 32 (.int .u8)) c0.toList) (w1 : (Lit.int .i64 a1).wf = true) (w2 : (Lit.int .i64 a2).wf = true) :
     Calls Try.prog 3 #[.agg c0, .int .i64 a1, .int .i64 a2] w fun e w' => e = .returned (.bool true) ∧ Below w.heap.size w w' := by
  obtain ⟨l0, a0, n0, b0⟩ := arg_arr8 k0
  refine lawCalls (lawDerive_c l0 a1 a2 n0 b0) rfl fun i v av hv ha => ?_
  match i with
  | 0 => cases hv; cases ha; exact a0
  | 1 => cases hv; cases ha; exact arg_int _ _
  | 2 => cases hv; cases ha; exact arg_int _ _
  | n + 3 => simp at hv
end Go.Proofs.Ytljjmcnblcklhaa
