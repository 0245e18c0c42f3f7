/- The law ViewsBytes. -/
import Derived.Test.YtaekbkjckahccaaDoorViewsP
set_option linter.unusedVariables false
set_option linter.unusedSimpArgs false
namespace Go.Proofs.YtaekbkjckahccaaDoor
open Go.Abs Go.RowKit Go.Ours

theorem four {b : List Nat} (h : b.length = 4) : ∃ x0 x1 x2 x3, b = [x0, x1, x2, x3] := by
  match b, h with
  | [x0, x1, x2, x3], _ => exact ⟨x0, x1, x2, x3, rfl⟩
theorem getV_put (b : List Nat) (hb : ∀ x ∈ b, x < 256) (h : (getV b).2 = 0) : putV (getV b).1.1 (getV b).1.2 = b := by
  unfold getV at h ⊢
  by_cases h4 : b.length < 4
  · rw [if_pos h4] at h
    simp at h
  · rw [if_neg h4] at h ⊢
    by_cases hc : b.length = 4 ∧ rightV ((256 * b[0]?.getD 0 + b[1]?.getD 0 : Nat) : Int) (256 * b[2]?.getD 0 + b[3]?.getD 0) = true
    · rw [if_pos hc]
      obtain ⟨h6, hr⟩ := hc
      obtain ⟨x0, x1, x2, x3, rfl⟩ := four h6
      simp only [List.mem_cons, List.not_mem_nil, or_false] at hb
      have b0 := hb x0 (by simp)
      have b1 := hb x1 (by simp)
      have b2 := hb x2 (by simp)
      have b3 := hb x3 (by simp)
      have e0 : ([x0, x1, x2, x3] : List Nat)[0]?.getD 0 = x0 := rfl
      have e1 : ([x0, x1, x2, x3] : List Nat)[1]?.getD 0 = x1 := rfl
      have e2 : ([x0, x1, x2, x3] : List Nat)[2]?.getD 0 = x2 := rfl
      have e3 : ([x0, x1, x2, x3] : List Nat)[3]?.getD 0 = x3 := rfl
      rw [e0, e1, e2, e3] at hr ⊢
      unfold putV
      simp only
      rw [hr, if_pos rfl, Int.toNat_natCast, show (256 * x0 + x1) / 256 % 256 = x0 by omega, show (256 * x0 + x1) % 256 = x1 by omega, show (256 * x2 + x3) / 256 % 256 = x2 by omega, show (256 * x2 + x3) % 256 = x3 by omega]
    · rw [if_neg hc] at h
      simp at h
theorem getV_of (n : Int) (m : Nat) (hm : m < 65536) (h : rightV n m = true) : getV (putV n m) = ((n, m), 0) := by
  have hr := right_num h
  obtain ⟨a, rfl⟩ : ∃ a : Nat, n = a := ⟨n.toNat, by omega⟩
  unfold putV
  rw [h, if_pos rfl, Int.toNat_natCast]
  unfold getV
  have e : ∀ x0 x1 x2 x3 : Nat, ([x0, x1, x2, x3] : List Nat)[0]?.getD 0 = x0 ∧ ([x0, x1, x2, x3] : List Nat)[1]?.getD 0 = x1 ∧ ([x0, x1, x2, x3] : List Nat)[2]?.getD 0 = x2 ∧ ([x0, x1, x2, x3] : List Nat)[3]?.getD 0 = x3 ∧ ([x0, x1, x2, x3] : List Nat).length = 4 := fun _ _ _ _ => ⟨rfl, rfl, rfl, rfl, rfl⟩
  obtain ⟨e0, e1, e2, e3, e4⟩ := e (a / 256 % 256) (a % 256) (m / 256 % 256) (m % 256)
  rw [e0, e1, e2, e3, e4, show 256 * (a / 256 % 256) + a % 256 = a by omega, show 256 * (m / 256 % 256) + m % 256 = m by omega]
  rw [if_neg (by decide), if_pos ⟨rfl, h⟩]
theorem putV_bytes (n : Int) (m : Nat) : ∀ x ∈ putV n m, x < 256 := by
  unfold putV
  split
  · intro x hx
    simp only [List.mem_cons, List.not_mem_nil, or_false] at hx
    omega
  · intro x hx
    cases hx
theorem putV_len (n : Int) (m : Nat) : (putV n m).length ≤ 4 := by
  unfold putV
  split <;> simp
theorem getV_lt (b : List Nat) (hb : ∀ x ∈ b, x < 256) : (getV b).1.2 < 65536 := by
  unfold getV
  split
  · simp
  · split
    · rename_i h4 h
      obtain ⟨x0, x1, x2, x3, rfl⟩ := four h.1
      have b2 := hb x2 (by simp)
      have b3 := hb x3 (by simp)
      have e2 : ([x0, x1, x2, x3] : List Nat)[2]?.getD 0 = x2 := rfl
      have e3 : ([x0, x1, x2, x3] : List Nat)[3]?.getD 0 = x3 := rfl
      rw [e2, e3]
      simp only
      omega
    · simp
theorem getV_num (b : List Nat) (hb : ∀ x ∈ b, x < 256) : (getV b).2 ≤ 2 := by
  unfold getV
  split
  · simp
  · split <;> simp
theorem lawBytes_c (n : Int) (m : Nat) (b : List Nat) (hm : m < 65536) (hb : ∀ x ∈ b, x < 256) (hl : b.length ≤ maxLen) : ACall Tryd.prog 7 [.pagg (vwP (n, m)), .pv (.sl 1 (krows .u8 b))] [] (.pv (.bool true)) [] [] := by
  refine ACall.fn (fn := Tryd.f7) rfl okLaw06ViewsBytes rfl (by simp) ?_
  simp only [argT, irLaw06ViewsBytes.eq_1]
  by_cases hlen : 100 < b.length
  · have h1 : (100 : Int) < (b.length : Int) := by omega
    simp only [vwP]
    simp
    refine CallG.go wakes_c ?_
    simp [krows_length, hlen, h1]
  · have h1 : ¬ (100 : Int) < (b.length : Int) := by omega
    have c1 := vput_c n m hm
    have c2 := vget_c b hb (by omega)
    have c3 := refGetV_c b hb (by omega)
    have c4 := refPutV_c n m hm
    have hpl := putV_len n m
    have hpb := putV_bytes n m
    have c5 := same_c (putV n m) (putV n m) (by omega)
    have hgp := getV_put b hb
    have hgl := getV_lt b hb
    have hgn := getV_num b hb
    have c6 := vput_c (getV b).1.1 (getV b).1.2 hgl
    have c7 := same_c b b (by omega)
    have c8 := vget_c (putV n m) hpb (by omega)
    have c9 := refRightV_c n m hm
    have hof := getV_of n m hm
    simp only [decide_true] at c5 c7
    generalize getV b = y at *
    obtain ⟨⟨y1, y2⟩, e⟩ := y
    simp only at c2 c3 hgp hgl hgn c6
    obtain ⟨p, hp⟩ : ∃ p, p = putV n m := ⟨_, rfl⟩
    rw [← hp] at c1 c4 c5 c8 hpl hof
    have he2 : ((e : Int) == 0) = decide (e = 0) := by
      by_cases h : e = 0 <;> simp [h]
    by_cases he : e = 0
    · subst he
      rw [hgp rfl] at c6
      cases hr : rightV n m
      · rw [hr] at c9
        generalize getV p = z at *
        obtain ⟨⟨z1, z2⟩, g⟩ := z
        simp only [vwP] at c1 c2 c3 c4 c6 c8 c9 ⊢
        simp
        refine CallG.go wakes_c ?_
        simp [krows_length, hlen, h1]
        refine CallG.go c1 ?_
        simp [krows_length]
        refine ⟨by omega, ?_⟩
        refine CallG.go c2 ?_
        simp
        refine CallG.go c3 ?_
        simp
        refine CallG.go c4 ?_
        simp
        refine CallG.go c5 ?_
        simp [ckAll, ckOne, eqPVs, eqPV]
        refine CallG.go c6 ?_
        simp
        refine CallG.go c7 ?_
        simp
        refine CallG.go c8 ?_
        simp
        refine CallG.go c9 ?_
        simp [ckAll, ckOne, eqPVs, eqPV]
      · rw [hr] at c9
        rw [hof hr] at c8
        simp only [vwP] at c1 c2 c3 c4 c6 c8 c9 ⊢
        simp
        refine CallG.go wakes_c ?_
        simp [krows_length, hlen, h1]
        refine CallG.go c1 ?_
        simp [krows_length]
        refine ⟨by omega, ?_⟩
        refine CallG.go c2 ?_
        simp
        refine CallG.go c3 ?_
        simp
        refine CallG.go c4 ?_
        simp
        refine CallG.go c5 ?_
        simp [ckAll, ckOne, eqPVs, eqPV]
        refine CallG.go c6 ?_
        simp
        refine CallG.go c7 ?_
        simp
        refine CallG.go c8 ?_
        simp
        refine CallG.go c9 ?_
        simp [ckAll, ckOne, eqPVs, eqPV]
    · have he0 : ¬ (e : Int) = 0 := by omega
      cases hr : rightV n m
      · rw [hr] at c9
        generalize getV p = z at *
        obtain ⟨⟨z1, z2⟩, g⟩ := z
        simp only [vwP] at c1 c2 c3 c4 c6 c8 c9 ⊢
        simp
        refine CallG.go wakes_c ?_
        simp [krows_length, hlen, h1]
        refine CallG.go c1 ?_
        simp [krows_length]
        refine ⟨by omega, ?_⟩
        refine CallG.go c2 ?_
        simp
        refine CallG.go c3 ?_
        simp
        refine CallG.go c4 ?_
        simp
        refine CallG.go c5 ?_
        simp [ckAll, ckOne, eqPVs, eqPV, he, he0]
        refine CallG.go c8 ?_
        simp
        refine CallG.go c9 ?_
        simp [ckAll, ckOne, eqPVs, eqPV]
      · rw [hr] at c9
        rw [hof hr] at c8
        simp only [vwP] at c1 c2 c3 c4 c6 c8 c9 ⊢
        simp
        refine CallG.go wakes_c ?_
        simp [krows_length, hlen, h1]
        refine CallG.go c1 ?_
        simp [krows_length]
        refine ⟨by omega, ?_⟩
        refine CallG.go c2 ?_
        simp
        refine CallG.go c3 ?_
        simp
        refine CallG.go c4 ?_
        simp
        refine CallG.go c5 ?_
        simp [ckAll, ckOne, eqPVs, eqPV, he, he0]
        refine CallG.go c8 ?_
        simp
        refine CallG.go c9 ?_
        simp [ckAll, ckOne, eqPVs, eqPV]
theorem walkViewsBytes (c0 : Array Value) (a1 : Option Addr) (l1 n1 : Nat) (w : World) (hg : ∀ (j n : Nat), (Go.Abs.gtOf Tryd.prog)[j]? = some n → w.cell? ⟨0, j, none⟩ = some (.int .u8 (n : Int))) (k0 : Shp.Reads w shV c0.toList) (k1 : Shp.Reads w (.slice (.int .u8)) [.slice a1 l1 n1]) :
     Calls Tryd.prog 7 #[.agg c0, .slice a1 l1 n1] w fun e w' => e = .returned (.bool true) ∧ Below w.heap.size w w' := by
  obtain ⟨n, m, q0, hm⟩ := arg_view k0
  obtain ⟨b, q1, hl, hb⟩ := arg_sl8 k1
  refine lawCallsG (lawBytes_c n m b hm hb hl) rfl hg fun i v av hv ha => ?_
  match i with
  | 0 => cases hv; cases ha; exact q0
  | 1 => cases hv; cases ha; exact q1
  | n + 2 => simp at hv
end Go.Proofs.YtaekbkjckahccaaDoor
