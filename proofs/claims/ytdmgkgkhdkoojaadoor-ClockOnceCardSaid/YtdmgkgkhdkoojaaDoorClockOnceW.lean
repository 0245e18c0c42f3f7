/- The law ClockOnce. -/
import Derived.Test.YtdmgkgkhdkoojaaDoorClockDueW
set_option linter.unusedVariables false
set_option linter.unusedSimpArgs false
namespace Go.Proofs.YtdmgkgkhdkoojaaDoor
open Go.Abs Go.RowKit Go.Ours

/-- How many of the next turns hold. -/
def cnt (D : Nat → Bool) : Nat → Nat → Nat
  | _, 0 => 0
  | s, d + 1 => (if D s then 1 else 0) + cnt D (s + 1) d
theorem cnt_le (D : Nat → Bool) : ∀ d s, cnt D s d ≤ d
  | 0, _ => Nat.le_refl _
  | d + 1, s => by
    have := cnt_le D d (s + 1)
    rw [cnt]
    split <;> omega
theorem cnt_zero (D : Nat → Bool) : ∀ d s, (∀ j, s ≤ j → j < s + d → D j = false) → cnt D s d = 0
  | 0, _, _ => rfl
  | d + 1, s, h => by
    rw [cnt, h s (Nat.le_refl _) (by omega), cnt_zero D d (s + 1) fun j h1 h2 => h j (by omega) (by omega)]
    rfl
theorem cnt_one (D : Nat → Bool) (j : Nat) : ∀ d s, s ≤ j → j < s + d → (∀ k, s ≤ k → k < s + d → D k = decide (k = j)) → cnt D s d = 1
  | 0, s, h1, h2, _ => by omega
  | d + 1, s, h1, h2, h => by
    rw [cnt, h s (Nat.le_refl _) (by omega)]
    by_cases e : s = j
    · rw [cnt_zero D d (s + 1) fun k h3 h4 => by rw [h k (by omega) (by omega)]; simp; omega]
      simp [e]
    · rw [cnt_one D j d (s + 1) (by omega) (by omega) fun k h3 h4 => h k (by omega) (by omega)]
      simp [e]
theorem idxF_at {L : List Nat} (hs : L.Pairwise (· < ·)) {p x : Nat} (h : L[p]? = some x) : idxF L (x : Int) = some p := by
  obtain ⟨h1, h2⟩ := List.getElem?_eq_some_iff.1 h
  unfold idxF
  rw [List.findIdx?_eq_some_iff_getElem]
  refine ⟨h1, by simp [h2], fun j hj => ?_⟩
  simp
  intro e
  have : j = p := sorted_inj hs (x := x) (List.getElem?_eq_some_iff.2 ⟨by omega, by omega⟩) h
  omega
def dueN (n : Int) (m x f P : Nat) (s : Nat) : Bool := dueF n m (x : Int) ((1 + f + s : Nat) : Int) (P : Int)
theorem once_at (n : Int) (m x k f P : Nat) (hr : rightV n m = true) (h1 : 1 ≤ P) (h2 : P ≤ 60) (hk : (memF 16 0 m)[k]? = some x) (s : Nat) : dueN n m x f P s = decide ((1 + f + s) % P = k * P / pop m % P) := by
  have h := idxF_at (memF_sorted 16 0 m) hk
  unfold dueN dueF
  generalize memF 16 0 m = L at *
  rw [if_pos ⟨hr, by omega, by omega, by omega⟩, h]
  simp only [Int.toNat_natCast]
theorem once (n : Int) (m x k f P : Nat) (hr : rightV n m = true) (h1 : 1 ≤ P) (h2 : P ≤ 60) (hk : (memF 16 0 m)[k]? = some x) : cnt (dueN n m x f P) 0 P = 1 := by
  obtain ⟨t, ht⟩ : ∃ t, t = k * P / pop m % P := ⟨_, rfl⟩
  have htl : t < P := by rw [ht]; exact Nat.mod_lt _ (by omega)
  obtain ⟨j, hj, hjt⟩ := mod_onto (r := 1 + f) htl
  refine cnt_one _ j P 0 (Nat.zero_le _) (by omega) fun s _ hs => ?_
  rw [once_at n m x k f P hr h1 h2 hk s, ← ht]
  by_cases e : s = j
  · subst e
    simp [hjt]
  · have : (1 + f + s) % P ≠ t := by
      intro h
      rw [← hjt] at h
      rcases Nat.lt_or_gt_of_ne e with hl | hl
      · have := mod_step (x := 1 + f + s) (d := j - s) (s := P) (by omega) (by omega) (by omega)
        rw [show 1 + f + s + (j - s) = 1 + f + j by omega] at this
        exact this h.symm
      · have := mod_step (x := 1 + f + j) (d := s - j) (s := P) (by omega) (by omega) (by omega)
        rw [show 1 + f + j + (s - j) = 1 + f + s by omega] at this
        exact this h
    simp [e, this]
theorem onl2 (n : Int) (m : Nat) (i f P : Nat) (hm : m < 65536) (hf : f < 65536) (hP : P ≤ 60) (A2 A3 A4 : AV) : ∀ (d s c : Nat), s + d = P → c ≤ s → ∀ (Q : Exit → S → Prop),
   (∀ a b, Q (.exit 2) (mk [(1, .pv (.int .u16 (f : Nat))), (3, .ptr 3 0), (7, .pv (.int .i64 (P : Nat))), (9, .pv (.int .i64 (i : Nat))), (10, .pv (.int .i64 (c + cnt (dueN n m i f P) s d : Nat))), (29, A2), (30, A3), (31, A4), (35, a), (36, b), (37, .pv (.bool false))] [(3, .pagg (vwP (n, m)))])) →
   LoopW Tryd.prog [1, 3, 7, 9, 10, 29, 30, 31, 35, 36] [3] irLaw20ClockOnce_L2 (mk [(1, .pv (.int .u16 (f : Nat))), (3, .ptr 3 0), (7, .pv (.int .i64 (P : Nat))), (9, .pv (.int .i64 (i : Nat))), (10, .pv (.int .i64 (c : Nat))), (29, A2), (30, A3), (31, A4), (35, .pv (.int .i64 (P : Nat))), (36, .pv (.int .i64 (s : Nat)))] [(3, .pagg (vwP (n, m)))]) Q := by
  intro d
  induction d with
  | zero =>
    intro s c hd hc Q hQ
    have hk2 : s = P := by omega
    subst hk2
    refine LoopW.go irLaw20ClockOnce_L2.eq_1 (by simp) ?_
    simp
    exact hQ _ _
  | succ d ih =>
    intro s c hd hc Q hQ
    have i1 : (s : Int) < (P : Int) := by omega
    have i2 : s < P := by omega
    have w1 : IntKind.i64.wrap (f : Int) = f := by rw [wrap_i64] <;> omega
    have w2 : IntKind.i64.wrap (1 + (f : Int)) = (1 + f : Nat) := by rw [wrap_i64] <;> omega
    have w3 : IntKind.i64.wrap (((1 + f : Nat) : Int) + (s : Int)) = (1 + f + s : Nat) := by rw [wrap_i64] <;> omega
    have w4 : IntKind.i64.wrap ((s : Int) + 1) = (s + 1 : Nat) := by rw [wrap_i64] <;> omega
    have w5 : IntKind.i64.wrap ((c : Int) + 1) = (c + 1 : Nat) := by rw [wrap_i64] <;> omega
    have hc1 := due_c n m i ((1 + f + s : Nat) : Int) (P : Nat) hm (by omega)
    rw [cnt, dueN] at hQ
    generalize hD : dueF n m i ((1 + f + s : Nat) : Int) (P : Nat) = D at *
    generalize (1 + f + s : Nat) = y at *
    generalize (1 + f : Nat) = x at *
    simp only [vwP] at hc1 ih hQ ⊢
    cases D
    · have hn := ih (s + 1) c (by omega) (by omega) Q (by simpa using hQ)
      refine LoopW.go irLaw20ClockOnce_L2.eq_1 (by simp) ?_
      simp [i1, i2, w1, w2, w3]
      refine CallG.go hc1 ?_
      simp [w4]
      exact hn
    · have hn := ih (s + 1) (c + 1) (by omega) (by omega) Q (by simpa [Nat.add_assoc] using hQ)
      refine LoopW.go irLaw20ClockOnce_L2.eq_1 (by simp) ?_
      simp [i1, i2, w1, w2, w3]
      refine CallG.go hc1 ?_
      simp [w4, w5]
      exact hn
theorem onl1 (n : Int) (m : Nat) (f P : Nat) (hm : m < 65536) (hf : f < 65536) (hr : rightV n m = true) (h1 : 1 ≤ P) (hP : P ≤ 60) (L : List Nat) (hL : L = memF 16 0 m) (hL2 : L.length ≤ 7) : ∀ (d k : Nat), k + d = L.length → ∀ (Q : Exit → S → Prop),
   (∀ a b, Q (.exit 0) (mk [(1, .pv (.int .u16 (f : Nat))), (3, .ptr 3 0), (7, .pv (.int .i64 (P : Nat))), (29, .os 3 1 (krows .i64 L)), (30, a), (31, b), (32, .pv (.bool false))] [(3, .pagg (vwP (n, m)))])) →
   LoopW Tryd.prog [1, 3, 7, 29, 30, 31] [3] irLaw20ClockOnce_L1 (mk [(1, .pv (.int .u16 (f : Nat))), (3, .ptr 3 0), (7, .pv (.int .i64 (P : Nat))), (29, .os 3 1 (krows .i64 L)), (30, .pv (.int .i64 (L.length : Nat))), (31, .pv (.int .i64 (k : Nat)))] [(3, .pagg (vwP (n, m)))]) Q := by
  intro d
  induction d with
  | zero =>
    intro k hd Q hQ
    have hk2 : k = L.length := by omega
    subst hk2
    refine LoopW.go irLaw20ClockOnce_L1.eq_1 (by simp) ?_
    simp
    exact hQ _ _
  | succ d ih =>
    intro k hd Q hQ
    have hlt : k < L.length := by omega
    have i1 : (k : Int) < (L.length : Int) := by omega
    obtain ⟨x, hx⟩ : ∃ x, L[k]? = some x := ⟨L[k], List.getElem?_eq_getElem hlt⟩
    have hone := once n m x k f P hr h1 hP (hL ▸ hx)
    have w4 : IntKind.i64.wrap ((k : Int) + 1) = (k + 1 : Nat) := by rw [wrap_i64] <;> omega
    have hn := ih (k + 1) (by omega) Q hQ
    have hl2 := onl2 n m x f P hm hf hP (.os 3 1 (krows .i64 L)) (.pv (.int .i64 (L.length : Nat))) (.pv (.int .i64 (k : Nat))) P 0 0 (Nat.zero_add _) (Nat.le_refl _)
    rw [hone, Nat.zero_add] at hl2
    clear hone hL ih
    simp only [vwP] at hn hl2 ⊢
    refine LoopW.go irLaw20ClockOnce_L1.eq_1 (by simp) ?_
    simp [-getElem?_pos, i1, hlt, krows_length, krows_get, hx]
    refine hl2 _ fun a b => ?_
    simp [w4]
    exact hn
theorem lawOnce_c (n : Int) (m : Nat) (f q : Nat) (hm : m < 65536) (hf : f < 65536) (hq : q < 256) : ACall Tryd.prog 4 [.pagg (vwP (n, m)), .pv (.int .u16 (f : Nat)), .pv (.int .u8 (q : Nat))] [] (.pv (.bool true)) [] [] := by
  refine ACall.fn (fn := Tryd.f4) rfl okLaw20ClockOnce rfl (by simp) ?_
  simp only [argT, irLaw20ClockOnce.eq_1]
  obtain ⟨P, hP⟩ : ∃ P, P = 1 + q % 60 := ⟨_, rfl⟩
  have w1 : IntKind.i64.wrap (q : Int) = q := by rw [wrap_i64] <;> omega
  have w2 : (q : Int).tmod 60 = ((q % 60 : Nat) : Int) := rfl
  have w3 : IntKind.i64.wrap (1 + ((q % 60 : Nat) : Int)) = (P : Nat) := by rw [wrap_i64] <;> omega
  have w4 : IntKind.i64.wrap (f : Int) = f := by rw [wrap_i64] <;> omega
  have w5 : IntKind.i64.wrap (1 + (f : Int)) = (1 + f : Nat) := by rw [wrap_i64] <;> omega
  obtain ⟨y, hy⟩ : ∃ y, y = q % 60 := ⟨_, rfl⟩
  rw [← hy] at w2 w3
  have c1 := refRightV_c n m hm
  cases h : rightV n m
  · rw [h] at c1
    have c2 := due_c n m 0 ((1 + f : Nat) : Int) (P : Nat) hm (by omega)
    have e : dueF n m 0 ((1 + f : Nat) : Int) (P : Nat) = false := by unfold dueF; rw [h]; simp
    rw [e] at c2
    generalize (1 + f : Nat) = x at *
    simp only [vwP] at c1 c2 ⊢
    simp
    refine CallG.go wakes_c ?_
    simp [w1, w2, w3]
    refine CallG.go c1 ?_
    simp [w4, w5]
    refine CallG.go c2 ?_
    simp
  · rw [h] at c1
    have hp := right_pop h
    have c2 := members_c n m hm
    have hl : (memF 16 0 m).length = pop m := memF_len 16 0 m
    have hlp := onl1 n m f P hm hf h (by omega) (by omega) (memF 16 0 m) rfl (by omega) (memF 16 0 m).length 0 (Nat.zero_add _)
    generalize memF 16 0 m = L at *
    simp only [vwP] at c1 c2 hlp ⊢
    simp
    refine CallG.go wakes_c ?_
    simp [w1, w2, w3]
    refine CallG.go c1 ?_
    simp
    refine CallG.go c2 ?_
    simp [krows_length]
    refine hlp _ fun a b => ?_
    simp
theorem walkClockOnce (c0 : Array Value) (a1 : Int) (a2 : Int) (w : World) (hg : ∀ (j n : Nat), (Go.Abs.gtOf Tryd.prog)[j]? = some n → w.cell? ⟨0, j, none⟩ = some (.int .u8 (n : Int))) (k0 : Shp.Reads w shV c0.toList) (w1 : (Lit.int .u16 a1).wf = true) (w2 : (Lit.int .u8 a2).wf = true) :
     Calls Tryd.prog 4 #[.agg c0, .int .u16 a1, .int .u8 a2] w fun e w' => e = .returned (.bool true) ∧ Below w.heap.size w w' := by
  obtain ⟨n, m, q0, hm⟩ := arg_view k0
  obtain ⟨f, rfl, hf⟩ := wf_n rfl w1
  obtain ⟨q, rfl, hq⟩ := wf_n rfl w2
  refine lawCallsG (lawOnce_c n m f q hm hf hq) rfl hg fun i v av hv ha => ?_
  match i with
  | 0 => cases hv; cases ha; exact q0
  | 1 => cases hv; cases ha; exact arg_int _ _
  | 2 => cases hv; cases ha; exact arg_int _ _
  | n + 3 => simp at hv
end Go.Proofs.YtdmgkgkhdkoojaaDoor
