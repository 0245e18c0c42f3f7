/- The law ViewsShare. -/
import Derived.Test.YtaekbkjckahccaaDoorIrViewsS
import Derived.Test.YtaekbkjckahccaaDoorViewsC
import Derived.Test.YtaekbkjckahccaaDoorViewsNextW
set_option linter.unusedVariables false
set_option linter.unusedSimpArgs false
namespace Go.Proofs.YtaekbkjckahccaaDoor
open Go.Abs Go.RowKit Go.Ours

theorem popF_and_or : ∀ (n a b : Nat), popF n (a &&& b) + popF n (a ||| b) = popF n a + popF n b
  | 0, _, _ => rfl
  | n + 1, a, b => by
    have ih := popF_and_or n (a / 2) (b / 2)
    rw [popF, popF, popF, popF, Nat.and_div_two, Nat.or_div_two]
    have h1 : (a &&& b) % 2 = (a % 2) * (b % 2) := by
      have := Nat.and_mod_two_pow (a := a) (b := b) (n := 1)
      rw [Nat.pow_one] at this
      rw [this]
      rcases Nat.mod_two_eq_zero_or_one a with h | h <;> rcases Nat.mod_two_eq_zero_or_one b with h' | h' <;> rw [h, h'] <;> rfl
    have h2 : (a ||| b) % 2 + (a % 2) * (b % 2) = a % 2 + b % 2 := by
      have := Nat.or_mod_two_pow (a := a) (b := b) (n := 1)
      rw [Nat.pow_one] at this
      rw [this]
      rcases Nat.mod_two_eq_zero_or_one a with h | h <;> rcases Nat.mod_two_eq_zero_or_one b with h' | h' <;> rw [h, h'] <;> rfl
    omega
theorem popF_or_le : ∀ (n a b : Nat), popF n a ≤ popF n (a ||| b)
  | 0, _, _ => Nat.le_refl _
  | n + 1, a, b => by
    have ih := popF_or_le n (a / 2) (b / 2)
    rw [popF, popF, Nat.or_div_two]
    have h2 : a % 2 ≤ (a ||| b) % 2 := by
      have := Nat.or_mod_two_pow (a := a) (b := b) (n := 1)
      rw [Nat.pow_one] at this
      rw [this]
      rcases Nat.mod_two_eq_zero_or_one a with h | h <;> rcases Nat.mod_two_eq_zero_or_one b with h' | h' <;> rw [h, h'] <;> decide
    omega
theorem share (a b m : Nat) : pop (a &&& m) + pop (b &&& m) ≤ pop ((a &&& m) &&& (b &&& m)) + pop m := by
  have h1 := popF_and_or 16 (a &&& m) (b &&& m)
  have h2 := popF_or_le 16 ((a &&& m) ||| (b &&& m)) m
  have e : ((a &&& m) ||| (b &&& m)) ||| m = m := by
    apply Nat.eq_of_testBit_eq
    intro i
    simp only [Nat.testBit_or, Nat.testBit_and]
    cases a.testBit i <;> cases b.testBit i <;> cases m.testBit i <;> rfl
  rw [e] at h2
  unfold pop
  omega
theorem and16 (a m : Nat) (ha : a < 65536) (hm : m < 65536) : bits BinOp.and IntKind.u16 (a : Int) (m : Int) = ((a &&& m : Nat) : Int) ∧ (a &&& m) < 65536 := by
  have h : (a &&& m) < 65536 := Nat.and_lt_two_pow (n := 16) a (by omega)
  refine ⟨?_, h⟩
  rw [(bits_op .u16 a m ha hm).1]
  simp [IntKind.wrap, IntKind.bits, IntKind.signed]
  omega
theorem cnt_c (x : Nat) (hx : x < 65536) : ACall Tryd.prog 14 [.pv (.int .u16 (x : Nat))] [] (.pv (.int .i64 (pop x : Nat))) [] [] := by
  refine ACall.fn (fn := Tryd.f14) rfl okLaw06ViewsShare1 rfl (by simp) ?_
  simp only [argT, irLaw06ViewsShare1.eq_1]
  have c := members_c 0 x hx
  have hl : (memF 16 0 x).length = pop x := memF_len 16 0 x
  simp only [vwP] at c
  simp
  refine CallG.go c ?_
  simp [krows_length, hl]
theorem lawShare_c (n : Int) (m a b : Nat) (hm : m < 65536) (ha : a < 65536) (hb : b < 65536) : ACall Tryd.prog 4 [.pagg (vwP (n, m)), .pv (.int .u16 (a : Nat)), .pv (.int .u16 (b : Nat))] [] (.pv (.bool true)) [] [] := by
  refine ACall.fn (fn := Tryd.f4) rfl okLaw06ViewsShare rfl (by simp) ?_
  simp only [argT, irLaw06ViewsShare.eq_1]
  have c1 := rightV_c n m hm
  rcases sizeF_cases n m with ⟨_, hr⟩ | ⟨hr, hs, hc⟩
  · have c2 := refRightV_c n m hm
    rw [hr] at c1 c2
    simp only [vwP] at c1 c2 ⊢
    simp
    refine CallG.go wakes_c ?_
    simp
    refine CallG.go c1 ?_
    simp
    refine CallG.go c2 ?_
    simp
  · rw [hr] at c1
    have c2 := faults_c n m hm
    have c3 := quorum_c n m hm
    have c4 := enough_c n m hm
    have c5 := someV_c n m hm
    obtain ⟨ex, hx16⟩ := and16 a m ha hm
    obtain ⟨ey, hy16⟩ := and16 b m hb hm
    have hsh := share a b m
    generalize a &&& m = x at *
    generalize b &&& m = y at *
    obtain ⟨ez, hz16⟩ := and16 x y hx16 hy16
    generalize x &&& y = z at *
    have d1 := cnt_c x hx16
    have d2 := cnt_c y hy16
    have d3 := cnt_c z hz16
    have d4 := cnt_c m hm
    rw [← hs] at hsh d4
    obtain ⟨f, hf⟩ : ∃ f, f = faultsF (sizeF n m) := ⟨_, rfl⟩
    obtain ⟨q, hq⟩ : ∃ q, q = quorF (sizeF n m) := ⟨_, rfl⟩
    obtain ⟨e, he⟩ : ∃ e, e = sizeF n m - faultsF (sizeF n m) := ⟨_, rfl⟩
    obtain ⟨o, ho⟩ : ∃ o, o = someF (sizeF n m) := ⟨_, rfl⟩
    rw [← hf] at c2
    rw [← hq] at c3
    rw [← he] at c4
    rw [← ho] at c5
    generalize sizeF n m = s at *
    have facts : 2 * q ≥ s + f + 1 ∧ q + e ≥ s + f + 1 ∧ q ≤ e ∧ o = f + 1 ∧ 3 * f + 1 ≤ s ∧ f ≤ 2 := by
      rcases hc with rfl | rfl | rfl | rfl <;> simp [faultsF, quorF, someF] at hf hq he ho <;> omega
    clear hf hq he ho
    obtain ⟨k1, k2, k3, k4, k5, k6⟩ := facts
    generalize pop x = px at *
    generalize pop y = py at *
    generalize pop z = pz at *
    have w1 : IntKind.i64.wrap ((f : Int) + 1) = (o : Int) := by rw [wrap_i64] <;> omega
    obtain ⟨g, hg⟩ : ∃ g, g = 3 * f := ⟨_, rfl⟩
    obtain ⟨g1, hg1⟩ : ∃ g1, g1 = g + 1 := ⟨_, rfl⟩
    have w2 : IntKind.i64.wrap (3 * (f : Int)) = (g : Int) := by rw [wrap_i64] <;> omega
    have w3 : IntKind.i64.wrap ((g : Int) + 1) = (g1 : Int) := by rw [wrap_i64] <;> omega
    have i3 : (q : Int) ≤ (e : Int) := by omega
    have i4 : (g1 : Int) ≤ (s : Int) := by omega
    have i4' : g1 ≤ s := by omega
    simp only [vwP] at c1 c2 c3 c4 c5 ⊢
    by_cases hx : q ≤ px
    · have hx' : (q : Int) ≤ (px : Int) := by omega
      by_cases hy : q ≤ py
      · have hy' : (q : Int) ≤ (py : Int) := by omega
        have hz : ¬ pz ≤ f := by omega
        have hz' : ¬ (pz : Int) ≤ (f : Int) := by omega
        by_cases hv : e ≤ py
        · have hv' : (e : Int) ≤ (py : Int) := by omega
          simp
          refine CallG.go wakes_c ?_
          simp
          refine CallG.go c1 ?_
          simp [ex, ey]
          refine CallG.go c2 ?_
          simp
          refine CallG.go d1 ?_
          simp
          refine CallG.go c3 ?_
          simp [hx, hx']
          refine CallG.go d2 ?_
          simp
          refine CallG.go c3 ?_
          simp [hy, hy', ez]
          refine CallG.go d3 ?_
          simp [hz, hz']
          refine CallG.go d1 ?_
          simp
          refine CallG.go c3 ?_
          simp [hx, hx']
          refine CallG.go d2 ?_
          simp
          refine CallG.go c4 ?_
          simp [hv, hv', ez]
          refine CallG.go d3 ?_
          simp [hz, hz']
          refine CallG.go c4 ?_
          simp
          refine CallG.go c3 ?_
          simp [k3, i3]
          refine CallG.go c5 ?_
          simp [w1, w2, w3]
          refine CallG.go d4 ?_
          simp [i4, i4']
        · have hv' : ¬ (e : Int) ≤ (py : Int) := by omega
          simp
          refine CallG.go wakes_c ?_
          simp
          refine CallG.go c1 ?_
          simp [ex, ey]
          refine CallG.go c2 ?_
          simp
          refine CallG.go d1 ?_
          simp
          refine CallG.go c3 ?_
          simp [hx, hx']
          refine CallG.go d2 ?_
          simp
          refine CallG.go c3 ?_
          simp [hy, hy', ez]
          refine CallG.go d3 ?_
          simp [hz, hz']
          refine CallG.go d1 ?_
          simp
          refine CallG.go c3 ?_
          simp [hx, hx']
          refine CallG.go d2 ?_
          simp
          refine CallG.go c4 ?_
          simp [hv, hv']
          refine CallG.go c4 ?_
          simp
          refine CallG.go c3 ?_
          simp [k3, i3]
          refine CallG.go c5 ?_
          simp [w1, w2, w3]
          refine CallG.go d4 ?_
          simp [i4, i4']
      · have hy' : ¬ (q : Int) ≤ (py : Int) := by omega
        have hv : ¬ e ≤ py := by omega
        have hv' : ¬ (e : Int) ≤ (py : Int) := by omega
        simp
        refine CallG.go wakes_c ?_
        simp
        refine CallG.go c1 ?_
        simp [ex, ey]
        refine CallG.go c2 ?_
        simp
        refine CallG.go d1 ?_
        simp
        refine CallG.go c3 ?_
        simp [hx, hx']
        refine CallG.go d2 ?_
        simp
        refine CallG.go c3 ?_
        simp [hy, hy']
        refine CallG.go d1 ?_
        simp
        refine CallG.go c3 ?_
        simp [hx, hx']
        refine CallG.go d2 ?_
        simp
        refine CallG.go c4 ?_
        simp [hv, hv']
        refine CallG.go c4 ?_
        simp
        refine CallG.go c3 ?_
        simp [k3, i3]
        refine CallG.go c5 ?_
        simp [w1, w2, w3]
        refine CallG.go d4 ?_
        simp [i4, i4']
    · have hx' : ¬ (q : Int) ≤ (px : Int) := by omega
      simp
      refine CallG.go wakes_c ?_
      simp
      refine CallG.go c1 ?_
      simp [ex, ey]
      refine CallG.go c2 ?_
      simp
      refine CallG.go d1 ?_
      simp
      refine CallG.go c3 ?_
      simp [hx, hx']
      refine CallG.go d1 ?_
      simp
      refine CallG.go c3 ?_
      simp [hx, hx']
      refine CallG.go c4 ?_
      simp
      refine CallG.go c3 ?_
      simp [k3, i3]
      refine CallG.go c5 ?_
      simp [w1, w2, w3]
      refine CallG.go d4 ?_
      simp [i4, i4']
theorem walkViewsShare (c0 : Array Value) (a1 a2 : Int) (w : World) (hg : ∀ (j n : Nat), (Go.Abs.gtOf Tryd.prog)[j]? = some n → w.cell? ⟨0, j, none⟩ = some (.int .u8 (n : Int))) (k0 : Shp.Reads w shV c0.toList) (w1 : (Lit.int .u16 a1).wf = true) (w2 : (Lit.int .u16 a2).wf = true) :
     Calls Tryd.prog 4 #[.agg c0, .int .u16 a1, .int .u16 a2] w fun e w' => e = .returned (.bool true) ∧ Below w.heap.size w w' := by
  obtain ⟨n, m, q0, hm⟩ := arg_view k0
  obtain ⟨x, rfl, hx⟩ := wf_n rfl w1
  obtain ⟨y, rfl, hy⟩ := wf_n rfl w2
  refine lawCallsG (lawShare_c n m x y hm hx hy) rfl hg fun i v av hv ha => ?_
  match i with
  | 0 => cases hv; cases ha; exact q0
  | 1 => cases hv; cases ha; exact arg_int _ _
  | 2 => cases hv; cases ha; exact arg_int _ _
  | n + 3 => simp at hv
end Go.Proofs.YtaekbkjckahccaaDoor
