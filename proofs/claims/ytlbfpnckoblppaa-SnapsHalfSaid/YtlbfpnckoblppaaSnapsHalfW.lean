/- The law SnapsHalf. No condition. -/
import Derived.Test.YtlbfpnckoblppaaSnapD
import Derived.Test.YtlbfpnckoblppaaSnapsTwoW
import Derived.Test.YtlbfpnckoblppaaIrHalf
set_option linter.unusedVariables false
set_option linter.unusedSimpArgs false
namespace Go.Proofs.Ytlbfpnckoblppaa
open Go.Abs Go.RowKit Go.Ours

abbrev nmS : ByteArray := strLaw12SnapsHalf_1
abbrev nmN : ByteArray := strLaw12SnapsHalf_2
theorem newN_S : newN nmS = nmN := rfl
theorem nm1 : (nmN == nmS) = false := by decide
theorem nm2 : (nmS == nmN) = false := by decide
theorem nm3 : (nmN.toList == nmS.toList) = false := by
  have := newN_ne nmS
  rwa [newN_S] at this
theorem sm_S : small nmS := small_of (by decide)
def hS (a b : List Nat) (p : List PV) (i : Nat) : S := mk [(0, .pv (.sl 1 (krows .u8 a))), (1, .pv (.sl 1 (krows .u8 b))), (5, .ptr 5 0), (21, .pv (.int .i64 (i : Nat)))] [(5, .pagg p)]
abbrev HW (a b : List Nat) (p : List PV) (i : Nat) (Q : Exit → S → Prop) : Prop := LoopW Try.prog [0, 1, 5, 21] [5] irLaw12SnapsHalf_L1 (hS a b p i) Q
theorem sv1 (a : List Nat) (ha : a.length ≤ 1000) (ha2 : ∀ x ∈ a, x < 256) : ACall Try.prog 15 [.ptr 1000 0, .pv (.str nmS), .pv (.sl 1 (krows .u8 a))] [dkA 65536 [], mcF [], mcF []] (.pv (.int .i64 0)) [.agg [.pv (.int .i64 65536), .mp 2000, .mp 2001, .os 61 4 [], .pv (.int .i64 (-1)), .pv (.bool false)], mcF [], mcF (fput nmN (toldF a) [])] [mcF [(nmS, toldF a)], mcF [(nmS, toldF a)]] := by
  have la := toldF_len a (by omega)
  have c := save_c 65536 [] (fcs []) [] nmS a (by simp) sm_S (by decide) (by omega) ha2 (by simp [total]) (by decide) rfl (by simp [total]; omega)
  exact c
theorem svg (b : List Nat) (hb : b.length ≤ 1000) (hb2 : ∀ x ∈ b, x < 256) (F : Fs) (hF : total F ≤ 10000) : ACall Try.prog 15 [.ptr 1000 0, .pv (.str nmS), .pv (.sl 1 (krows .u8 b))] [dkA 65536 [], mcF F, mcF F] (.pv (.int .i64 0)) [.agg [.pv (.int .i64 65536), .mp 2000, .mp 2001, .os 61 4 [], .pv (.int .i64 (-1)), .pv (.bool false)], mcF F, mcF (fput nmN (toldF b) F)] [mcF (fput nmS (toldF b) (fdel nmN (fput nmN (toldF b) F))), mcF (fput nmS (toldF b) (fdel nmN (fput nmN (toldF b) F)))] := by
  have la := toldF_len b (by omega)
  exact save_g 65536 [] (fcs F) F nmS b (by simp) sm_S (by decide) (by omega) hb2 (by omega) (by decide) (by omega)
theorem half0 (a b : List Nat) (ha : a.length ≤ 1000) (hb : b.length ≤ 1000) (ha2 : ∀ x ∈ a, x < 256) (hb2 : ∀ x ∈ b, x < 256) (keep torn cut : Int) (Q : Exit → S → Prop) (hn : HW a b (planP keep torn cut) 1 Q) : HW a b (planP keep torn cut) 0 Q := by
  have la := toldF_len a (by omega)
  have lb := toldF_len b (by omega)
  have q2 : (nmS == nmS) = true := ba_refl _
  have c1 : ACall Try.prog 9 [.pv (.int .i64 65536)] [] (.ptr 2000 0) [] [.agg [.pv (.int .i64 65536), .mp 2001, .mp 2002, .os 61 4 [], .pv (.int .i64 (-1)), .pv (.bool false)], mcF [], mcF []] := new_d 65536 (by decide)
  have c2 := sv1 a ha ha2
  have c3 := refTold_c b (by omega) hb2
  have hp : fput nmN (toldF b) [(nmS, toldF a)] = [(nmS, toldF a), (nmN, toldF b)] := by simp [fput, nm1]
  have c4 := write_g 65536 [] (fcs [(nmS, toldF a)]) [(nmS, toldF a)] nmN (toldF b) (by simp) (by decide) (by omega) (by simp [total]; omega) (by decide) (by simp [total, flen, ffind, nm1]; omega)
  rw [hp, List.nil_append] at c4
  obtain ⟨F', hF', c5⟩ := crash1_d 65536 [(nmS, toldF a)] (fcs [(nmS, toldF a), (nmN, toldF b)]) keep torn cut 2 (by simp) nmN .empty (toldF b) (fun v' => fput nmN v' [(nmS, toldF a)]) (fun v' h1 _ => filesPut_d _ nmN v' (by omega))
  have hfi : ffind nmS F' = some (toldF a) ∧ total F' ≤ 10000 := by
    rcases hF' with rfl | ⟨v', h1, _, rfl⟩
    · simp [ffind, q2, total]; omega
    · have e : fput nmN v' [(nmS, toldF a)] = [(nmS, toldF a), (nmN, v')] := by simp [fput, nm1]
      rw [e]
      simp [ffind, q2, total]; omega
  have c6 := load_c 65536 [] (fcs F') F' nmS a sm_S (by decide) (by omega) ha2 hfi.1
  have c7 := same_c a a (by omega)
  rw [decide_eq_true rfl] at c7
  have c8 := svg b hb hb2 F' hfi.2
  have lp : (planP keep torn cut).length = 3 := rfl
  have e2 : ((65536 : Nat) : Int) = 65536 := rfl
  simp only [dkA, mcF] at c1 c2 c4 c5 c6 c8
  rw [e2] at c2 c4 c5 c6 c8
  simp only [HW, hS] at hn ⊢
  generalize planP keep torn cut = p at *
  generalize actP 2 nmN .empty (toldF b) = A1 at *
  generalize toldF b = B at *
  generalize fcs (fput nmN B F') = g1 at *
  generalize fcs (fput nmS B (fdel nmN (fput nmN B F'))) = g2 at *
  generalize fcs (fput nmN (toldF a) []) = g3 at *
  generalize fcs F' = f' at *
  generalize fcs [(nmS, toldF a), (nmN, B)] = f2 at *
  generalize fcs [(nmS, toldF a)] = f1 at *
  generalize fcs [] = f0 at *
  refine LoopW.go irLaw12SnapsHalf_L1.eq_1 (by simp) ?_
  simp
  refine CallG.go c1 ?_
  simp
  refine CallG.go c2 ?_
  simp
  refine CallG.go c3 ?_
  simp
  refine CallG.go c4 ?_
  simp
  refine Alt.one ?_
  simp [lp]
  refine CallG.go c5 ?_
  simp
  refine CallG.go c6 ?_
  simp
  refine CallG.go c7 ?_
  simp
  refine CallG.go c8 ?_
  simp
  exact hn
theorem half1 (a b : List Nat) (ha : a.length ≤ 1000) (hb : b.length ≤ 1000) (ha2 : ∀ x ∈ a, x < 256) (hb2 : ∀ x ∈ b, x < 256) (keep torn cut : Int) (Q : Exit → S → Prop) (hn : HW a b (planP keep torn cut) 2 Q) : HW a b (planP keep torn cut) 1 Q := by
  have la := toldF_len a (by omega)
  have lb := toldF_len b (by omega)
  have q2 : (nmS == nmS) = true := ba_refl _
  have q3 : (nmN == nmN) = true := ba_refl _
  have c1 : ACall Try.prog 9 [.pv (.int .i64 65536)] [] (.ptr 2000 0) [] [.agg [.pv (.int .i64 65536), .mp 2001, .mp 2002, .os 61 4 [], .pv (.int .i64 (-1)), .pv (.bool false)], mcF [], mcF []] := new_d 65536 (by decide)
  have c2 := sv1 a ha ha2
  have c3 := refTold_c b (by omega) hb2
  have hp : fput nmN (toldF b) [(nmS, toldF a)] = [(nmS, toldF a), (nmN, toldF b)] := by simp [fput, nm1]
  have c4 := write_g 65536 [] (fcs [(nmS, toldF a)]) [(nmS, toldF a)] nmN (toldF b) (by simp) (by decide) (by omega) (by simp [total]; omega) (by decide) (by simp [total, flen, ffind, nm1]; omega)
  rw [hp, List.nil_append] at c4
  have d1 := sync_d 65536 [actP 2 nmN .empty (toldF b)] (fcs [(nmS, toldF a)]) (fcs [(nmS, toldF a), (nmN, toldF b)])
  have hfn : ffind nmN [(nmS, toldF a), (nmN, toldF b)] = some (toldF b) := by simp [ffind, nm1, q3]
  have hrn : fput nmS (toldF b) (fdel nmN [(nmS, toldF a), (nmN, toldF b)]) = [(nmS, toldF b)] := by simp [fdel, nm1, q3, fput, q2]
  have d2 := rename_d 65536 [] (fcs [(nmS, toldF a), (nmN, toldF b)]) [(nmS, toldF a), (nmN, toldF b)] nmN nmS (toldF b) (by simp) (by decide) (by decide) hfn nm3
  rw [hrn, List.nil_append] at d2
  obtain ⟨F', hF', c5⟩ := crash1_d 65536 [(nmS, toldF a), (nmN, toldF b)] (fcs [(nmS, toldF b)]) keep torn cut 3 (by simp) nmN nmS [] (fun _ => [(nmS, toldF b)]) (fun v' _ h3 => by
    rw [h3 rfl]
    have := filesRen_d [(nmS, toldF a), (nmN, toldF b)] nmN nmS (toldF b) hfn nm3
    rw [hrn] at this
    exact this)
  have hfi : (∃ t, (t = a ∨ t = b) ∧ ffind nmS F' = some (toldF t)) ∧ total F' ≤ 10000 := by
    rcases hF' with rfl | ⟨v', h1, _, rfl⟩
    · refine ⟨⟨a, Or.inl rfl, by simp [ffind, q2]⟩, ?_⟩
      simp [total]; omega
    · refine ⟨⟨b, Or.inr rfl, by simp [ffind, q2]⟩, ?_⟩
      simp [total]; omega
  obtain ⟨⟨t, ht, hft⟩, htot⟩ := hfi
  have htl : t.length ≤ 1000 ∧ ∀ x ∈ t, x < 256 := by
    rcases ht with rfl | rfl
    · exact ⟨ha, ha2⟩
    · exact ⟨hb, hb2⟩
  have c6 := load_c 65536 [] (fcs F') F' nmS t sm_S (by decide) (by omega) htl.2 hft
  have c7 := same_c t a (by omega)
  have c9 := same_c t b (by omega)
  have c8 := svg b hb hb2 F' htot
  have lp : (planP keep torn cut).length = 3 := rfl
  have e2 : ((65536 : Nat) : Int) = 65536 := rfl
  simp only [dkA, mcF] at c1 c2 c4 c5 c6 c8 d1 d2
  rw [e2] at c2 c4 c5 c6 c8 d1 d2
  simp only [HW, hS] at hn ⊢
  generalize planP keep torn cut = p at *
  generalize actP 2 nmN .empty (toldF b) = A1 at *
  generalize actP 3 nmN nmS [] = A2 at *
  generalize toldF b = B at *
  generalize fcs (fput nmN B F') = g1 at *
  generalize fcs (fput nmS B (fdel nmN (fput nmN B F'))) = g2 at *
  generalize fcs (fput nmN (toldF a) []) = g3 at *
  generalize fcs F' = f' at *
  generalize fcs [(nmS, toldF a), (nmN, B)] = f2 at *
  generalize fcs [(nmS, toldF a)] = f1 at *
  generalize fcs [(nmS, B)] = f3 at *
  generalize fcs [] = f0 at *
  refine LoopW.go irLaw12SnapsHalf_L1.eq_1 (by simp) ?_
  simp
  refine CallG.go c1 ?_
  simp
  refine CallG.go c2 ?_
  simp
  refine CallG.go c3 ?_
  simp
  refine CallG.go c4 ?_
  simp
  refine CallG.go d1 ?_
  simp
  refine CallG.go d2 ?_
  simp
  refine Alt.two (Alt.one ?_)
  simp [lp]
  refine CallG.go c5 ?_
  simp
  refine CallG.go c6 ?_
  simp
  refine CallG.go c7 ?_
  by_cases hta : t = a
  · rw [decide_eq_true hta]
    simp
    refine CallG.go c8 ?_
    simp
    exact hn
  · have htb : t = b := by
      rcases ht with h | h
      · exact absurd h hta
      · exact h
    rw [decide_eq_true htb] at c9
    rw [decide_eq_false hta]
    simp
    refine CallG.go c9 ?_
    simp
    refine CallG.go c8 ?_
    simp
    exact hn
theorem half2 (a b : List Nat) (ha : a.length ≤ 1000) (hb : b.length ≤ 1000) (ha2 : ∀ x ∈ a, x < 256) (hb2 : ∀ x ∈ b, x < 256) (keep torn cut : Int) (Q : Exit → S → Prop) (hn : HW a b (planP keep torn cut) 3 Q) : HW a b (planP keep torn cut) 2 Q := by
  have la := toldF_len a (by omega)
  have lb := toldF_len b (by omega)
  have q2 : (nmS == nmS) = true := ba_refl _
  have q3 : (nmN == nmN) = true := ba_refl _
  have c1 : ACall Try.prog 9 [.pv (.int .i64 65536)] [] (.ptr 2000 0) [] [.agg [.pv (.int .i64 65536), .mp 2001, .mp 2002, .os 61 4 [], .pv (.int .i64 (-1)), .pv (.bool false)], mcF [], mcF []] := new_d 65536 (by decide)
  have c2 := sv1 a ha ha2
  have c3 := refTold_c b (by omega) hb2
  have hp : fput nmN (toldF b) [(nmS, toldF a)] = [(nmS, toldF a), (nmN, toldF b)] := by simp [fput, nm1]
  have c4 := write_g 65536 [] (fcs [(nmS, toldF a)]) [(nmS, toldF a)] nmN (toldF b) (by simp) (by decide) (by omega) (by simp [total]; omega) (by decide) (by simp [total, flen, ffind, nm1]; omega)
  rw [hp, List.nil_append] at c4
  have d1 := sync_d 65536 [actP 2 nmN .empty (toldF b)] (fcs [(nmS, toldF a)]) (fcs [(nmS, toldF a), (nmN, toldF b)])
  have hfn : ffind nmN [(nmS, toldF a), (nmN, toldF b)] = some (toldF b) := by simp [ffind, nm1, q3]
  have hrn : fput nmS (toldF b) (fdel nmN [(nmS, toldF a), (nmN, toldF b)]) = [(nmS, toldF b)] := by simp [fdel, nm1, q3, fput, q2]
  have d2 := rename_d 65536 [] (fcs [(nmS, toldF a), (nmN, toldF b)]) [(nmS, toldF a), (nmN, toldF b)] nmN nmS (toldF b) (by simp) (by decide) (by decide) hfn nm3
  rw [hrn, List.nil_append] at d2
  have d3 := sync_d 65536 [actP 3 nmN nmS []] (fcs [(nmS, toldF a), (nmN, toldF b)]) (fcs [(nmS, toldF b)])
  have c5 := crash0_d 65536 [(nmS, toldF b)] (fcs [(nmS, toldF b)]) keep torn cut
  have c6 := load_c 65536 [] (fcs [(nmS, toldF b)]) [(nmS, toldF b)] nmS b sm_S (by decide) (by omega) hb2 (by simp [ffind, q2])
  have c7 := same_c b a (by omega)
  have c9 := same_c b b (by omega)
  rw [decide_eq_true rfl] at c9
  have c8 := svg b hb hb2 [(nmS, toldF b)] (by simp [total]; omega)
  have lp : (planP keep torn cut).length = 3 := rfl
  have e2 : ((65536 : Nat) : Int) = 65536 := rfl
  simp only [dkA, mcF] at c1 c2 c4 c5 c6 c8 d1 d2 d3
  rw [e2] at c2 c4 c5 c6 c8 d1 d2 d3
  simp only [HW, hS] at hn ⊢
  generalize planP keep torn cut = p at *
  generalize actP 2 nmN .empty (toldF b) = A1 at *
  generalize actP 3 nmN nmS [] = A2 at *
  generalize toldF b = B at *
  generalize fcs (fput nmN B [(nmS, B)]) = g1 at *
  generalize fcs (fput nmS B (fdel nmN (fput nmN B [(nmS, B)]))) = g2 at *
  generalize fcs (fput nmN (toldF a) []) = g3 at *
  generalize fcs [(nmS, toldF a), (nmN, B)] = f2 at *
  generalize fcs [(nmS, toldF a)] = f1 at *
  generalize fcs [(nmS, B)] = f3 at *
  generalize fcs [] = f0 at *
  refine LoopW.go irLaw12SnapsHalf_L1.eq_1 (by simp) ?_
  simp
  refine CallG.go c1 ?_
  simp
  refine CallG.go c2 ?_
  simp
  refine CallG.go c3 ?_
  simp
  refine CallG.go c4 ?_
  simp
  refine CallG.go d1 ?_
  simp
  refine CallG.go d2 ?_
  simp
  refine CallG.go d3 ?_
  simp
  refine Alt.two (Alt.two ?_)
  simp [lp]
  refine CallG.go c5 ?_
  simp
  refine CallG.go c6 ?_
  simp
  refine CallG.go c7 ?_
  cases decide (b = a)
  · simp
    refine CallG.go c9 ?_
    simp
    refine CallG.go c9 ?_
    simp
    refine CallG.go c8 ?_
    simp
    exact hn
  · simp
    refine CallG.go c9 ?_
    simp
    refine CallG.go c8 ?_
    simp
    exact hn
theorem lawHalf_c (a b : List Nat) (keep torn cut : Int) (ha2 : ∀ x ∈ a, x < 256) (hb2 : ∀ x ∈ b, x < 256) : ACall Try.prog 6 [.pv (.sl 1 (krows .u8 a)), .pv (.sl 1 (krows .u8 b)), .pagg (planP keep torn cut)] [] (.pv (.bool true)) [] [] := by
  refine ACall.fn (fn := Try.f6) rfl okLaw12SnapsHalf rfl (by simp) ?_
  simp only [argT, irLaw12SnapsHalf.eq_1]
  by_cases h1 : 1000 < a.length
  · have h1' : (1000 : Int) < (a.length : Int) := by omega
    generalize planP keep torn cut = p at *
    simp
    refine CallG.go swakes_c ?_
    simp [krows_length, h1, h1']
  have h1' : ¬ (1000 : Int) < (a.length : Int) := by omega
  by_cases h2 : 1000 < b.length
  · have h2' : (1000 : Int) < (b.length : Int) := by omega
    generalize planP keep torn cut = p at *
    simp
    refine CallG.go swakes_c ?_
    simp [krows_length, h1, h1', h2, h2']
  have h2' : ¬ (1000 : Int) < (b.length : Int) := by omega
  have lp0 := fun Q => half0 a b (by omega) (by omega) ha2 hb2 keep torn cut Q
  have lp1 := fun Q => half1 a b (by omega) (by omega) ha2 hb2 keep torn cut Q
  have lp2 := fun Q => half2 a b (by omega) (by omega) ha2 hb2 keep torn cut Q
  generalize planP keep torn cut = p at *
  simp
  refine CallG.go swakes_c ?_
  simp [krows_length, h1, h1', h2, h2']
  refine lp0 _ (lp1 _ (lp2 _ ?_))
  simp only [HW, hS]
  refine LoopW.go irLaw12SnapsHalf_L1.eq_1 (by simp) ?_
  simp
theorem ok_pair {a b : Shp} {ps : List PV} (h : OKs (.pair a b) ps) : ∃ p q, ps = p ++ q ∧ OKs a p ∧ OKs b q := ⟨_, _, (List.take_append_drop _ _).symm, h.1, h.2⟩
theorem ok_int {k : IntKind} {ps : List PV} (h : OKs (.int k) ps) : ∃ n, ps = [.int k n] := by
  obtain ⟨n, h, _⟩ := h
  exact ⟨n, h⟩
theorem ok_unit {ps : List PV} (h : OKs .unit ps) : ps = [] := h
def shPlan : Shp := .pair (.int .u64) (.pair (.int .i64) (.pair (.int .i64) .unit))
theorem arg_plan {w : World} {c : Array Value} (h : Shp.Reads w shPlan c.toList) : ∃ keep torn cut : Int, ArgR w (.agg c) (.pagg (planP keep torn cut)) := by
  obtain ⟨ps, h1, h2, h3⟩ := pvs_of_reads rfl h
  obtain ⟨p, q, rfl, g1, g⟩ := ok_pair h2
  obtain ⟨q, r, rfl, g2, g⟩ := ok_pair g
  obtain ⟨r, t, rfl, g3, g4⟩ := ok_pair g
  obtain ⟨a, rfl⟩ := ok_int g1
  obtain ⟨b, rfl⟩ := ok_int g2
  obtain ⟨c', rfl⟩ := ok_int g3
  rw [ok_unit g4] at h1
  refine ⟨a, b, c', ArgR.agg ?_⟩
  simpa [planP, Shp.size] using h1
theorem walkSnapsHalf (a0 : Option Addr) (l0 c0 : Nat) (a1 : Option Addr) (l1 c1 : Nat) (c2 : Array Value) (w : World) (k0 : Shp.Reads w (.slice (.int .u8)) [.slice a0 l0 c0]) (k1 : Shp.Reads w (.slice (.int .u8)) [.slice a1 l1 c1]) (k2 : Shp.Reads w shPlan c2.toList) :
     Calls Try.prog 6 #[.slice a0 l0 c0, .slice a1 l1 c1, .agg c2] w fun e w' => e = .returned (.bool true) ∧ Below w.heap.size w w' := by
  obtain ⟨a, q0, _, ha⟩ := arg_sl8 k0
  obtain ⟨b, q1, _, hb⟩ := arg_sl8 k1
  obtain ⟨keep, torn, cut, q2⟩ := arg_plan k2
  refine lawCalls (lawHalf_c a b keep torn cut ha hb) rfl fun i v av hv hav => ?_
  match i with
  | 0 => cases hv; cases hav; exact q0
  | 1 => cases hv; cases hav; exact q1
  | 2 => cases hv; cases hav; exact q2
  | n + 3 => simp at hv
end Go.Proofs.Ytlbfpnckoblppaa
