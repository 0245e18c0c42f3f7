/- The law SnapsTwo. No condition. -/
import Derived.Test.YtlbfpnckoblppaaSnapB
import Derived.Test.YtlbfpnckoblppaaIrTwo
set_option linter.unusedVariables false
set_option linter.unusedSimpArgs false
namespace Go.Proofs.Ytlbfpnckoblppaa
open Go.Abs Go.RowKit Go.Ours

theorem small_of {s : ByteArray} (h : (s.data.toList.all fun b => decide (97 ≤ b.toNat) && decide (b.toNat ≤ 122)) = true) : small s := by
  intro i hi
  rw [List.all_eq_true] at h
  have hm : s.data[i]'hi ∈ s.data.toList := Array.mem_toList_iff.2 (Array.getElem_mem hi)
  have := h _ hm
  simp only [Bool.and_eq_true, decide_eq_true_eq] at this
  exact this
theorem told_nil : (toldF []).length = 9 ∧ (toldF [])[0]? = some 0 := by
  have e : txt [] = [0] := by rw [txt, List.length_nil, packed_small (by decide)]; rfl
  have hl := shaF_len [0]
  constructor
  · rw [toldF, e, List.length_append, List.length_take, hl]; rfl
  · rw [toldF, e]; rfl
theorem swakes_c : ACall Try.prog 8 [] [] (.pv (.bool true)) [] [] := by
  refine ACall.fn (fn := Try.f8) rfl okLaw12Wakes rfl (by simp) ?_
  simp only [argT, irLaw12Wakes.eq_1]
  have hs : small strLaw12Wakes_1 := small_of (by decide)
  have hz : strLaw12Wakes_1.size = 1 := rfl
  obtain ⟨hl, h0⟩ := told_nil
  have c1 := new_d 100 (by decide)
  have c2 := save_c 100 [] (fcs []) [] strLaw12Wakes_1 [] (by simp) hs (by omega) (by simp) (by simp) (by simp [total]) (by decide) rfl (by rw [hl]; simp [total])
  have c3 := read_d 100 [] (fcs (fput strLaw12Wakes_1 (toldF []) [])) (fput strLaw12Wakes_1 (toldF []) []) strLaw12Wakes_1 (toldF []) (by omega) (find_put _ _ _)
  simp only [dkA, mcF] at c1 c2 c3
  have e1 : krows .u8 [] = [] := rfl
  have e2 : ((100 : Nat) : Int) = 100 := rfl
  rw [e2] at c1 c2 c3
  rw [e1] at c2
  generalize fcs (fput strLaw12Wakes_1 (toldF []) []) = f1 at *
  generalize fcs (fput (newN strLaw12Wakes_1) (toldF []) []) = f2 at *
  generalize fcs [] = f0 at *
  generalize toldF [] = T at *
  simp
  refine CallG.go c1 ?_
  simp
  refine CallG.go c2 ?_
  simp
  refine CallG.go c3 ?_
  simp [-getElem?_pos, krows_length, krows_get, hl, h0]
theorem lawTwo_c (a b : List Nat) (turn : Bool) (ha : ∀ x ∈ a, x < 256) (hb : ∀ x ∈ b, x < 256) : ACall Try.prog 4 [.pv (.sl 1 (krows .u8 a)), .pv (.sl 1 (krows .u8 b)), .pv (.bool turn)] [] (.pv (.bool true)) [] [] := by
  refine ACall.fn (fn := Try.f4) rfl okLaw12SnapsTwo rfl (by simp) ?_
  simp only [argT, irLaw12SnapsTwo.eq_1]
  by_cases h1 : 3000 < a.length
  · have h1' : (3000 : Int) < (a.length : Int) := by omega
    simp
    refine CallG.go swakes_c ?_
    simp [krows_length, h1, h1']
  have h1' : ¬ (3000 : Int) < (a.length : Int) := by omega
  by_cases h2 : 3000 < b.length
  · have h2' : (3000 : Int) < (b.length : Int) := by omega
    simp
    refine CallG.go swakes_c ?_
    simp [krows_length, h1, h1', h2, h2']
  have h2' : ¬ (3000 : Int) < (b.length : Int) := by omega
  have so : small strLaw12SnapsTwo_1 := small_of (by decide)
  have st : small strLaw12SnapsTwo_2 := small_of (by decide)
  have zo : strLaw12SnapsTwo_1.size = 3 := rfl
  have zt : strLaw12SnapsTwo_2.size = 3 := rfl
  have la := toldF_len a (by omega)
  have lb := toldF_len b (by omega)
  have q1 : (strLaw12SnapsTwo_2 == strLaw12SnapsTwo_1) = false := by decide
  have q2 : (strLaw12SnapsTwo_1 == strLaw12SnapsTwo_1) = true := ba_refl _
  have q2' : (strLaw12SnapsTwo_2 == strLaw12SnapsTwo_2) = true := ba_refl _
  have q3 : (newN strLaw12SnapsTwo_2 == strLaw12SnapsTwo_1) = false := by rfl
  have q4 : (newN strLaw12SnapsTwo_1 == strLaw12SnapsTwo_1) = false := by rfl
  have q5 : (newN strLaw12SnapsTwo_1 == strLaw12SnapsTwo_2) = false := by rfl
  have f1 : fput strLaw12SnapsTwo_1 (toldF a) [] = [(strLaw12SnapsTwo_1, toldF a)] := rfl
  have f2 : fput strLaw12SnapsTwo_2 (toldF b) [(strLaw12SnapsTwo_1, toldF a)] = [(strLaw12SnapsTwo_1, toldF a), (strLaw12SnapsTwo_2, toldF b)] := by simp [fput, q1]
  have f3 : fput strLaw12SnapsTwo_1 (toldF b) [(strLaw12SnapsTwo_1, toldF a), (strLaw12SnapsTwo_2, toldF b)] = [(strLaw12SnapsTwo_1, toldF b), (strLaw12SnapsTwo_2, toldF b)] := by simp [fput, q2]
  have c1 := new_d 65536 (by decide)
  have c2 := save_c 65536 [] (fcs []) [] strLaw12SnapsTwo_1 a (by simp) so (by omega) (by omega) ha (by simp [total]) (by decide) rfl (by simp [total]; omega)
  rw [f1] at c2
  have c3 := save_c 65536 [] (fcs [(strLaw12SnapsTwo_1, toldF a)]) [(strLaw12SnapsTwo_1, toldF a)] strLaw12SnapsTwo_2 b (by simp) st (by omega) (by omega) hb (by simp [total]; omega) (by decide) (by simp [ffind, q3]) (by simp [total]; omega)
  rw [f2] at c3
  have c4 := save_c 65536 [] (fcs [(strLaw12SnapsTwo_1, toldF a), (strLaw12SnapsTwo_2, toldF b)]) [(strLaw12SnapsTwo_1, toldF a), (strLaw12SnapsTwo_2, toldF b)] strLaw12SnapsTwo_1 b (by simp) so (by omega) (by omega) hb (by simp [total]; omega) (by decide) (by simp [ffind, q4, q5]) (by simp [total]; omega)
  rw [f3] at c4
  have d1 := load_c 65536 [] (fcs [(strLaw12SnapsTwo_1, toldF a), (strLaw12SnapsTwo_2, toldF b)]) [(strLaw12SnapsTwo_1, toldF a), (strLaw12SnapsTwo_2, toldF b)] strLaw12SnapsTwo_1 a so (by omega) (by omega) ha (by simp [ffind, q2])
  have d2 := load_c 65536 [] (fcs [(strLaw12SnapsTwo_1, toldF a), (strLaw12SnapsTwo_2, toldF b)]) [(strLaw12SnapsTwo_1, toldF a), (strLaw12SnapsTwo_2, toldF b)] strLaw12SnapsTwo_2 b st (by omega) (by omega) hb (by simp [ffind, q1, q2'])
  have d3 := load_c 65536 [] (fcs [(strLaw12SnapsTwo_1, toldF b), (strLaw12SnapsTwo_2, toldF b)]) [(strLaw12SnapsTwo_1, toldF b), (strLaw12SnapsTwo_2, toldF b)] strLaw12SnapsTwo_1 b so (by omega) (by omega) hb (by simp [ffind, q2])
  have d4 := load_c 65536 [] (fcs [(strLaw12SnapsTwo_1, toldF b), (strLaw12SnapsTwo_2, toldF b)]) [(strLaw12SnapsTwo_1, toldF b), (strLaw12SnapsTwo_2, toldF b)] strLaw12SnapsTwo_2 b st (by omega) (by omega) hb (by simp [ffind, q1, q2'])
  have sa := same_c a a (by omega)
  have sb := same_c b b (by omega)
  rw [decide_eq_true rfl] at sa sb
  simp only [dkA, mcF] at c1 c2 c3 c4 d1 d2 d3 d4
  have e2 : ((65536 : Nat) : Int) = 65536 := rfl
  rw [e2] at c1 c2 c3 c4 d1 d2 d3 d4
  generalize fcs (fput (newN strLaw12SnapsTwo_1) (toldF a) []) = g1 at *
  generalize fcs (fput (newN strLaw12SnapsTwo_2) (toldF b) [(strLaw12SnapsTwo_1, toldF a)]) = g2 at *
  generalize fcs (fput (newN strLaw12SnapsTwo_1) (toldF b) [(strLaw12SnapsTwo_1, toldF a), (strLaw12SnapsTwo_2, toldF b)]) = g3 at *
  generalize fcs [(strLaw12SnapsTwo_1, toldF a), (strLaw12SnapsTwo_2, toldF b)] = F2 at *
  generalize fcs [(strLaw12SnapsTwo_1, toldF b), (strLaw12SnapsTwo_2, toldF b)] = F3 at *
  generalize fcs [(strLaw12SnapsTwo_1, toldF a)] = F1 at *
  generalize fcs [] = F0 at *
  cases turn
  · simp
    refine CallG.go swakes_c ?_
    simp [krows_length, h1, h1', h2, h2']
    refine CallG.go c1 ?_
    simp
    refine CallG.go c2 ?_
    simp
    refine CallG.go c3 ?_
    simp
    refine Alt.two ?_
    simp
    refine CallG.go d1 ?_
    simp
    refine CallG.go d2 ?_
    simp
    refine CallG.go sa ?_
    simp
    refine CallG.go sb ?_
    simp
  · simp
    refine CallG.go swakes_c ?_
    simp [krows_length, h1, h1', h2, h2']
    refine CallG.go c1 ?_
    simp
    refine CallG.go c2 ?_
    simp
    refine CallG.go c3 ?_
    simp
    refine CallG.go c4 ?_
    simp
    refine Alt.one ?_
    simp
    refine CallG.go d3 ?_
    simp
    refine CallG.go d4 ?_
    simp
    refine CallG.go sb ?_
    simp
    refine CallG.go sb ?_
    simp
theorem walkSnapsTwo (a0 : Option Addr) (l0 c0 : Nat) (a1 : Option Addr) (l1 c1 : Nat) (a2 : Bool) (w : World) (k0 : Shp.Reads w (.slice (.int .u8)) [.slice a0 l0 c0]) (k1 : Shp.Reads w (.slice (.int .u8)) [.slice a1 l1 c1]) :
     Calls Try.prog 4 #[.slice a0 l0 c0, .slice a1 l1 c1, .bool a2] w fun e w' => e = .returned (.bool true) ∧ Below w.heap.size w w' := by
  obtain ⟨a, q0, _, ha⟩ := arg_sl8 k0
  obtain ⟨b, q1, _, hb⟩ := arg_sl8 k1
  refine lawCalls (lawTwo_c a b a2 ha hb) rfl fun i v av hv hav => ?_
  match i with
  | 0 => cases hv; cases hav; exact q0
  | 1 => cases hv; cases hav; exact q1
  | 2 => cases hv; cases hav; exact ArgR.pv (.bool _)
  | n + 3 => simp at hv
end Go.Proofs.Ytlbfpnckoblppaa
