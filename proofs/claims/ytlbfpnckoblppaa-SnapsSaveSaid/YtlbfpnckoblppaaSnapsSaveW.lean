/- The law SnapsSave. No condition. -/
import Derived.Test.YtlbfpnckoblppaaSnapF
import Derived.Test.YtlbfpnckoblppaaSnapsTwoW
import Derived.Test.YtlbfpnckoblppaaIrSave
set_option linter.unusedVariables false
set_option linter.unusedSimpArgs false
namespace Go.Proofs.Ytlbfpnckoblppaa
open Go.Abs Go.RowKit Go.Ours

theorem lawSave_c (s : ByteArray) (a : List Nat) (room : Nat) (ha : ∀ x ∈ a, x < 256) (hr : room < 65536) : ACall Try.prog 5 [.pv (.str s), .pv (.sl 1 (krows .u8 a)), .pv (.int .u16 (room : Nat))] [] (.pv (.bool true)) [] [] := by
  refine ACall.fn (fn := Try.f5) rfl okLaw12SnapsSave rfl (by simp) ?_
  simp only [argT, irLaw12SnapsSave.eq_1]
  by_cases h1 : 3000 < a.length
  · have h1' : (3000 : Int) < (a.length : Int) := by omega
    simp
    refine CallG.go swakes_c ?_
    simp [krows_length, h1, h1']
  have h1' : ¬ (3000 : Int) < (a.length : Int) := by omega
  by_cases h2 : 30 < s.size
  · have h2' : (30 : Int) < (s.size : Int) := by omega
    simp
    refine CallG.go swakes_c ?_
    simp [krows_length, h1, h1', h2, h2']
  have h2' : ¬ (30 : Int) < (s.size : Int) := by omega
  have wr : IntKind.i64.wrap (room : Int) = (room : Int) := by rw [wrap_i64] <;> omega
  have c1 := new_d room (by omega)
  have la := toldF_len a (by omega)
  have lim : a.length ≤ 100000000000 := by omega
  by_cases hn : Named s
  · obtain ⟨hs, hz⟩ := hn
    have c2 := refNamedT_c s ⟨hs, hz⟩
    have c3 := refTold_c a (by omega) ha
    by_cases hf : (toldF a).length ≤ room
    · have d1 := save_c room [] (fcs []) [] s a (by simp) hs hz (by omega) ha (by simp [total]) (by omega) rfl (by simp [total]; omega)
      have e1 : fput s (toldF a) [] = [(s, toldF a)] := rfl
      have q1 : (s == s) = true := ba_refl _
      have hfi : ffind s [(s, toldF a)] = some (toldF a) := by simp [ffind, q1]
      rw [e1] at d1
      have d2 := load_c room [] (fcs [(s, toldF a)]) [(s, toldF a)] s a hs hz (by omega) ha hfi
      have d3 := read_d room [] (fcs [(s, toldF a)]) [(s, toldF a)] s (toldF a) (by omega) hfi
      have d4 := same_c a a (by omega)
      have d5 := same_c (toldF a) (toldF a) (by omega)
      rw [decide_eq_true rfl] at d4 d5
      have d6 := pending_d room [] (fcs [(s, toldF a)]) (fcs [(s, toldF a)])
      have hf' : ¬ (room : Int) < ((toldF a).length : Int) := by omega
      have hf2 : ¬ room < (toldF a).length := by omega
      have e0 : (([] : List (List PV)).length : Int) = 0 := rfl
      rw [e0] at d6
      simp only [dkA, mcF] at c1 d1 d2 d3 d6
      generalize fcs (fput (newN s) (toldF a) []) = g1 at *
      generalize fcs [(s, toldF a)] = f1 at *
      generalize fcs [] = f0 at *
      generalize toldF a = T at *
      simp
      refine CallG.go swakes_c ?_
      simp [krows_length, h1, h1', h2, h2', wr]
      refine CallG.go c1 ?_
      simp
      refine Alt.one ?_
      simp [krows_length, lim]
      refine CallG.go d1 ?_
      simp
      refine CallG.go d2 ?_
      simp
      refine CallG.go c2 ?_
      simp
      refine CallG.go c3 ?_
      simp [krows_length, wr, hf', hf2]
      refine CallG.go d3 ?_
      simp
      refine CallG.go d4 ?_
      simp
      refine CallG.go c3 ?_
      simp
      refine CallG.go d5 ?_
      simp
      refine CallG.go d6 ?_
      simp
    · have d1 := saveFull_c room [] (fcs []) [] s a hs hz (by omega) ha (by simp [total]) (by omega) rfl (by simp [total]; omega)
      have d2 := loadNone_c room [] (fcs []) [] s hs hz rfl
      have hf' : (room : Int) < ((toldF a).length : Int) := by omega
      have hf2 : room < (toldF a).length := by omega
      simp only [dkA, mcF] at c1 d1 d2
      generalize fcs [] = f0 at *
      generalize toldF a = T at *
      simp
      refine CallG.go swakes_c ?_
      simp [krows_length, h1, h1', h2, h2', wr]
      refine CallG.go c1 ?_
      simp
      refine Alt.two ?_
      simp [krows_length, lim]
      refine CallG.go d1 ?_
      simp
      refine CallG.go d2 ?_
      simp
      refine CallG.go c2 ?_
      simp
      refine CallG.go c3 ?_
      simp [krows_length, wr, hf', hf2]
  · have c2 := refNamedF_c s hn (by omega)
    have d1 := saveN_c s hn (by omega) a room [] (fcs []) (fcs [])
    have d2 := loadN_c s hn (by omega) room [] (fcs []) (fcs [])
    simp only [dkA, mcF] at c1 d1 d2
    generalize fcs [] = f0 at *
    simp
    refine CallG.go swakes_c ?_
    simp [krows_length, h1, h1', h2, h2', wr]
    refine CallG.go c1 ?_
    simp
    refine Alt.two ?_
    simp [krows_length, lim]
    refine CallG.go d1 ?_
    simp
    refine CallG.go d2 ?_
    simp
    refine CallG.go c2 ?_
    simp
theorem walkSnapsSave (a0 : ByteArray) (a1 : Option Addr) (l1 c1 : Nat) (a2 : Int) (w : World) (k1 : Shp.Reads w (.slice (.int .u8)) [.slice a1 l1 c1]) (w2 : (Lit.int .u16 a2).wf = true) :
     Calls Try.prog 5 #[.string a0, .slice a1 l1 c1, .int .u16 a2] w fun e w' => e = .returned (.bool true) ∧ Below w.heap.size w w' := by
  obtain ⟨t, q1, _, ht⟩ := arg_sl8 k1
  obtain ⟨r, rfl, hr⟩ := wf_n (k := .u16) rfl w2
  refine lawCalls (lawSave_c a0 t r ht hr) rfl fun i v av hv hav => ?_
  match i with
  | 0 => cases hv; cases hav; exact ArgR.pv (.str _)
  | 1 => cases hv; cases hav; exact q1
  | 2 => cases hv; cases hav; exact arg_int _ _
  | n + 3 => simp at hv
end Go.Proofs.Ytlbfpnckoblppaa
