/- The law SnapsLoad. No condition. -/
import Derived.Test.YtlbfpnckoblppaaSnapGK
import Derived.Test.YtlbfpnckoblppaaSnapsTwoW
set_option linter.unusedVariables false
set_option linter.unusedSimpArgs false
namespace Go.Proofs.Ytlbfpnckoblppaa
open Go.Abs Go.RowKit Go.Ours

/-- What the program and the document make of a file of whatever bytes, there. -/
theorem both (s : ByteArray) (a : List Nat) (hs : small s) (hz : 1 ≤ s.size ∧ s.size ≤ 16) (hl : a.length ≤ 3000) (ha : ∀ x ∈ a, x < 256) (room : Nat) (rows : List (List PV)) (e1 : List (List PV × PV)) :
    (ACall Try.prog 11 [.ptr 1000 0, .pv (.str s)] [dkA room rows, .mc false [.s] e1, mcF [(s, a)]] (.tup [.os 5 1 [], .pv (.int .i64 2)]) [dkA room rows, .mc false [.s] e1, mcF [(s, a)]] [] ∧
     ACall Try.prog 13 [.pv (.sl 1 (krows .u8 a))] [] (.tup [.os 5 1 [], .pv (.int .i64 2)]) [] []) ∨
    ∃ t : List Nat, t.length ≤ 3000 ∧
     ACall Try.prog 11 [.ptr 1000 0, .pv (.str s)] [dkA room rows, .mc false [.s] e1, mcF [(s, a)]] (.tup [.pv (.sl 1 (krows .u8 t)), .pv (.int .i64 0)]) [dkA room rows, .mc false [.s] e1, mcF [(s, a)]] [] ∧
     ACall Try.prog 13 [.pv (.sl 1 (krows .u8 a))] [] (.tup [.pv (.sl 1 (krows .u8 t)), .pv (.int .i64 0)]) [] [] := by
  have q1 : (s == s) = true := ba_refl _
  have hfi : ffind s [(s, a)] = some a := by simp [ffind, q1]
  rcases fileCases a ha with ⟨t, rfl⟩ | ⟨e, hp⟩ | ⟨y, r, hy, hy2, hd⟩ | ⟨y, r, hy, hd, hr⟩ | ⟨t, r, ht, hd, hne⟩
  · have hlt : t.length ≤ (toldF t).length := by rw [toldF, txt, List.length_append, List.length_append]; omega
    have hb : ∀ x ∈ t, x < 256 := fun x hx => ha x (by rw [toldF, txt]; simp [hx])
    exact Or.inr ⟨t, by omega, load_c room rows e1 _ s t hs hz (by omega) hb hfi, rRead_c t (by omega) hb⟩
  · have he : e ≠ 0 := by rcases hp.e12 with h | h <;> omega
    exact Or.inl ⟨loadE_c room rows e1 _ s a e hs hz hl hfi he (textE_c a e 65536 (by omega) hp), rReadE_c a e he (rTextE_c a e (by omega) hp)⟩
  · exact Or.inl ⟨loadE_c room rows e1 _ s a 3 hs hz hl hfi (by decide) (textM_c a r y 65536 (by omega) (by decide) hy hy2 hd), rReadE_c a 3 (by decide) (rTextM_c a r y (by omega) hy hy2 hd)⟩
  · exact Or.inl ⟨loadE_c room rows e1 _ s a 1 hs hz hl hfi (by decide) (textL_c a r y 65536 (by omega) (by decide) hy hd hr), rReadE_c a 1 (by decide) (rTextL_c a r y (by omega) hy hd hr)⟩
  · exact Or.inl ⟨loadW_c room rows e1 _ s a t r hs hz hl hfi ha ht hd hne, rReadW_c a t r hl ha ht hd hne⟩
theorem lawLoad_c (s : ByteArray) (a : List Nat) (th : Bool) (ha : ∀ x ∈ a, x < 256) : ACall Try.prog 3 [.pv (.str s), .pv (.sl 1 (krows .u8 a)), .pv (.bool th)] [] (.pv (.bool true)) [] [] := by
  refine ACall.fn (fn := Try.f3) rfl okLaw12SnapsLoad rfl (by simp) ?_
  simp only [argT, irLaw12SnapsLoad.eq_1]
  by_cases h1 : 3000 < a.length
  · have h1' : (3000 : Int) < (a.length : Int) := by omega
    simp
    refine CallG.go swakes_c ?_
    simp [krows_length, h1, h1']
  have h1' : ¬ (3000 : Int) < (a.length : Int) := by omega
  by_cases h2 : 30 < s.size
  · have h2' : (30 : Int) < (s.size : Int) := by omega
    simp
    refine CallG.go swakes_c ?_
    simp [krows_length, h1, h1', h2, h2']
  have h2' : ¬ (30 : Int) < (s.size : Int) := by omega
  have c1 := new_d 65536 (by omega)
  have e6 : ((65536 : Nat) : Int) = 65536 := rfl
  rw [e6] at c1
  cases th with
  | false =>
    by_cases hn : Named s
    · obtain ⟨hs, hz⟩ := hn
      have c2 := refNamedT_c s ⟨hs, hz⟩
      have d2 := loadNone_c 65536 [] (fcs []) [] s hs hz rfl
      simp only [dkA, mcF] at c1 d2
      rw [e6] at d2
      generalize fcs [] = f0 at *
      simp
      refine CallG.go swakes_c ?_
      simp [krows_length, h1, h1', h2, h2']
      refine CallG.go c1 ?_
      simp
      refine CallG.go d2 ?_
      simp
      refine CallG.go c2 ?_
      simp
    · have c2 := refNamedF_c s hn (by omega)
      have d2 := loadN_c s hn (by omega) 65536 [] (fcs []) (fcs [])
      simp only [dkA, mcF] at c1 d2
      rw [e6] at d2
      generalize fcs [] = f0 at *
      simp
      refine CallG.go swakes_c ?_
      simp [krows_length, h1, h1', h2, h2']
      refine CallG.go c1 ?_
      simp
      refine CallG.go d2 ?_
      simp
      refine CallG.go c2 ?_
      simp
  | true =>
    by_cases hw : 1 ≤ s.size ∧ s.size ≤ 24
    · have d1 := write_d 65536 [] (fcs []) [] s a (by simp) hw (by omega) (by simp [total]) (by omega) rfl (by simp [total]; omega)
      have e1 : fput s a [] = [(s, a)] := rfl
      rw [e1, List.nil_append] at d1
      by_cases hn : Named s
      · obtain ⟨hs, hz⟩ := hn
        have c2 := refNamedT_c s ⟨hs, hz⟩
        rcases both s a hs hz (by omega) ha 65536 [actP 2 s .empty a] (fcs []) with ⟨d2, d3⟩ | ⟨t, ht, d2, d3⟩
        · have d4 := same_c [] [] (by simp)
          rw [decide_eq_true rfl] at d4
          have ek : krows .u8 [] = [] := rfl
          rw [ek] at d4
          simp only [dkA, mcF] at c1 d1 d2
          rw [e6] at d1 d2
          generalize actP 2 s .empty a = A at *
          generalize fcs [(s, a)] = f1 at *
          generalize fcs [] = f0 at *
          simp
          refine CallG.go swakes_c ?_
          simp [krows_length, h1, h1', h2, h2']
          refine CallG.go c1 ?_
          simp
          refine CallG.go d1 ?_
          simp
          refine CallG.go d2 ?_
          simp
          refine CallG.go c2 ?_
          simp
          refine CallG.go d3 ?_
          simp
          refine CallG.go d4 ?_
          simp
        · have d4 := same_c t t (by omega)
          rw [decide_eq_true rfl] at d4
          simp only [dkA, mcF] at c1 d1 d2
          rw [e6] at d1 d2
          generalize actP 2 s .empty a = A at *
          generalize fcs [(s, a)] = f1 at *
          generalize fcs [] = f0 at *
          simp
          refine CallG.go swakes_c ?_
          simp [krows_length, h1, h1', h2, h2']
          refine CallG.go c1 ?_
          simp
          refine CallG.go d1 ?_
          simp
          refine CallG.go d2 ?_
          simp
          refine CallG.go c2 ?_
          simp
          refine CallG.go d3 ?_
          simp
          refine CallG.go d4 ?_
          simp
      · have c2 := refNamedF_c s hn (by omega)
        have d2 := loadN_c s hn (by omega) 65536 [actP 2 s .empty a] (fcs []) (fcs [(s, a)])
        simp only [dkA, mcF] at c1 d1 d2
        rw [e6] at d1 d2
        generalize actP 2 s .empty a = A at *
        generalize fcs [(s, a)] = f1 at *
        generalize fcs [] = f0 at *
        simp
        refine CallG.go swakes_c ?_
        simp [krows_length, h1, h1', h2, h2']
        refine CallG.go c1 ?_
        simp
        refine CallG.go d1 ?_
        simp
        refine CallG.go d2 ?_
        simp
        refine CallG.go c2 ?_
        simp
    · have hn : ¬ Named s := fun h => hw ⟨h.2.1, Nat.le_trans h.2.2 (by decide)⟩
      have d1 := writeN_d 65536 [] (fcs []) (fcs []) s a hw
      have c2 := refNamedF_c s hn (by omega)
      have d2 := loadN_c s hn (by omega) 65536 [] (fcs []) (fcs [])
      simp only [dkA, mcF] at c1 d1 d2
      rw [e6] at d1 d2
      generalize fcs [] = f0 at *
      simp
      refine CallG.go swakes_c ?_
      simp [krows_length, h1, h1', h2, h2']
      refine CallG.go c1 ?_
      simp
      refine CallG.go d1 ?_
      simp
      refine CallG.go d2 ?_
      simp
      refine CallG.go c2 ?_
      simp
theorem walkSnapsLoad (a0 : ByteArray) (a1 : Option Addr) (l1 c1 : Nat) (a2 : Bool) (w : World) (k1 : Shp.Reads w (.slice (.int .u8)) [.slice a1 l1 c1]) :
     Calls Try.prog 3 #[.string a0, .slice a1 l1 c1, .bool a2] w fun e w' => e = .returned (.bool true) ∧ Below w.heap.size w w' := by
  obtain ⟨t, q1, _, ht⟩ := arg_sl8 k1
  refine lawCalls (lawLoad_c a0 t a2 ht) rfl fun i v av hv hav => ?_
  match i with
  | 0 => cases hv; cases hav; exact ArgR.pv (.str _)
  | 1 => cases hv; cases hav; exact q1
  | 2 => cases hv; cases hav; exact ArgR.pv (.bool _)
  | n + 3 => simp at hv
end Go.Proofs.Ytlbfpnckoblppaa
