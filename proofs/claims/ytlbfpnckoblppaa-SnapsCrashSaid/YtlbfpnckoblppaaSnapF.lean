/- The document's Named; what is refused for want of room; nothing pending: contracts. No condition. -/
import Derived.Test.YtlbfpnckoblppaaSnapE
set_option linter.unusedVariables false
set_option linter.unusedSimpArgs false
namespace Go.Proofs.Ytlbfpnckoblppaa
open Go.Abs Go.RowKit Go.Ours

theorem nlGood (s : ByteArray) (hl : s.size ≤ 1000) (hs : small s) : ∀ (n k : Nat), k + n = s.size → ∀ (Q : Exit → S → Prop),
   (∀ a b c d, Q (.exit 0) (mk [(0, .pv (.str s)), (3, a), (4, b), (5, c), (6, d), (7, .pv (.bool false))] [])) →
   LoopW Try.prog [0, 3] [] irRef12Named_L1 (mk [(0, .pv (.str s)), (3, .pv (.int .i64 (k : Nat)))] []) Q := by
  intro n
  induction n with
  | zero =>
    intro k hk Q hQ
    have hk2 : k = s.size := by omega
    subst hk2
    refine LoopW.go irRef12Named_L1.eq_1 (by simp) ?_
    simp
    exact hQ _ _ _ _
  | succ n ih =>
    intro k hk Q hQ
    have hlt : k < s.size := by omega
    have hd : k < s.data.size := hlt
    obtain ⟨b1, b2⟩ := hs k hlt
    have hx : (s.data.getD k 0).toNat = (s[k]'hlt).toNat := by
      rw [Array.getD_eq_getD_getElem?, Array.getElem?_eq_getElem hd]
      rfl
    generalize (s[k]'hlt).toNat = x at *
    have i1 : (k : Int) < (s.size : Int) := by omega
    have i3 : (k : Int) < (s.data.size : Int) := i1
    have j1 : ¬ (x : Int) < 97 := by omega
    have j2 : ¬ (122 : Int) < (x : Int) := by omega
    have j1' : ¬ x < 97 := by omega
    have j2' : ¬ 122 < x := by omega
    have wk : IntKind.i64.wrap ((k : Int) + 1) = (k + 1 : Nat) := by rw [wrap_i64] <;> omega
    have hn := ih (k + 1) (by omega) Q hQ
    clear hQ ih
    refine LoopW.go irRef12Named_L1.eq_1 (by simp) ?_
    simp [-getElem?_pos, -Array.getD_eq_getD_getElem?, i1, hlt, i3, hd, hx, j1, j2, j1', j2', wk]
    exact hn
theorem nlBad (s : ByteArray) (hl : s.size ≤ 1000) (p : Nat) (hb : Bad s p) : ∀ (n k : Nat), k + n = p → ∀ (Q : Exit → S → Prop),
   Q .ret (mk [(2, .pv (.bool false))] []) →
   LoopW Try.prog [0, 3] [] irRef12Named_L1 (mk [(0, .pv (.str s)), (3, .pv (.int .i64 (k : Nat)))] []) Q := by
  intro n
  induction n with
  | zero =>
    intro k hk Q hQ
    have hk2 : k = p := by omega
    subst hk2
    have hlt : k < s.size := hb.lt
    have hd : k < s.data.size := hlt
    have hh := hb.here
    unfold okB at hh
    have hx : (s.data.getD k 0).toNat = (s[k]'hlt).toNat := by
      rw [Array.getD_eq_getD_getElem?, Array.getElem?_eq_getElem hd]
      rfl
    generalize (s[k]'hlt).toNat = x at *
    have i1 : (k : Int) < (s.size : Int) := by omega
    have i3 : (k : Int) < (s.data.size : Int) := i1
    by_cases j1 : x < 97
    · have j1' : (x : Int) < 97 := by omega
      refine LoopW.go irRef12Named_L1.eq_1 (by simp) ?_
      simp [-getElem?_pos, -Array.getD_eq_getD_getElem?, i1, hlt, i3, hd, hx, j1, j1']
      exact hQ
    · have j1' : ¬ (x : Int) < 97 := by omega
      have j2 : 122 < x := by omega
      have j2' : (122 : Int) < (x : Int) := by omega
      refine LoopW.go irRef12Named_L1.eq_1 (by simp) ?_
      simp [-getElem?_pos, -Array.getD_eq_getD_getElem?, i1, hlt, i3, hd, hx, j1, j1', j2, j2']
      exact hQ
  | succ n ih =>
    intro k hk Q hQ
    have hlt : k < s.size := by have := hb.lt; omega
    have hd : k < s.data.size := hlt
    obtain ⟨b1, b2⟩ := hb.ahead k (by omega)
    have hx : (s.data.getD k 0).toNat = (s[k]'hlt).toNat := by
      rw [Array.getD_eq_getD_getElem?, Array.getElem?_eq_getElem hd]
      rfl
    generalize (s[k]'hlt).toNat = x at *
    have i1 : (k : Int) < (s.size : Int) := by omega
    have i3 : (k : Int) < (s.data.size : Int) := i1
    have j1 : ¬ (x : Int) < 97 := by omega
    have j2 : ¬ (122 : Int) < (x : Int) := by omega
    have j1' : ¬ x < 97 := by omega
    have j2' : ¬ 122 < x := by omega
    have wk : IntKind.i64.wrap ((k : Int) + 1) = (k + 1 : Nat) := by rw [wrap_i64] <;> omega
    have hn := ih (k + 1) (by omega) Q hQ
    clear hQ ih
    refine LoopW.go irRef12Named_L1.eq_1 (by simp) ?_
    simp [-getElem?_pos, -Array.getD_eq_getD_getElem?, i1, hlt, i3, hd, hx, j1, j2, j1', j2', wk]
    exact hn
theorem refNamedT_c (s : ByteArray) (hn : Named s) : ACall Try.prog 12 [.pv (.str s)] [] (.pv (.bool true)) [] [] := by
  refine ACall.fn (fn := Try.f12) rfl okRef12Named rfl (by simp) ?_
  simp only [argT, irRef12Named.eq_1]
  obtain ⟨hs, h1, h2⟩ := hn
  have h1' : (1 : Int) ≤ (s.size : Int) := by omega
  have h2' : (s.size : Int) ≤ 16 := by omega
  have lp := nlGood s (by omega) hs s.size 0 (by omega)
  simp
  refine lp _ fun a b c d => ?_
  simp [h1', h2']
theorem refNamedF_c (s : ByteArray) (hn : ¬ Named s) (hl : s.size ≤ 30) : ACall Try.prog 12 [.pv (.str s)] [] (.pv (.bool false)) [] [] := by
  refine ACall.fn (fn := Try.f12) rfl okRef12Named rfl (by simp) ?_
  simp only [argT, irRef12Named.eq_1]
  rcases small_or s with hs | ⟨p, hb⟩
  · have lp := nlGood s (by omega) hs s.size 0 (by omega)
    simp
    refine lp _ fun a b c d => ?_
    by_cases h1 : 1 ≤ s.size
    · have h1' : (1 : Int) ≤ (s.size : Int) := by omega
      have h2 : ¬ s.size ≤ 16 := fun h => hn ⟨hs, h1, h⟩
      have h2' : ¬ (s.size : Int) ≤ 16 := by omega
      simp [h1', h2']
    · have h1' : ¬ (1 : Int) ≤ (s.size : Int) := by omega
      simp [h1']
  · have lp := nlBad s (by omega) p hb p 0 (by omega)
    simp
    refine lp _ ?_
    simp
theorem writeFull_d (room : Nat) (rows : List (List PV)) (e1 : List (List PV × PV)) (F : Fs) (n : ByteArray) (v : List Nat) (hn : 1 ≤ n.size ∧ n.size ≤ 24) (hv : v.length ≤ 100000) (hF : total F ≤ room) (hroom : room ≤ 1048576) (hno : ffind n F = none) (hfit : ¬ v.length ≤ room - total F) :
    ACall Try.prog 10 [.ptr 1000 0, .pv (.str n), .pv (.sl 1 (krows .u8 v))] [dkA room rows, .mc false [.s] e1, mcF F] (.pv (.int .i64 4)) [dkA room rows, .mc false [.s] e1, mcF F] [] := by
  refine ACall.fn (fn := Try.f10) rfl okDiskDiskWrite rfl (by simp) ?_
  simp only [argT, irDiskDiskWrite.eq_1]
  have c1 := named_d n hn
  have c2 := fits_d room rows e1 F v.length 0 hF hroom hv (by omega)
  rw [Nat.add_zero, decide_eq_false hfit] at c2
  have h1 := mfind_fcs n F
  rw [hno] at h1
  simp only [dkA, mcF] at c2 ⊢
  have e0 : ((0 : Nat) : Int) = 0 := rfl
  rw [e0] at c2
  simp
  refine CallG.go c1 ?_
  simp [h1, krows_length, ckS]
  refine CallG.go c2 ?_
  simp
  rfl
theorem saveFull_c (room : Nat) (rows : List (List PV)) (e1 : List (List PV × PV)) (F : Fs) (n : ByteArray) (v : List Nat) (hs : small n) (hn : 1 ≤ n.size ∧ n.size ≤ 16) (hv : v.length ≤ 3000) (hb : ∀ x ∈ v, x < 256)
    (hF : total F ≤ room) (hroom : room ≤ 1048576) (hno : ffind (newN n) F = none) (hfit : ¬ (toldF v).length ≤ room - total F) :
    ACall Try.prog 15 [.ptr 1000 0, .pv (.str n), .pv (.sl 1 (krows .u8 v))] [dkA room rows, .mc false [.s] e1, mcF F] (.pv (.int .i64 4)) [dkA room rows, .mc false [.s] e1, mcF F] [] := by
  refine ACall.fn (fn := Try.f15) rfl okSnapsSave0 rfl (by simp) ?_
  simp only [argT, irSnapsSave.eq_1]
  have htl := toldF_len v hv
  have hns := newN_size n
  have c1 := asked_c n hs hn room rows e1 (fcs F)
  have c2 := stold_c v hv hb
  have c3 := writeFull_d room rows e1 F (newN n) (toldF v) (by omega) (by omega) hF hroom hno hfit
  simp only [dkA, mcF] at c1 c3 ⊢
  have ha : n ++ strSnapsSave_1 = newN n := rfl
  have hsz : n.size + strSnapsSave_1.size ≤ 1000000 := by
    have : strSnapsSave_1.size = 4 := rfl
    omega
  have hv2 : ¬ (65536 : Int) < (v.length : Int) := by omega
  have hv2' : ¬ 65536 < v.length := by omega
  generalize newN n = nn at *
  generalize toldF v = T at *
  generalize fcs F = f0 at *
  simp
  refine CallG.go c1 ?_
  simp [krows_length, hv2, hv2', ha, hsz]
  refine CallG.go c2 ?_
  simp
  refine CallG.go c3 ?_
  simp
  rfl
theorem readNone_d (room : Nat) (rows : List (List PV)) (e1 : List (List PV × PV)) (F : Fs) (n : ByteArray) (hf : ffind n F = none) : ACall Try.prog 17 [.ptr 1000 0, .pv (.str n)] [dkA room rows, .mc false [.s] e1, mcF F] (.tup [.os 5 1 [], .pv (.int .i64 13)]) [dkA room rows, .mc false [.s] e1, mcF F] [] := by
  refine ACall.fn (fn := Try.f17) rfl okDiskDiskRead rfl (by simp) ?_
  simp only [argT, irDiskDiskRead.eq_1, dkA, mcF]
  have h1 := mfind_fcs n F
  rw [hf] at h1
  simp [h1, ckS]
  rfl
theorem loadNone_c (room : Nat) (rows : List (List PV)) (e1 : List (List PV × PV)) (F : Fs) (n : ByteArray) (hs : small n) (hn : 1 ≤ n.size ∧ n.size ≤ 16) (hf : ffind n F = none) :
    ACall Try.prog 11 [.ptr 1000 0, .pv (.str n)] [dkA room rows, .mc false [.s] e1, mcF F] (.tup [.os 5 1 [], .pv (.int .i64 13)]) [dkA room rows, .mc false [.s] e1, mcF F] [] := by
  refine ACall.fn (fn := Try.f11) rfl okSnapsLoad rfl (by simp) ?_
  simp only [argT, irSnapsLoad.eq_1]
  have c1 := asked_c n hs hn room rows e1 (fcs F)
  have c2 := readNone_d room rows e1 F n hf
  simp only [dkA, mcF] at c1 c2 ⊢
  simp
  refine CallG.go c1 ?_
  simp
  refine CallG.go c2 ?_
  simp
  rfl
theorem pending_d (room : Nat) (rows : List (List PV)) (e1 e2 : List (List PV × PV)) : ACall Try.prog 18 [.ptr 1000 0] [dkA room rows, .mc false [.s] e1, .mc false [.s] e2] (.pv (.int .i64 (rows.length : Nat))) [dkA room rows, .mc false [.s] e1, .mc false [.s] e2] [] := by
  refine ACall.fn (fn := Try.f18) rfl okDiskDiskPending rfl (by simp) ?_
  simp only [argT, irDiskDiskPending.eq_1, dkA]
  simp
  rfl
end Go.Proofs.Ytlbfpnckoblppaa
