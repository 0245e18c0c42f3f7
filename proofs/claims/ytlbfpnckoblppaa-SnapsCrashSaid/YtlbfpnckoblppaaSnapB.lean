/- Snaps: what is told, saved and loaded: contracts. No condition. -/
import Derived.Test.YtlbfpnckoblppaaSnapA
import Derived.Test.YtlbfpnckoblppaaSnapRd
set_option linter.unusedVariables false
set_option linter.unusedSimpArgs false
namespace Go.Proofs.Ytlbfpnckoblppaa
open Go.Abs Go.RowKit Go.Ours

def toldF (t : List Nat) : List Nat := txt t ++ (shaF (txt t)).take 8
theorem txt_bytes {t : List Nat} (h : ∀ x ∈ t, x < 256) : ∀ x ∈ txt t, x < 256 := fun x hx => by
  rw [txt, List.mem_append] at hx
  rcases hx with hx | hx
  · exact packed_bytes _ x hx
  · exact h x hx
theorem stold_c (t : List Nat) (ht : t.length ≤ 3000) (hb : ∀ x ∈ t, x < 256) : ACall Try.prog 32 [.pv (.sl 1 (krows .u8 t))] [] (.os 5 1 (krows .u8 (toldF t))) [] [] := by
  refine ACall.fn (fn := Try.f32) rfl okSnapsTold rfl (by simp) ?_
  simp only [argT, irSnapsTold.eq_1]
  have c1 := putText_c [] t (by simp) (by omega)
  have hpl := packed_len64 t.length (by omega)
  have htl : (txt t).length ≤ 3010 := by rw [txt, List.length_append]; omega
  have c2 := sum_c (txt t) (by omega) (txt_bytes hb)
  have hsl := shaF_len (txt t)
  rw [List.nil_append] at c1
  unfold toldF
  generalize shaF (txt t) = H at *
  have e1 : krows .u8 [] = [] := rfl
  rw [e1] at c1
  have hkl : (kns .u8 H).length = 32 := by rw [kns_length, hsl]
  have hr : ((kns .u8 H).take 8).map (fun p => [p]) = krows .u8 (H.take 8) := by simp [kns, krows, List.map_take, Function.comp_def]
  have hl8 : (krows .u8 (H.take 8)).length = 8 := by rw [krows_length, List.length_take, hsl]; rfl
  generalize txt t = x at *
  simp [-List.reduceReplicate]
  refine CallG.go c1 ?_
  simp [-List.reduceReplicate]
  refine CallG.go c2 ?_
  simp [-List.reduceReplicate, hkl, hr, hl8, krows_length, krows_app]
  omega
theorem toldF_len (t : List Nat) (ht : t.length ≤ 3000) : (toldF t).length ≤ 3018 := by
  have hpl := packed_len64 t.length (by omega)
  rw [toldF, List.length_append, List.length_take, txt, List.length_append]
  omega
theorem ba_refl (n : ByteArray) : (n == n) = true := by
  cases n with
  | mk d => show (d == d) = true; simp
theorem find_put (n : ByteArray) (v : List Nat) : ∀ F : Fs, ffind n (fput n v F) = some v
  | [] => by simp [fput, ffind, ba_refl]
  | (k, x) :: r => by
    have ih := find_put n v r
    simp only [fput]
    by_cases h : (n == k) = true
    · simp [h, ffind, ba_refl]
    · simp [h, ffind, ih]
theorem del_put (n : ByteArray) (v : List Nat) : ∀ F : Fs, ffind n F = none → fdel n (fput n v F) = F
  | [], _ => by simp [fput, fdel, ba_refl]
  | (k, x) :: r, h => by
    simp only [ffind] at h
    by_cases hk : (n == k) = true
    · rw [if_pos hk] at h; cases h
    · rw [if_neg hk] at h
      have ih := del_put n v r h
      simp [fput, fdel, hk, ih]
/-- The name of the file that is written first. -/
def newN (n : ByteArray) : ByteArray := n ++ strSnapsSave_1
theorem newN_size (n : ByteArray) : (newN n).size = n.size + 4 := by
  rw [newN, ByteArray.size_append]
  rfl
theorem newN_ne (n : ByteArray) : ((newN n).toList == n.toList) = false := by
  rw [beq_eq_false_iff_ne]
  intro h
  have h2 := congrArg List.length h
  have e : ∀ b : ByteArray, b.toList.length = b.size := fun b => by rw [ByteArray.toList_eq]; rfl
  rw [e, e, newN_size] at h2
  omega
theorem save_c (room : Nat) (rows : List (List PV)) (e1 : List (List PV × PV)) (F : Fs) (n : ByteArray) (v : List Nat) (hr : rows.length ≤ 900) (hs : small n) (hn : 1 ≤ n.size ∧ n.size ≤ 16) (hv : v.length ≤ 3000) (hb : ∀ x ∈ v, x < 256)
    (hF : total F ≤ room) (hroom : room ≤ 1048576) (hno : ffind (newN n) F = none) (hfit : (toldF v).length ≤ room - total F) :
    ACall Try.prog 15 [.ptr 1000 0, .pv (.str n), .pv (.sl 1 (krows .u8 v))] [dkA room rows, .mc false [.s] e1, mcF F] (.pv (.int .i64 0)) [.agg [.pv (.int .i64 (room : Nat)), .mp 2000, .mp 2001, .os 61 4 [], .pv (.int .i64 (-1)), .pv (.bool false)], .mc false [.s] e1, mcF (fput (newN n) (toldF v) F)] [mcF (fput n (toldF v) F), mcF (fput n (toldF v) F)] := by
  refine ACall.fn (fn := Try.f15) rfl okSnapsSave rfl (by simp) ?_
  simp only [argT, irSnapsSave.eq_1]
  have htl := toldF_len v hv
  have hns := newN_size n
  have c1 := asked_c n hs hn room rows e1 (fcs F)
  have c2 := stold_c v hv hb
  have c3 := write_d room rows e1 F (newN n) (toldF v) (by omega) (by omega) (by omega) hF hroom hno hfit
  have c4 := sync_d room (rows ++ [actP 2 (newN n) .empty (toldF v)]) e1 (fcs (fput (newN n) (toldF v) F))
  have c5 := rename_d room [] (fcs (fput (newN n) (toldF v) F)) (fput (newN n) (toldF v) F) (newN n) n (toldF v) (by simp) (by omega) (by omega) (find_put _ _ _) (newN_ne n)
  rw [del_put _ _ _ hno, List.nil_append] at c5
  have c6 := sync_d room [actP 3 (newN n) n []] (fcs (fput (newN n) (toldF v) F)) (fcs (fput n (toldF v) F))
  simp only [dkA, mcF] at c1 c3 c4 c5 c6 ⊢
  have ha : n ++ strSnapsSave_1 = newN n := rfl
  have hsz : n.size + strSnapsSave_1.size ≤ 1000000 := by
    have : strSnapsSave_1.size = 4 := rfl
    omega
  have hv2 : ¬ (65536 : Int) < (v.length : Int) := by omega
  have hv2' : ¬ 65536 < v.length := by omega
  generalize actP 2 (newN n) .empty (toldF v) = a2 at *
  generalize actP 3 (newN n) n [] = a3 at *
  generalize newN n = nn at *
  generalize toldF v = T at *
  generalize fcs (fput nn T F) = f1 at *
  generalize fcs (fput n T F) = f2 at *
  generalize fcs F = f0 at *
  simp
  refine CallG.go c1 ?_
  simp [krows_length, hv2, hv2', ha, hsz]
  refine CallG.go c2 ?_
  simp
  refine CallG.go c3 ?_
  simp
  refine CallG.go c4 ?_
  simp [ha, hsz]
  refine CallG.go c5 ?_
  simp
  refine CallG.go c6 ?_
  simp
  rfl
theorem eql (l : List Nat) (hl : l.length ≤ 100000) : ∀ (n k : Nat), k + n = l.length → ∀ (Q : Exit → S → Prop),
   (∀ a b c, Q (.exit 0) (mk [(0, .pv (.sl 1 (krows .u8 l))), (1, .pv (.sl 1 (krows .u8 l))), (12, a), (13, b), (14, c)] [])) →
   LoopW Try.prog [0, 1, 12, 13] [] irSlicesEqualbytebyte_L1 (mk [(0, .pv (.sl 1 (krows .u8 l))), (1, .pv (.sl 1 (krows .u8 l))), (12, .pv (.int .i64 (l.length : Nat))), (13, .pv (.int .i64 (k : Nat)))] []) Q := by
  intro n
  induction n with
  | zero =>
    intro k hk Q hQ
    have hk2 : k = l.length := by omega
    subst hk2
    refine LoopW.go irSlicesEqualbytebyte_L1.eq_1 (by simp) ?_
    simp
    exact hQ _ _ _
  | succ n ih =>
    intro k hk Q hQ
    have hlt : k < l.length := by omega
    have hx : l[k]? = some l[k] := List.getElem?_eq_getElem hlt
    generalize l[k] = x at hx
    have i1 : (k : Int) < (l.length : Int) := by omega
    have wk : IntKind.i64.wrap ((k : Int) + 1) = (k + 1 : Nat) := by rw [wrap_i64] <;> omega
    have hn := ih (k + 1) (by omega) Q hQ
    clear hQ ih
    refine LoopW.go irSlicesEqualbytebyte_L1.eq_1 (by simp) ?_
    simp [-getElem?_pos, i1, hlt, krows_length, krows_get, hx, wk]
    exact hn
theorem equal_c (l : List Nat) (hl : l.length ≤ 100000) : ACall Try.prog 31 [.pv (.sl 1 (krows .u8 l)), .pv (.sl 1 (krows .u8 l))] [] (.pv (.bool true)) [] [] := by
  refine ACall.fn (fn := Try.f31) rfl okSlicesEqualbytebyte rfl (by simp) ?_
  simp only [argT, irSlicesEqualbytebyte.eq_1]
  have lp := eql l hl l.length 0 (by omega)
  simp [krows_length]
  refine lp _ fun a b c => ?_
  simp
theorem load_c (room : Nat) (rows : List (List PV)) (e1 : List (List PV × PV)) (F : Fs) (n : ByteArray) (v : List Nat) (hs : small n) (hn : 1 ≤ n.size ∧ n.size ≤ 16) (hv : v.length ≤ 3000) (hb : ∀ x ∈ v, x < 256) (hf : ffind n F = some (toldF v)) :
    ACall Try.prog 11 [.ptr 1000 0, .pv (.str n)] [dkA room rows, .mc false [.s] e1, mcF F] (.tup [.pv (.sl 1 (krows .u8 v)), .pv (.int .i64 0)]) [dkA room rows, .mc false [.s] e1, mcF F] [] := by
  refine ACall.fn (fn := Try.f11) rfl okSnapsLoad rfl (by simp) ?_
  simp only [argT, irSnapsLoad.eq_1]
  have htl := toldF_len v hv
  have c1 := asked_c n hs hn room rows e1 (fcs F)
  have c2 := read_d room rows e1 F n (toldF v) (by omega) hf
  have c3 := newr_c (toldF v) (by omega)
  have hd : (toldF v).drop 0 = txtR v ++ (shaF (txt v)).take 8 := rfl
  have c4 := textAt_c (toldF v) ((shaF (txt v)).take 8) v 0 65536 (by omega) (by decide) (by omega) (Nat.zero_le _) hd
  rw [Nat.zero_add] at c4
  have hlen : (toldF v).length = (txtR v).length + 8 := by
    have := congrArg List.length hd
    rw [List.drop_zero, List.length_append, List.length_take, shaF_len] at this
    exact this
  have c5 := left_c (toldF v) (txtR v).length (by omega) (by omega)
  rw [show (toldF v).length - (txtR v).length = 8 by omega] at c5
  have c6 := stold_c v hv hb
  have c7 := equal_c (toldF v) (by omega)
  have e6 : ((65536 : Nat) : Int) = 65536 := rfl
  have e8 : ((8 : Nat) : Int) = 8 := rfl
  rw [e6] at c4
  rw [e8] at c5
  simp only [dkA, mcF] at c1 c2 ⊢
  generalize rdP (toldF v) 0 = r0 at *
  generalize rdP (toldF v) (txtR v).length = r1 at *
  generalize toldF v = T at *
  generalize fcs F = f0 at *
  simp
  refine CallG.go c1 ?_
  simp
  refine CallG.go c2 ?_
  simp
  refine CallG.go c3 ?_
  simp
  refine CallG.go c4 ?_
  simp
  refine CallG.go c5 ?_
  simp
  refine CallG.go c6 ?_
  simp
  refine CallG.go c7 ?_
  simp
  rfl
end Go.Proofs.Ytlbfpnckoblppaa
