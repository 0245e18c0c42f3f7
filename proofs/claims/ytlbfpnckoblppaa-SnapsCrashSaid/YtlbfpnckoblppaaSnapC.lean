/- The disk: writing over a file, crashes; the document's Told: contracts. No condition. -/
import Derived.Test.YtlbfpnckoblppaaSnapB
import Derived.Test.YtlbfpnckoblppaaIrDisk2
set_option linter.unusedVariables false
set_option linter.unusedSimpArgs false
namespace Go.Proofs.Ytlbfpnckoblppaa
open Go.Abs Go.RowKit Go.Ours

theorem refTold_c (t : List Nat) (ht : t.length ≤ 3000) (hb : ∀ x ∈ t, x < 256) : ACall Try.prog 16 [.pv (.sl 1 (krows .u8 t))] [] (.os 5 1 (krows .u8 (toldF t))) [] [] := by
  refine ACall.fn (fn := Try.f16) rfl okRef12Told rfl (by simp) ?_
  simp only [argT, irRef12Told.eq_1]
  have c1 := refText_c t (by omega)
  have hpl := packed_len64 t.length (by omega)
  have htl : (txt t).length ≤ 3010 := by rw [txt, List.length_append]; omega
  have c2 := refSum_c (txt t) (by omega) (txt_bytes hb)
  have hsl := shaF_len (txt t)
  have c3 := bytes_c (shaF (txt t)) hsl
  unfold toldF
  generalize shaF (txt t) = H at *
  have hr : (krows .u8 H).take 8 = krows .u8 (H.take 8) := by simp [krows, List.map_take]
  have hl8 : (krows .u8 (H.take 8)).length = 8 := by rw [krows_length, List.length_take, hsl]; rfl
  generalize txt t = x at *
  simp
  refine CallG.go c1 ?_
  simp
  refine CallG.go c2 ?_
  simp
  refine CallG.go c3 ?_
  simp [krows_length, hsl, hr, hl8, krows_app]
  omega
/-- How long a file is; none: 0. -/
def flen (n : ByteArray) (F : Fs) : Nat := match ffind n F with
  | some u => u.length
  | none => 0
theorem flen_le (n : ByteArray) : ∀ F : Fs, flen n F ≤ total F
  | [] => by simp [flen, ffind]
  | (k, x) :: r => by
    have ih := flen_le n r
    simp only [flen, ffind, total, List.map_cons, List.sum_cons] at *
    by_cases h : (n == k) = true
    · simp [h]
    · simp only [h, if_false, Bool.false_eq_true]
      omega
theorem write_g (room : Nat) (rows : List (List PV)) (e1 : List (List PV × PV)) (F : Fs) (n : ByteArray) (v : List Nat) (hr : rows.length ≤ 1000) (hn : 1 ≤ n.size ∧ n.size ≤ 24) (hv : v.length ≤ 100000) (hF : total F ≤ room) (hroom : room ≤ 1048576) (hfit : v.length ≤ room - total F + flen n F) :
    ACall Try.prog 10 [.ptr 1000 0, .pv (.str n), .pv (.sl 1 (krows .u8 v))] [dkA room rows, .mc false [.s] e1, mcF F] (.pv (.int .i64 0)) [dkA room (rows ++ [actP 2 n .empty v]), .mc false [.s] e1, mcF (fput n v F)] [] := by
  refine ACall.fn (fn := Try.f10) rfl okDiskDiskWrite rfl (by simp) ?_
  simp only [argT, irDiskDiskWrite.eq_1]
  have c1 := named_d n hn
  have hfl := flen_le n F
  have c2 := fits_d room rows e1 F v.length (flen n F) hF hroom hv (by omega)
  rw [decide_eq_true hfit] at c2
  have c3 := cloneA v (by omega)
  have c4 := do_d room rows e1 F (fput n v F) 2 n .empty v hr (filesPut_d F n v hv)
  have h1 := mfind_fcs n F
  unfold flen at c2
  simp only [dkA, mcF] at c2 c4 ⊢
  simp only [actP] at c4 ⊢
  have e2 : ((2 : Nat) : Int) = 2 := rfl
  rw [e2] at c4 ⊢
  cases hfi : ffind n F with
  | none =>
    rw [hfi] at h1 c2
    have e0 : ((0 : Nat) : Int) = 0 := rfl
    simp only at c2
    rw [e0] at c2
    simp
    refine CallG.go c1 ?_
    simp [h1, krows_length, ckS]
    refine CallG.go c2 ?_
    simp
    refine CallG.go c3 ?_
    simp
    refine CallG.go c4 ?_
    simp
    rfl
  | some u =>
    rw [hfi] at h1 c2
    simp only at c2
    simp
    refine CallG.go c1 ?_
    simp [h1, krows_length, ckS]
    refine CallG.go c2 ?_
    simp
    refine CallG.go c3 ?_
    simp
    refine CallG.go c4 ?_
    simp
    rfl
theorem save_g (room : Nat) (rows : List (List PV)) (e1 : List (List PV × PV)) (F : Fs) (n : ByteArray) (v : List Nat) (hr : rows.length ≤ 900) (hs : small n) (hn : 1 ≤ n.size ∧ n.size ≤ 16) (hv : v.length ≤ 3000) (hb : ∀ x ∈ v, x < 256)
    (hF : total F ≤ room) (hroom : room ≤ 1048576) (hfit : (toldF v).length ≤ room - total F + flen (newN n) F) :
    ACall Try.prog 15 [.ptr 1000 0, .pv (.str n), .pv (.sl 1 (krows .u8 v))] [dkA room rows, .mc false [.s] e1, mcF F] (.pv (.int .i64 0)) [.agg [.pv (.int .i64 (room : Nat)), .mp 2000, .mp 2001, .os 61 4 [], .pv (.int .i64 (-1)), .pv (.bool false)], .mc false [.s] e1, mcF (fput (newN n) (toldF v) F)] [mcF (fput n (toldF v) (fdel (newN n) (fput (newN n) (toldF v) F))), mcF (fput n (toldF v) (fdel (newN n) (fput (newN n) (toldF v) F)))] := by
  refine ACall.fn (fn := Try.f15) rfl okSnapsSave rfl (by simp) ?_
  simp only [argT, irSnapsSave.eq_1]
  have htl := toldF_len v hv
  have hns := newN_size n
  have c1 := asked_c n hs hn room rows e1 (fcs F)
  have c2 := stold_c v hv hb
  have c3 := write_g room rows e1 F (newN n) (toldF v) (by omega) (by omega) (by omega) hF hroom hfit
  have c4 := sync_d room (rows ++ [actP 2 (newN n) .empty (toldF v)]) e1 (fcs (fput (newN n) (toldF v) F))
  have c5 := rename_d room [] (fcs (fput (newN n) (toldF v) F)) (fput (newN n) (toldF v) F) (newN n) n (toldF v) (by simp) (by omega) (by omega) (find_put _ _ _) (newN_ne n)
  rw [List.nil_append] at c5
  have c6 := sync_d room [actP 3 (newN n) n []] (fcs (fput (newN n) (toldF v) F)) (fcs (fput n (toldF v) (fdel (newN n) (fput (newN n) (toldF v) F))))
  simp only [dkA, mcF] at c1 c3 c4 c5 c6 ⊢
  have ha : n ++ strSnapsSave_1 = newN n := rfl
  have hsz : n.size + strSnapsSave_1.size ≤ 1000000 := by
    have : strSnapsSave_1.size = 4 := rfl
    omega
  have hv2 : ¬ (65536 : Int) < (v.length : Int) := by omega
  have hv2' : ¬ 65536 < v.length := by omega
  generalize actP 2 (newN n) .empty (toldF v) = a2 at *
  generalize actP 3 (newN n) n [] = a3 at *
  generalize newN n = nn at *
  generalize toldF v = T at *
  generalize fcs (fput n T (fdel nn (fput nn T F))) = f2 at *
  generalize fcs (fput nn T F) = f1 at *
  generalize fcs F = f0 at *
  simp
  refine CallG.go c1 ?_
  simp [krows_length, hv2, hv2', ha, hsz]
  refine CallG.go c2 ?_
  simp
  refine CallG.go c3 ?_
  simp
  refine CallG.go c4 ?_
  simp [ha, hsz]
  refine CallG.go c5 ?_
  simp
  refine CallG.go c6 ?_
  simp
  rfl
end Go.Proofs.Ytlbfpnckoblppaa
