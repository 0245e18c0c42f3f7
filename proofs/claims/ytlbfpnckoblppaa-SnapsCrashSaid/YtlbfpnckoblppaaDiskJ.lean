/- The disk: contracts of what does one thing. No condition. -/
import Derived.Test.YtlbfpnckoblppaaDiskI
import Derived.Test.YtlbfpnckoblppaaLibClone
set_option linter.unusedVariables false
set_option linter.unusedSimpArgs false
namespace Go.Proofs.Ytlbfpnckoblppaa
open Go.Abs Go.RowKit Go.Ours

def fput (n : ByteArray) (v : List Nat) : Fs → Fs
  | [] => [(n, v)]
  | (k, x) :: r => if (n == k) = true then (n, v) :: r else (k, x) :: fput n v r
def fdel (n : ByteArray) : Fs → Fs
  | [] => []
  | (k, x) :: r => if (n == k) = true then r else (k, x) :: fdel n r
def ffind (n : ByteArray) : Fs → Option (List Nat)
  | [] => none
  | (k, x) :: r => if (n == k) = true then some x else ffind n r
theorem eqP_str (n k : ByteArray) : eqPVs [.str n] [.str k] = (n == k) := by simp [eqPVs, eqPV]
theorem mset_fcs (n : ByteArray) (v : List Nat) : ∀ F : Fs, mset [.str n] (.sl 1 (krows .u8 v)) (fcs F) = fcs (fput n v F)
  | [] => rfl
  | (k, x) :: r => by
    have ih := mset_fcs n v r
    simp only [fcs, List.map_cons, mset, eqP_str, fput] at *
    by_cases h : (n == k) = true
    · simp [h]
    · simp [h, ih]
theorem mdrop_fcs (n : ByteArray) : ∀ F : Fs, mdrop [.str n] (fcs F) = fcs (fdel n F)
  | [] => rfl
  | (k, x) :: r => by
    have ih := mdrop_fcs n r
    simp only [fcs, List.map_cons, mdrop, eqP_str, fdel] at *
    by_cases h : (n == k) = true
    · simp [h]
    · simp [h, ih]
theorem mfind_fcs (n : ByteArray) : ∀ F : Fs, mfind [.str n] (fcs F) = (ffind n F).map fun v => .sl 1 (krows .u8 v)
  | [] => rfl
  | (k, x) :: r => by
    have ih := mfind_fcs n r
    simp only [fcs, List.map_cons, mfind, eqP_str, ffind] at *
    by_cases h : (n == k) = true
    · simp [h]
    · simp [h, ih]
/-- A disk without a fuse. -/
def dkA (room : Nat) (rows : List (List PV)) : AV := .agg [.pv (.int .i64 (room : Nat)), .mp 1001, .mp 1002, .os 61 4 rows, .pv (.int .i64 (-1)), .pv (.bool false)]
def mcF (F : Fs) : AV := .mc false [.s] (fcs F)
theorem new_d (r : Nat) (hr : r ≤ 1048576) : ACall Try.prog 9 [.pv (.int .i64 (r : Nat))] [] (.ptr 2000 0) [] [.agg [.pv (.int .i64 (r : Nat)), .mp 2001, .mp 2002, .os 61 4 [], .pv (.int .i64 (-1)), .pv (.bool false)], mcF [], mcF []] := by
  refine ACall.fn (fn := Try.f9) rfl okDiskNew rfl (by simp) ?_
  simp only [argT, irDiskNew.eq_1, mcF, fcs, List.map_nil]
  have h1 : ¬ (1048576 : Int) < (r : Int) := by omega
  have h2 : (if 0 < (r : Int) then (r : Int) else 0) = (r : Int) := by split <;> omega
  simp [h1, -Int.natCast_pos, h2]
  exact ⟨rfl, rfl, rfl⟩
theorem named_d (n : ByteArray) (h : 1 ≤ n.size ∧ n.size ≤ 24) : ACall Try.prog 23 [.pv (.str n)] [] (.pv (.bool true)) [] [] := by
  refine ACall.fn (fn := Try.f23) rfl okDiskNamed rfl (by simp) ?_
  simp only [argT, irDiskNamed.eq_1]
  have h1 : (1 : Int) ≤ (n.size : Int) := by omega
  have h2 : (n.size : Int) ≤ 24 := by omega
  simp [h1, h2]
theorem burn_d (room : Nat) (rows : List (List PV)) (e1 e2 : List (List PV × PV)) : ACall Try.prog 37 [.ptr 1000 0] [dkA room rows, .mc false [.s] e1, .mc false [.s] e2] (.pv (.bool true)) [dkA room rows, .mc false [.s] e1, .mc false [.s] e2] [] := by
  refine ACall.fn (fn := Try.f37) rfl okDiskDiskBurn rfl (by simp) ?_
  simp only [argT, irDiskDiskBurn.eq_1, dkA]
  simp
  rfl
theorem fits_d (room : Nat) (rows : List (List PV)) (e1 : List (List PV × PV)) (F : Fs) (more less : Nat) (hF : total F ≤ room) (hr : room ≤ 1048576) (hm : more ≤ 100000) (hl : less ≤ 1048576) : ACall Try.prog 24 [.ptr 1000 0, .pv (.int .i64 (more : Nat)), .pv (.int .i64 (less : Nat))] [dkA room rows, .mc false [.s] e1, mcF F] (.pv (.bool (decide (more ≤ room - total F + less)))) [dkA room rows, .mc false [.s] e1, mcF F] [] := by
  refine ACall.fn (fn := Try.f24) rfl okDiskDiskFits rfl (by simp) ?_
  simp only [argT, irDiskDiskFits.eq_1, dkA, mcF]
  have c := size_c F (by omega)
  have w1 : IntKind.i64.wrap ((room : Int) - (total F : Int)) = (room - total F : Nat) := by rw [wrap_i64] <;> omega
  have w2 : IntKind.i64.wrap (((room - total F : Nat) : Int) + (less : Int)) = (room - total F + less : Nat) := by rw [wrap_i64] <;> omega
  have hd : decide ((more : Int) ≤ ((room - total F + less : Nat) : Int)) = decide (more ≤ room - total F + less) := by
    rw [decide_eq_decide]
    omega
  generalize room - total F + less = z at *
  generalize room - total F = y at *
  generalize total F = x at *
  simp
  refine CallG.go c ?_
  simp [w1, w2, hd]
  rfl
theorem ckS (n : ByteArray) : ckAll [.s] [.str n] = true := rfl
theorem filesPut_d (F : Fs) (n : ByteArray) (v : List Nat) (hv : v.length ≤ 100000) : ACall Try.prog 42 [.mp 1000, .pagg [.int .i64 2, .str n, .str .empty, .sl 1 (krows .u8 v)]] [mcF F] (.tup []) [mcF (fput n v F)] [] := by
  refine ACall.fn (fn := Try.f42) rfl okDiskFilesDo rfl (by simp) ?_
  simp only [argT, irDiskFilesDo.eq_1, mcF]
  have c := cloneA v (by omega)
  have hm := mset_fcs n v F
  simp
  refine CallG.go c ?_
  simp [hm, ckS]
theorem filesRen_d (F : Fs) (n m : ByteArray) (v : List Nat) (hf : ffind n F = some v) (hne : (n.toList == m.toList) = false) : ACall Try.prog 42 [.mp 1000, .pagg [.int .i64 3, .str n, .str m, .sl 1 []]] [mcF F] (.tup []) [mcF (fput m v (fdel n F))] [] := by
  refine ACall.fn (fn := Try.f42) rfl okDiskFilesDo rfl (by simp) ?_
  simp only [argT, irDiskFilesDo.eq_1, mcF]
  have h1 := mfind_fcs n F
  have h2 := mdrop_fcs n F
  have h3 := mset_fcs m v (fdel n F)
  rw [hf] at h1
  simp [h1, h2, h3, hne, ckS]
/-- A thing that was done, in its cells. -/
def actP (k : Nat) (n m : ByteArray) (v : List Nat) : List PV := [.int .i64 (k : Nat), .str n, .str m, .sl 1 (krows .u8 v)]
theorem do_d (room : Nat) (rows : List (List PV)) (e1 : List (List PV × PV)) (F F' : Fs) (k : Nat) (n m : ByteArray) (v : List Nat) (hr : rows.length ≤ 1000)
    (hf : ACall Try.prog 42 [.mp 1000, .pagg (actP k n m v)] [mcF F] (.tup []) [mcF F'] []) : ACall Try.prog 25 [.ptr 1000 0, .pagg (actP k n m v)] [dkA room rows, .mc false [.s] e1, mcF F] (.pv (.int .i64 0)) [dkA room (rows ++ [actP k n m v]), .mc false [.s] e1, mcF F'] [] := by
  refine ACall.fn (fn := Try.f25) rfl okDiskDiskDo rfl (by simp) ?_
  simp only [argT, irDiskDiskDo.eq_1]
  have c := burn_d room rows e1 (fcs F)
  have ha : (actP k n m v).length = 4 := rfl
  simp only [dkA, mcF] at c hf ⊢
  generalize actP k n m v = a at *
  simp
  refine CallG.go c ?_
  simp [ha]
  refine CallG.go hf ?_
  simp [ha]
  exact ⟨by omega, rfl⟩
theorem write_d (room : Nat) (rows : List (List PV)) (e1 : List (List PV × PV)) (F : Fs) (n : ByteArray) (v : List Nat) (hr : rows.length ≤ 1000) (hn : 1 ≤ n.size ∧ n.size ≤ 24) (hv : v.length ≤ 100000) (hF : total F ≤ room) (hroom : room ≤ 1048576) (hno : ffind n F = none) (hfit : v.length ≤ room - total F) :
    ACall Try.prog 10 [.ptr 1000 0, .pv (.str n), .pv (.sl 1 (krows .u8 v))] [dkA room rows, .mc false [.s] e1, mcF F] (.pv (.int .i64 0)) [dkA room (rows ++ [actP 2 n .empty v]), .mc false [.s] e1, mcF (fput n v F)] [] := by
  refine ACall.fn (fn := Try.f10) rfl okDiskDiskWrite rfl (by simp) ?_
  simp only [argT, irDiskDiskWrite.eq_1]
  have c1 := named_d n hn
  have c2 := fits_d room rows e1 F v.length 0 hF hroom hv (by omega)
  rw [Nat.add_zero, decide_eq_true hfit] at c2
  have c3 := cloneA v (by omega)
  have c4 := do_d room rows e1 F (fput n v F) 2 n .empty v hr (filesPut_d F n v hv)
  have h1 := mfind_fcs n F
  rw [hno] at h1
  simp only [dkA, mcF] at c2 c4 ⊢
  simp only [actP] at c4 ⊢
  have e0 : ((0 : Nat) : Int) = 0 := rfl
  have e2 : ((2 : Nat) : Int) = 2 := rfl
  rw [e0] at c2
  rw [e2] at c4 ⊢
  simp
  refine CallG.go c1 ?_
  simp [h1, krows_length, ckS]
  refine CallG.go c2 ?_
  simp
  refine CallG.go c3 ?_
  simp
  refine CallG.go c4 ?_
  simp
  rfl
theorem there_d (room : Nat) (rows : List (List PV)) (e1 : List (List PV × PV)) (F : Fs) (n : ByteArray) : ACall Try.prog 40 [.ptr 1000 0, .pv (.str n)] [dkA room rows, .mc false [.s] e1, mcF F] (.pv (.bool (ffind n F).isSome)) [dkA room rows, .mc false [.s] e1, mcF F] [] := by
  refine ACall.fn (fn := Try.f40) rfl okDiskDiskThere rfl (by simp) ?_
  simp only [argT, irDiskDiskThere.eq_1, dkA, mcF]
  have h1 := mfind_fcs n F
  cases h : ffind n F <;> rw [h] at h1
  · simp [h1, ckS]
    rfl
  · simp [h1, ckS]
    rfl
theorem rename_d (room : Nat) (rows : List (List PV)) (e1 : List (List PV × PV)) (F : Fs) (n m : ByteArray) (v : List Nat) (hr : rows.length ≤ 1000) (hn : 1 ≤ n.size ∧ n.size ≤ 24) (hm : 1 ≤ m.size ∧ m.size ≤ 24) (hf : ffind n F = some v) (hne : (n.toList == m.toList) = false) :
    ACall Try.prog 20 [.ptr 1000 0, .pv (.str n), .pv (.str m)] [dkA room rows, .mc false [.s] e1, mcF F] (.pv (.int .i64 0)) [dkA room (rows ++ [actP 3 n m []]), .mc false [.s] e1, mcF (fput m v (fdel n F))] [] := by
  refine ACall.fn (fn := Try.f20) rfl okDiskDiskRename rfl (by simp) ?_
  simp only [argT, irDiskDiskRename.eq_1]
  have c1 := named_d n hn
  have c2 := named_d m hm
  have c3 := there_d room rows e1 F n
  rw [hf] at c3
  have c4 := do_d room rows e1 F (fput m v (fdel n F)) 3 n m [] hr (filesRen_d F n m v hf hne)
  simp only [dkA, mcF] at c3 c4 ⊢
  simp only [actP] at c4 ⊢
  have e3 : ((3 : Nat) : Int) = 3 := rfl
  have e4 : krows .u8 [] = [] := rfl
  rw [e3, e4] at c4 ⊢
  simp
  refine CallG.go c1 ?_
  simp
  refine CallG.go c2 ?_
  simp
  refine CallG.go c3 ?_
  simp
  refine CallG.go c4 ?_
  simp
  rfl
theorem read_d (room : Nat) (rows : List (List PV)) (e1 : List (List PV × PV)) (F : Fs) (n : ByteArray) (v : List Nat) (hv : v.length ≤ 100000) (hf : ffind n F = some v) : ACall Try.prog 17 [.ptr 1000 0, .pv (.str n)] [dkA room rows, .mc false [.s] e1, mcF F] (.tup [.os 5 1 (krows .u8 v), .pv (.int .i64 0)]) [dkA room rows, .mc false [.s] e1, mcF F] [] := by
  refine ACall.fn (fn := Try.f17) rfl okDiskDiskRead rfl (by simp) ?_
  simp only [argT, irDiskDiskRead.eq_1, dkA, mcF]
  have h1 := mfind_fcs n F
  rw [hf] at h1
  have c := cloneA v (by omega)
  simp [h1, ckS]
  refine CallG.go c ?_
  simp
  rfl
theorem settle_d (room : Nat) (rows : List (List PV)) (e1 e2 : List (List PV × PV)) : ACall Try.prog 39 [.ptr 1000 0] [dkA room rows, .mc false [.s] e1, .mc false [.s] e2] (.tup []) [.agg [.pv (.int .i64 (room : Nat)), .mp 1001, .mp 2000, .os 61 4 [], .pv (.int .i64 (-1)), .pv (.bool false)], .mc false [.s] e1, .mc false [.s] e2] [.mc false [.s] e1] := by
  refine ACall.fn (fn := Try.f39) rfl okDiskDiskSettle rfl (by simp) ?_
  simp only [argT, irDiskDiskSettle.eq_1, dkA]
  have c := mclone_c e1
  simp
  refine CallG.go c ?_
  simp
  rfl
theorem sync_d (room : Nat) (rows : List (List PV)) (e1 e2 : List (List PV × PV)) : ACall Try.prog 19 [.ptr 1000 0] [dkA room rows, .mc false [.s] e1, .mc false [.s] e2] (.tup []) [.agg [.pv (.int .i64 (room : Nat)), .mp 2000, .mp 2001, .os 61 4 [], .pv (.int .i64 (-1)), .pv (.bool false)], .mc false [.s] e1, .mc false [.s] e2] [.mc false [.s] e2, .mc false [.s] e2] := by
  refine ACall.fn (fn := Try.f19) rfl okDiskDiskSync rfl (by simp) ?_
  simp only [argT, irDiskDiskSync.eq_1]
  have c0 := burn_d room rows e1 e2
  have c1 := mclone_c e2
  have c2 := settle_d room rows e2 e2
  simp only [dkA] at c0 c2 ⊢
  simp
  refine CallG.go c0 ?_
  simp
  refine CallG.go c1 ?_
  simp
  refine CallG.go c2 ?_
  simp
  rfl
end Go.Proofs.Ytlbfpnckoblppaa
