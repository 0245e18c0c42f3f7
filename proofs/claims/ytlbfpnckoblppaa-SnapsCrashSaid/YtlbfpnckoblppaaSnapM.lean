/- The disk: what is put behind a file; a crash behind many such things: contracts. No condition. -/
import Derived.Test.YtlbfpnckoblppaaSnapD
import Derived.Test.YtlbfpnckoblppaaConcatH
import Derived.Test.YtlbfpnckoblppaaIrCrash
set_option linter.unusedVariables false
set_option linter.unusedSimpArgs false
namespace Go.Proofs.Ytlbfpnckoblppaa
open Go.Abs Go.RowKit Go.Ours

/-- Bytes put behind a file's. -/
def fcat (n : ByteArray) (v : List Nat) (F : Fs) : Fs := fput n ((ffind n F).getD [] ++ v) F
theorem flen_getD (n : ByteArray) (F : Fs) : ((ffind n F).getD []).length = flen n F := by
  unfold flen
  cases ffind n F <;> rfl
theorem total_put (n : ByteArray) (v : List Nat) : ∀ F : Fs, total (fput n v F) + flen n F = total F + v.length
  | [] => by simp [fput, total, flen, ffind]
  | (k, x) :: r => by
    have ih := total_put n v r
    simp only [fput, flen, ffind, total] at *
    by_cases h : (n == k) = true
    · simp [h]; omega
    · simp only [h, if_false, Bool.false_eq_true, List.map_cons, List.sum_cons] at *
      omega
theorem total_cat (n : ByteArray) (v : List Nat) (F : Fs) : total (fcat n v F) = total F + v.length := by
  have := total_put n ((ffind n F).getD [] ++ v) F
  rw [List.length_append, flen_getD] at this
  unfold fcat
  omega
theorem ba_eq {a b : ByteArray} (h : (a == b) = true) : a = b := by
  cases a with
  | mk x => cases b with
    | mk y =>
      have h' : (x == y) = true := h
      rw [beq_iff_eq] at h'
      rw [h']
theorem find_putN (m n : ByteArray) (v : List Nat) (h : (m == n) = false) : ∀ F : Fs, ffind m (fput n v F) = ffind m F
  | [] => by simp [fput, ffind, h]
  | (k, x) :: r => by
    have ih := find_putN m n v h r
    simp only [fput]
    by_cases hk : (n == k) = true
    · have := ba_eq hk
      subst this
      simp [hk, ffind, h]
    · simp [hk, ffind, ih]
theorem find_cat (m n : ByteArray) (v : List Nat) (h : (m == n) = false) (F : Fs) : ffind m (fcat n v F) = ffind m F := find_putN m n _ h F
theorem filesApp_d (F : Fs) (n : ByteArray) (v : List Nat) (hF : total F ≤ 10000000) (hv : v.length ≤ 100000) : ACall Try.prog 42 [.mp 1000, .pagg (actP 1 n .empty v)] [mcF F] (.tup []) [mcF (fcat n v F)] [] := by
  refine ACall.fn (fn := Try.f42) rfl okDiskFilesDo rfl (by simp) ?_
  simp only [argT, irDiskFilesDo.eq_1, mcF, actP, fcat]
  have hfl := flen_le n F
  have c := concat_c ((ffind n F).getD []) v (by rw [flen_getD]; omega) (by omega)
  have hm := mset_fcs n ((ffind n F).getD [] ++ v) F
  have h1 := mfind_fcs n F
  have e1 : ((1 : Nat) : Int) = 1 := rfl
  have e2 : krows .u8 [] = [] := rfl
  rw [e1]
  cases hfi : ffind n F with
  | none =>
    rw [hfi] at c hm h1
    simp only [Option.getD_none, List.nil_append, Option.map_none] at c hm h1 ⊢
    rw [e2] at c
    simp [h1, ckS]
    refine CallG.go c ?_
    simp [hm, ckS]
  | some u =>
    rw [hfi] at c hm h1
    simp only [Option.getD_some, Option.map_some] at c hm h1 ⊢
    simp [h1, ckS]
    refine CallG.go c ?_
    simp [hm, ckS]
theorem append_d (room : Nat) (rows : List (List PV)) (e1 : List (List PV × PV)) (F : Fs) (n : ByteArray) (v : List Nat) (hr : rows.length ≤ 1000) (hn : 1 ≤ n.size ∧ n.size ≤ 24) (hv : v.length ≤ 100000) (hF : total F ≤ room) (hroom : room ≤ 1048576) (hfit : v.length ≤ room - total F) :
    ACall Try.prog 22 [.ptr 1000 0, .pv (.str n), .pv (.sl 1 (krows .u8 v))] [dkA room rows, .mc false [.s] e1, mcF F] (.pv (.int .i64 0)) [dkA room (rows ++ [actP 1 n .empty v]), .mc false [.s] e1, mcF (fcat n v F)] [] := by
  refine ACall.fn (fn := Try.f22) rfl okDiskDiskAppend rfl (by simp) ?_
  simp only [argT, irDiskDiskAppend.eq_1]
  have c1 := named_d n hn
  have c2 := fits_d room rows e1 F v.length 0 hF hroom hv (by omega)
  rw [Nat.add_zero, decide_eq_true hfit] at c2
  have c3 := cloneA v (by omega)
  have c4 := do_d room rows e1 F (fcat n v F) 1 n .empty v hr (filesApp_d F n v (by omega) hv)
  simp only [dkA, mcF] at c2 c4 ⊢
  simp only [actP] at c4 ⊢
  have e0 : ((0 : Nat) : Int) = 0 := rfl
  have e2 : ((1 : Nat) : Int) = 1 := rfl
  rw [e0] at c2
  rw [e2] at c4 ⊢
  simp
  refine CallG.go c1 ?_
  simp [krows_length]
  refine CallG.go c2 ?_
  simp
  refine CallG.go c3 ?_
  simp
  refine CallG.go c4 ?_
  simp
  rfl
/-- What is asked by a name that is none is refused. -/
theorem named0_d (n : ByteArray) (h : ¬ (1 ≤ n.size ∧ n.size ≤ 24)) : ACall Try.prog 23 [.pv (.str n)] [] (.pv (.bool false)) [] [] := by
  refine ACall.fn (fn := Try.f23) rfl okDiskNamed rfl (by simp) ?_
  simp only [argT, irDiskNamed.eq_1]
  by_cases h1 : 1 ≤ n.size
  · have h1' : (1 : Int) ≤ (n.size : Int) := by omega
    have h2' : ¬ (n.size : Int) ≤ 24 := by omega
    simp [h1', h2']
  · have h1' : ¬ (1 : Int) ≤ (n.size : Int) := by omega
    simp [h1']
theorem appendN_d (room : Nat) (rows : List (List PV)) (e1 e2 : List (List PV × PV)) (n : ByteArray) (v : List Nat) (hn : ¬ (1 ≤ n.size ∧ n.size ≤ 24)) :
    ACall Try.prog 22 [.ptr 1000 0, .pv (.str n), .pv (.sl 1 (krows .u8 v))] [dkA room rows, .mc false [.s] e1, .mc false [.s] e2] (.pv (.int .i64 15)) [dkA room rows, .mc false [.s] e1, .mc false [.s] e2] [] := by
  refine ACall.fn (fn := Try.f22) rfl okDiskDiskAppend rfl (by simp) ?_
  simp only [argT, irDiskDiskAppend.eq_1]
  have c1 := named0_d n hn
  simp only [dkA]
  simp
  refine CallG.go c1 ?_
  simp
  rfl
def actsR (L : List (ByteArray × List Nat)) : List (List PV) := L.map fun q => actP 1 q.1 .empty q.2
theorem crashL (room : Nat) (L : List (ByteArray × List Nat)) (e2 : List (List PV × PV)) (keep torn cut : Int) (nm : ByteArray) (hv : ∀ q ∈ L, q.2.length ≤ 300 ∧ (nm == q.1) = false) (hL : L.length ≤ 100) : ∀ (k i : Nat) (F : Fs), i + k = L.length → total F + 300 * k ≤ 200000 → ∃ F', ffind nm F' = ffind nm F ∧ ∀ (Q : Exit → S → Prop),
    (∀ a, Q (.exit 0) (mk [(0, .ptr 1000 0), (3, .ptr 3 0), (13, .pv (.sl 4 (actsR L))), (14, .pv (.int .i64 (L.length : Nat))), (15, .pv (.int .i64 (L.length : Nat))), (16, a)] [(3, .pagg (planP keep torn cut)), (1000, dkA room (actsR L)), (1001, mcF F'), (1002, .mc false [.s] e2)])) →
    LoopW Try.prog [0, 3, 13, 14, 15] [3, 1000, 1001, 1002] irDiskDiskCrash_L1 (mk [(0, .ptr 1000 0), (3, .ptr 3 0), (13, .pv (.sl 4 (actsR L))), (14, .pv (.int .i64 (L.length : Nat))), (15, .pv (.int .i64 (i : Nat)))] [(3, .pagg (planP keep torn cut)), (1000, dkA room (actsR L)), (1001, mcF F), (1002, .mc false [.s] e2)]) Q := by
  intro k
  induction k with
  | zero =>
    intro i F hi hF
    refine ⟨F, rfl, fun Q hQ => ?_⟩
    have hi2 : i = L.length := by omega
    subst hi2
    simp only [dkA, mcF] at hQ ⊢
    refine LoopW.go irDiskDiskCrash_L1.eq_1 (by simp) ?_
    simp
    exact hQ _
  | succ k ih =>
    intro i F hi hF
    have hlt : i < L.length := by omega
    have hx : L[i]? = some L[i] := List.getElem?_eq_getElem hlt
    obtain ⟨h1, h2⟩ := hv _ (List.getElem_mem hlt)
    generalize L[i] = q at hx h1 h2
    obtain ⟨n, v⟩ := q
    have hr : (actsR L)[i]? = some (actP 1 n .empty v) := by rw [actsR, List.getElem?_map, hx]; rfl
    have hrl : (actsR L).length = L.length := by rw [actsR, List.length_map]
    obtain ⟨v', b, g1, _, cl⟩ := left_d 1 (Or.inl rfl) n .empty v i keep torn cut
    have hd := filesApp_d F n v' (by omega) (by simp only at h1; omega)
    have i1 : (i : Int) < (L.length : Int) := by omega
    have wi : IntKind.i64.wrap ((i : Int) + 1) = (i + 1 : Nat) := by rw [wrap_i64] <;> omega
    have la : (actP 1 n .empty v).length = 4 := rfl
    have la' : (actP 1 n .empty v').length = 4 := rfl
    have lp : (planP keep torn cut).length = 3 := rfl
    rw [← hrl] at i1 hlt
    cases b with
    | false =>
      obtain ⟨F', g2, n1⟩ := ih (i + 1) F (by omega) (by omega)
      refine ⟨F', g2, fun Q hQ => ?_⟩
      have n1 := n1 Q hQ
      clear ih hQ
      simp only [dkA, mcF] at n1 ⊢
      generalize fcs F' = f1 at *
      generalize fcs F = f0 at *
      generalize planP keep torn cut = p at *
      generalize actP 1 n .empty v = A at *
      generalize actP 1 n .empty v' = A' at *
      generalize actsR L = R at *
      refine LoopW.go irDiskDiskCrash_L1.eq_1 (by simp) ?_
      simp [-getElem?_pos, ← hrl, i1, hlt, hr, la, lp]
      refine CallG.go cl ?_
      simp [la', wi]
      rw [hrl]
      exact n1
    | true =>
      obtain ⟨F', g2, n1⟩ := ih (i + 1) (fcat n v' F) (by omega) (by rw [total_cat]; simp only at h1; omega)
      refine ⟨F', by rw [g2, find_cat nm n v' h2], fun Q hQ => ?_⟩
      have n1 := n1 Q hQ
      clear ih hQ
      simp only [dkA, mcF] at hd n1 ⊢
      generalize fcs F' = f1 at *
      generalize fcs (fcat n v' F) = f2 at *
      generalize fcs F = f0 at *
      generalize planP keep torn cut = p at *
      generalize actP 1 n .empty v = A at *
      generalize actP 1 n .empty v' = A' at *
      generalize actsR L = R at *
      refine LoopW.go irDiskDiskCrash_L1.eq_1 (by simp) ?_
      simp [-getElem?_pos, ← hrl, i1, hlt, hr, la, lp]
      refine CallG.go cl ?_
      simp [la']
      refine CallG.go hd ?_
      simp [wi]
      rw [hrl]
      exact n1
theorem crashN_d (room : Nat) (L : List (ByteArray × List Nat)) (F : Fs) (e2 : List (List PV × PV)) (keep torn cut : Int) (nm : ByteArray) (hv : ∀ q ∈ L, q.2.length ≤ 300 ∧ (nm == q.1) = false) (hL : L.length ≤ 100) (hF : total F ≤ 100000) :
    ∃ F', ffind nm F' = ffind nm F ∧ ACall Try.prog 21 [.ptr 1000 0, .pagg (planP keep torn cut)] [dkA room (actsR L), mcF F, .mc false [.s] e2] (.tup []) [.agg [.pv (.int .i64 (room : Nat)), .mp 1001, .mp 2000, .os 61 4 [], .pv (.int .i64 (-1)), .pv (.bool false)], mcF F', .mc false [.s] e2] [mcF F'] := by
  obtain ⟨F', g, lp⟩ := crashL room L e2 keep torn cut nm hv hL L.length 0 F (by omega) (by omega)
  refine ⟨F', g, ?_⟩
  refine ACall.fn (fn := Try.f21) rfl okDiskDiskCrash rfl (by simp) ?_
  simp only [argT, irDiskDiskCrash.eq_1]
  have hrl : (actsR L).length = L.length := by rw [actsR, List.length_map]
  have c := settle_d room (actsR L) (fcs F') e2
  have e0 : ((0 : Nat) : Int) = 0 := rfl
  simp only [dkA, mcF] at c lp ⊢
  rw [e0] at lp
  generalize fcs F' = f' at *
  generalize fcs F = f at *
  generalize planP keep torn cut = p at *
  generalize actsR L = R at *
  simp
  rw [hrl]
  refine lp _ fun a => ?_
  simp
  refine CallG.go c ?_
  simp
  rfl
end Go.Proofs.Ytlbfpnckoblppaa
