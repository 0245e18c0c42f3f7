/- The walk of consistorylaw14.KvAsks: what an op comes to is what a KGet ahead of it, or behind it, tells. -/
import Derived.Test.YtphkfhgeliefcaaKvOps
set_option linter.unusedVariables false
set_option linter.unusedSimpArgs false
namespace Go.Proofs.Ytphkfhgeliefcaa
open Go.RowKit Go.Ours

theorem asks_get (D : List (Bool × Int)) (k : Nat) (hk : k < 16) (a b : Int) : kvDo D 1 k a b = (D, ((D.getD k (false, 0)).1, if (D.getD k (false, 0)).1 then (D.getD k (false, 0)).2 else 0)) := by
  unfold kvDo
  rw [if_neg (by omega)]
  simp [kvOne, sel]
theorem asks_put (D : List (Bool × Int)) (k : Nat) (hk : k < 16) (n b : Int) : kvDo D 2 k n b = (D.set k (true, n), (true, if (D.getD k (false, 0)).1 then (D.getD k (false, 0)).2 else 0)) := by
  unfold kvDo
  rw [if_neg (by omega)]
  simp [kvOne, sel]
theorem asks_del (D : List (Bool × Int)) (k : Nat) (hk : k < 16) (a b : Int) : kvDo D 5 k a b = (D.set k (false, 0), ((D.getD k (false, 0)).1, if (D.getD k (false, 0)).1 then (D.getD k (false, 0)).2 else 0)) := by
  unfold kvDo
  rw [if_neg (by omega)]
  simp [kvOne, sel]
theorem asks_set (D : List (Bool × Int)) (k : Nat) (hk : k < D.length) (v : Bool × Int) : (D.set k v).getD k (false, 0) = v := by
  rw [List.getD_eq_getElem?_getD, List.getElem?_set_self hk]; rfl

set_option maxHeartbeats 2000000 in
theorem walkKvAsks (c0 : Array Value) (a1 : Int) (a2 : Int) (w : World) (k0 : Shp.Reads w (.arr 16 (.pair .bool (.pair (.int .i64) .unit))) c0.toList) (w1 : (Lit.int .u8 a1).wf = true) (w2 : (Lit.int .i64 a2).wf = true) :
    Calls Try.prog 5 #[.agg c0, .int .u8 a1, .int .i64 a2] w fun e w' => e = .returned (.bool true) ∧ Below w.heap.size w w' := by
  obtain ⟨D, hD, rfl⟩ := kv_of_reads k0
  have hb := bounds_u8 w1
  obtain ⟨y, rfl⟩ : ∃ y : Nat, a1 = y := ⟨a1.toNat, by omega⟩
  have hy : y < 256 := by omega
  have DL := Lib.hid hD
  clear k0 w1 w2 hD hb
  obtain ⟨k, hk⟩ : ∃ k : Nat, y % 16 = k := ⟨_, rfl⟩
  have hk16 : k < 16 := by omega
  have HK : Hid ((y : Int).tmod 16 = (k : Int)) := by show _ = _; rw [← hk, Int.tmod_eq_emod_of_nonneg (by omega)]; omega
  have HK2 : Hid ((y : Int) % 16 = (k : Int)) := by show _ = _; rw [← hk]; omega
  clear hk
  obtain ⟨⟨th, v⟩, hg⟩ : ∃ z : Bool × Int, ((D.getD k (false, 0)).1, if (D.getD k (false, 0)).1 then (D.getD k (false, 0)).2 else 0) = z := ⟨_, rfl⟩
  obtain ⟨hg1, hg2⟩ := Prod.mk.inj hg
  obtain ⟨P, hP⟩ : ∃ P, D.set k (true, a2) = P := ⟨_, rfl⟩
  obtain ⟨Q, hQ⟩ : ∃ Q, D.set k (false, 0) = Q := ⟨_, rfl⟩
  have PL : Hid (P.length = 16) := by show _ = _; rw [← hP, List.length_set]; exact DL.out
  have QL : Hid (Q.length = 16) := by show _ = _; rw [← hQ, List.length_set]; exact DL.out
  have E1 : Hid (kvDo D 1 k 0 0 = (D, (th, v))) := by show _ = _; rw [asks_get D k hk16, hg]
  have E2 : Hid (kvDo D 2 k a2 0 = (P, (true, v))) := by show _ = _; rw [asks_put D k hk16, hP, hg2]
  have E3 : Hid (kvDo P 1 k 0 0 = (P, (true, a2))) := by
    show _ = _
    have : P.getD k (false, 0) = (true, a2) := by rw [← hP]; exact asks_set D k (by rw [DL.out]; exact hk16) _
    rw [asks_get P k hk16, this]; rfl
  have E4 : Hid (kvDo D 5 k 0 0 = (Q, (th, v))) := by show _ = _; rw [asks_del D k hk16, hQ, hg]
  have E5 : Hid (kvDo Q 1 k 0 0 = (Q, (false, 0))) := by
    show _ = _
    have : Q.getD k (false, 0) = (false, 0) := by rw [← hQ]; exact asks_set D k (by rw [DL.out]; exact hk16) _
    rw [asks_get Q k hk16, this]; rfl
  clear hg hg1 hg2 hP hQ
  go_enter Try.func5, Try.ntmps5
  go_upto_region 1 with (fail)
  generalize hW : (World.alloc w _) = W
  have hb0 : W.heap[w.heap.size]? = some (.cells (kvCells D).toArray 24) := by rw [← hW]; exact heap_alloc_new _ _
  have hM : Mod none' w W := by rw [← hW]; exact Mod.alloc _ _ _
  clear hW
  have v0 : V24 W w.heap.size D := ⟨range_of_block hb0, there_of_block hb0 (by simp [kvCells_length, DL.out])⟩
  clear hb0
  go_upto_region 3 with (go_at_call 7; refine (kv_wakes _).mono ?_; rintro e w0 ⟨rfl, hm0⟩)
  go_cut [7] from 21 to 23 (fun s wc => s = .int .i64 k ∧ wc = w0)
  case first =>
    go_wp2
    go_meet
    case rel => exact ⟨by first | rw [HK.out] | rw [HK2.out], rfl⟩
  case rest =>
  obtain ⟨rfl, rfl⟩ := hcut
  have v0 := (v0.mod hm0 (fun h => h)).mod (Mod.alloc none' wc (.cells #[.int .i64 1, .int .i64 ↑k, .int .i64 0, .int .i64 0] 28)) (fun h => h)
  have hM := (hM.trans hm0).trans (Mod.alloc none' wc (.cells #[.int .i64 1, .int .i64 ↑k, .int .i64 0, .int .i64 0] 28))
  have v1 : Op4 (wc.alloc (.cells #[.int .i64 1, .int .i64 ↑k, .int .i64 0, .int .i64 0] 28)) wc.heap.size 1 k 0 0 := ⟨by simp, by simp, by simp, by simp⟩
  clear hm0
  go_upto_region 5 with (fail)
  generalize wc.alloc (.cells #[.int .i64 1, .int .i64 ↑k, .int .i64 0, .int .i64 0] 28) = W0 at *
  generalize wc.heap.size = b8 at *
  have HM := Lib.hid hM
  have V1 := Lib.hid v1
  obtain ⟨q10, q11, q12, q13⟩ := v1
  clear hM
  go_upto_region 5 with (fail)
  go_cut [9, 10] from 26 to 31 (fun s t wc => NewVars W0 D th v s t wc)
  case first =>
    go_wp2_with (first
      | (refine wpList_load_mid rfl 24 _ rfl _ _ rfl (kvCells D) _ v0.rng kv_under rfl (kv_info _ DL.out) ?_)
      | (go_at_call 8; refine (do_w D _ _ _ _ _ DL.out _ _ _ E1.out).mono ?_; rintro e w1 ⟨rfl, hm⟩)
      | (refine wpList_store_mid rfl 24 _ _ rfl _ _ (kvCells D).toArray rfl rfl (there_alloc2_kv _ _ _ _ _ DL.out rfl) (kv_info' _ DL.out) (kv_ones _) ?_; simp only [List.toList_toArray]))
    go_meet
    case rel => exact newVars hm D DL.out th v _ rfl _ rfl _ _
  case rest =>
  obtain ⟨bx, b1, rfl, rfl, g0, g0', vbx, vb1, hm1⟩ := hcut
  have V1 := Lib.hid (V1.out.mod hm1 (fun h => h))
  have v0 := v0.mod hm1 (fun h => h)
  have HM := Lib.hid (HM.out.trans hm1)
  clear q10 q11 q12 q13 hm1
  obtain ⟨q10, q11, q12, q13⟩ := V1.out
  obtain ⟨W1, rfl⟩ : ∃ W1 : World, W1 = wc := ⟨_, rfl⟩
  go_upto_region 8 with (first
      | (refine wpList_load_mid rfl 24 _ rfl _ _ rfl (kvCells D) _ vbx.rng kv_under rfl (kv_info _ DL.out) ?_)
      | (refine wpList_load_mid rfl 24 _ rfl _ _ rfl (kvCells D) _ v0.rng kv_under rfl (kv_info _ DL.out) ?_)
      | (go_at_call 10; refine (same_c D D _ DL.out DL.out).mono ?_; rw [sameB_refl]; rintro e W2 ⟨rfl, hm2⟩))
  have V1 := Lib.hid (V1.out.mod hm2 (fun h => h))
  have v0 := v0.mod hm2 (fun h => h)
  have vb1 := vb1.mod hm2 (fun h => h)
  have HM := Lib.hid (HM.out.trans hm2)
  clear q10 q11 q12 q13 hm2 vbx
  obtain ⟨q10, q11, q12, q13⟩ := V1.out
  go_upto_region 8 with (fail)
  go_cut [11, 12] from 36 to 43 (fun s t wc => NewVars W2 P true v s t wc)
  case first =>
    go_wp2_with (first
      | (refine wpList_load_mid rfl 24 _ rfl _ _ rfl (kvCells D) _ v0.rng kv_under rfl (kv_info _ DL.out) ?_)
      | (go_at_call 8; refine (do_w D _ _ _ _ _ DL.out _ _ _ E2.out).mono ?_; rintro e w1 ⟨rfl, hm⟩)
      | (refine wpList_store_mid rfl 24 _ _ rfl _ _ (kvCells P).toArray rfl rfl (there_alloc2_kv _ _ _ _ _ PL.out rfl) (kv_info' _ PL.out) (kv_ones _) ?_; simp only [List.toList_toArray]))
    go_meet
    case rel => exact newVars hm P PL.out true v _ rfl _ rfl _ _
  case rest =>
  obtain ⟨bp, b2, rfl, rfl, g2, g2', vbp, vb2, hm1⟩ := hcut
  have V1 := Lib.hid (V1.out.mod hm1 (fun h => h))
  have v0 := v0.mod hm1 (fun h => h)
  have vb1 := vb1.mod hm1 (fun h => h)
  have HM := Lib.hid (HM.out.trans hm1)
  clear q10 q11 q12 q13 hm1
  obtain ⟨q10, q11, q12, q13⟩ := V1.out
  obtain ⟨W3, rfl⟩ : ∃ W3 : World, W3 = wc := ⟨_, rfl⟩
  go_upto_region 9 with (fail)
  go_cut [13, 14] from 44 to 49 (fun s t wc => NewVars W3 P true a2 s t wc)
  case first =>
    go_wp2_with (first
      | (refine wpList_load_mid rfl 24 _ rfl _ _ rfl (kvCells P) _ vbp.rng kv_under rfl (kv_info _ PL.out) ?_)
      | (go_at_call 8; refine (do_w P _ _ _ _ _ PL.out _ _ _ E3.out).mono ?_; rintro e w1 ⟨rfl, hm⟩)
      | (refine wpList_store_mid rfl 24 _ _ rfl _ _ (kvCells P).toArray rfl rfl (there_alloc2_kv _ _ _ _ _ PL.out rfl) (kv_info' _ PL.out) (kv_ones _) ?_; simp only [List.toList_toArray]))
    go_meet
    case rel => exact newVars hm P PL.out true a2 _ rfl _ rfl _ _
  case rest =>
  obtain ⟨bn, b3, rfl, rfl, g3, g3', vbn, vb3, hm1⟩ := hcut
  have V1 := Lib.hid (V1.out.mod hm1 (fun h => h))
  have v0 := v0.mod hm1 (fun h => h)
  have vb1 := vb1.mod hm1 (fun h => h)
  have vb2 := vb2.mod hm1 (fun h => h)
  have HM := Lib.hid (HM.out.trans hm1)
  clear q10 q11 q12 q13 hm1
  obtain ⟨q10, q11, q12, q13⟩ := V1.out
  obtain ⟨W4, rfl⟩ : ∃ W4 : World, W4 = wc := ⟨_, rfl⟩
  go_upto_region 10 with (fail)
  go_cut [15, 16] from 50 to 56 (fun s t wc => NewVars W4 Q th v s t wc)
  case first =>
    go_wp2_with (first
      | (refine wpList_load_mid rfl 24 _ rfl _ _ rfl (kvCells D) _ v0.rng kv_under rfl (kv_info _ DL.out) ?_)
      | (go_at_call 8; refine (do_w D _ _ _ _ _ DL.out _ _ _ E4.out).mono ?_; rintro e w1 ⟨rfl, hm⟩)
      | (refine wpList_store_mid rfl 24 _ _ rfl _ _ (kvCells Q).toArray rfl rfl (there_alloc2_kv _ _ _ _ _ QL.out rfl) (kv_info' _ QL.out) (kv_ones _) ?_; simp only [List.toList_toArray]))
    go_meet
    case rel => exact newVars hm Q QL.out th v _ rfl _ rfl _ _
  case rest =>
  obtain ⟨bd, b4, rfl, rfl, g4, g4', vbd, vb4, hm1⟩ := hcut
  have V1 := Lib.hid (V1.out.mod hm1 (fun h => h))
  have v0 := v0.mod hm1 (fun h => h)
  have vb1 := vb1.mod hm1 (fun h => h)
  have vb2 := vb2.mod hm1 (fun h => h)
  have vb3 := vb3.mod hm1 (fun h => h)
  have HM := Lib.hid (HM.out.trans hm1)
  clear q10 q11 q12 q13 hm1
  obtain ⟨q10, q11, q12, q13⟩ := V1.out
  obtain ⟨W5, rfl⟩ : ∃ W5 : World, W5 = wc := ⟨_, rfl⟩
  go_upto_region 11 with (fail)
  go_cut [17, 18] from 57 to 62 (fun s t wc => NewVars W5 Q false 0 s t wc)
  case first =>
    go_wp2_with (first
      | (refine wpList_load_mid rfl 24 _ rfl _ _ rfl (kvCells Q) _ vbd.rng kv_under rfl (kv_info _ QL.out) ?_)
      | (go_at_call 8; refine (do_w Q _ _ _ _ _ QL.out _ _ _ E5.out).mono ?_; rintro e w1 ⟨rfl, hm⟩)
      | (refine wpList_store_mid rfl 24 _ _ rfl _ _ (kvCells Q).toArray rfl rfl (there_alloc2_kv _ _ _ _ _ QL.out rfl) (kv_info' _ QL.out) (kv_ones _) ?_; simp only [List.toList_toArray]))
    go_meet
    case rel => exact newVars hm Q QL.out false 0 _ rfl _ rfl _ _
  case rest =>
  obtain ⟨be, b5, rfl, rfl, g5, g5', vbe, vb5, hm1⟩ := hcut
  have V1 := Lib.hid (V1.out.mod hm1 (fun h => h))
  have vb1 := vb1.mod hm1 (fun h => h)
  have vb2 := vb2.mod hm1 (fun h => h)
  have vb3 := vb3.mod hm1 (fun h => h)
  have vb4 := vb4.mod hm1 (fun h => h)
  have HM := Lib.hid (HM.out.trans hm1)
  clear q10 q11 q12 q13 hm1
  obtain ⟨q10, q11, q12, q13⟩ := V1.out
  obtain ⟨W6, rfl⟩ : ∃ W6 : World, W6 = wc := ⟨_, rfl⟩
  have x1 := vb1.c0
  have x2 := vb1.c1
  have x3 := vb2.c0
  have x4 := vb2.c1
  have x5 := vb3.c0
  have x6 := vb3.c1
  have x7 := vb4.c0
  have x8 := vb4.c1
  have x9 := vb5.c0
  have xa := vb5.c1
  go_wp2
  go_ret
  exact ⟨rfl, HM.out.belowAll⟩
end Go.Proofs.Ytphkfhgeliefcaa
