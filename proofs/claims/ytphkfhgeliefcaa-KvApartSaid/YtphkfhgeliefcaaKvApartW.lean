/- The walk of consistorylaw14.KvApart: two ops on unlike keys come to the same in either order, and leave the same. -/
import Derived.Test.YtphkfhgeliefcaaKvArgs
namespace Go.Proofs.Ytphkfhgeliefcaa
open Go.RowKit Go.Ours

/-- Behind 'x, r = Do(..)' where x was there. -/
def OldVars (W : World) (b : Nat) (D : List (Bool × Int)) (ok : Bool) (r : Int) (t : Value) (wc : World) : Prop :=
  ∃ b' : Nat, t = .pointer (some ⟨b', 0, none⟩) ∧ W.heap.size ≤ b' ∧ V24 wc b D ∧ V30 wc b' ok r ∧ Mod (just b) W wc

theorem oldVars {W w1 : World} (hm : Mod none' W w1) (b : Nat) (E D : List (Bool × Int)) (hv : V24 W b E) (hD : D.length = 16) (ok : Bool) (r : Int) (Y : Array Value) (hY : 2 = Y.size) (u : TypeId) :
    OldVars W b D ok r (.pointer (some ⟨w1.heap.size, 0, none⟩))
      ((((w1.alloc (.cells Y u)).setCells b 0 (kvCells D)).setCell ⟨w1.heap.size, 0, none⟩ (.bool ok)).setCell ⟨w1.heap.size, 1, none⟩ (.int .i64 r)) := by
  have hl : (kvCells D).length = 32 := by rw [kvCells_length]; omega
  have hv1 := hv.mod hm (fun h => h)
  have hlt := hv1.lt
  have ma := Mod.alloc none' w1 (.cells Y u)
  have hv2 := hv1.mod ma (fun h => h)
  have hb : (w1.alloc (.cells Y u)).heap[w1.heap.size]? = some (.cells Y u) := heap_alloc_new _ _
  have hy := there_of_block hb hY
  obtain ⟨y0, h0⟩ := Option.isSome_iff_exists.1 (hy 0 (by omega)).1
  obtain ⟨y1, h1⟩ := Option.isSome_iff_exists.1 (hy 1 (by omega)).1
  have k0 := cell_setCells_other h0 b 0 (kvCells D) (by simp; omega)
  have k1 := cell_setCells_other h1 b 0 (kvCells D) (by simp; omega)
  refine ⟨_, rfl, hm.size, ⟨?_, ?_⟩, ⟨?_, ?_⟩, ?_⟩
  · refine rangeAt_setOther (rangeAt_setOther ?_ _ _ (by simp; omega)) _ _ (by simp; omega)
    exact World.rangeAt_setCells_same _ _ _ _ (by rw [hl]; exact hv2.thr)
  · exact there_setCell (there_setCell (World.there_setCells hv2.thr _ _ _) _ _) _ _
  · rw [World.cell?_setCell_other _ _ _ _ (by simp)]
    exact World.cell?_setCell_same _ _ _ k0
  · exact World.cell?_setCell_same _ _ _ (show World.cell? _ _ = some _ by rw [World.cell?_setCell_other _ _ _ _ (by simp)]; exact k1)
  · have hs := hm.size
    refine ((((hm.any (S := just b)).trans (Mod.alloc _ _ _)).step (Mod.setCells _ _ _ _) ?_).step (Mod.setCell _ _ _) ?_).step (Mod.setCell _ _ _) ?_
    all_goals (intro i hi hs; simp only [just] at hs ⊢; omega)

structure Op4 (w : World) (b : Nat) (k x a c : Int) : Prop where
  c0 : w.cell? ⟨b, 0, none⟩ = some (.int .i64 k)
  c1 : w.cell? ⟨b, 1, none⟩ = some (.int .i64 x)
  c2 : w.cell? ⟨b, 2, none⟩ = some (.int .i64 a)
  c3 : w.cell? ⟨b, 3, none⟩ = some (.int .i64 c)
theorem Op4.mod {S : Nat → Prop} {w w' : World} {b : Nat} {k x a c : Int} (h : Op4 w b k x a c) (m : Mod S w w') (hs : ¬ S b) : Op4 w' b k x a c := ⟨m.keeps h.c0 hs, m.keeps h.c1 hs, m.keeps h.c2 hs, m.keeps h.c3 hs⟩
theorem Op4.lt {w : World} {b : Nat} {k x a c : Int} (h : Op4 w b k x a c) : b < w.heap.size := lt_of_cell h.c0

set_option maxHeartbeats 2000000 in
theorem walkKvApart (c0 : Array Value) (c1 : Array Value) (c2 : Array Value) (w : World) (k0 : Shp.Reads w (.arr 16 (.pair .bool (.pair (.int .i64) .unit))) c0.toList) (k1 : Shp.Reads w (.pair (.int .i64) (.pair (.int .i64) (.pair (.int .i64) (.pair (.int .i64) .unit)))) c1.toList) (k2 : Shp.Reads w (.pair (.int .i64) (.pair (.int .i64) (.pair (.int .i64) (.pair (.int .i64) .unit)))) c2.toList) :
    Calls Try.prog 4 #[.agg c0, .agg c1, .agg c2] w fun e w' => e = .returned (.bool true) ∧ Below w.heap.size w w' := by
  obtain ⟨D, hD, rfl⟩ := kv_of_reads k0
  obtain ⟨p, x, a, b, h1⟩ := op_of_reads k1
  obtain ⟨q, y, c, d, h2⟩ := op_of_reads k2
  obtain rfl : c1 = #[.int .i64 p, .int .i64 x, .int .i64 a, .int .i64 b] := Array.ext' (by simpa using h1)
  obtain rfl : c2 = #[.int .i64 q, .int .i64 y, .int .i64 c, .int .i64 d] := Array.ext' (by simpa using h2)
  clear k0 k1 k2 h1 h2
  have DL := Lib.hid hD
  clear hD
  have HAP := Lib.hid (fun h : x ≠ y => kv_apart D p x a b q y c d h)
  obtain ⟨⟨X1, o1, r1⟩, e1⟩ : ∃ z, kvDo D p x a b = z := ⟨_, rfl⟩
  obtain ⟨⟨X2, o2, r2⟩, e2⟩ : ∃ z, kvDo X1 q y c d = z := ⟨_, rfl⟩
  obtain ⟨⟨Y1, o3, r3⟩, e3⟩ : ∃ z, kvDo D q y c d = z := ⟨_, rfl⟩
  obtain ⟨⟨Y2, o4, r4⟩, e4⟩ : ∃ z, kvDo Y1 p x a b = z := ⟨_, rfl⟩
  have X1L : Hid (X1.length = 16) := by have := kvDo_length D p x a b; rw [e1, DL.out] at this; exact this
  have X2L : Hid (X2.length = 16) := by have := kvDo_length X1 q y c d; rw [e2, X1L.out] at this; exact this
  have Y1L : Hid (Y1.length = 16) := by have := kvDo_length D q y c d; rw [e3, DL.out] at this; exact this
  have Y2L : Hid (Y2.length = 16) := by have := kvDo_length Y1 p x a b; rw [e4, Y1L.out] at this; exact this
  have E1 := Lib.hid e1
  have E2 := Lib.hid e2
  have E3 := Lib.hid e3
  have E4 := Lib.hid e4
  clear e1 e2 e3 e4
  go_enter Try.func4, Try.ntmps4
  go_upto_region 1 with (fail)
  generalize hW : (World.alloc (World.alloc (World.alloc w _) _) _) = W
  obtain ⟨hs, hb0, hb1, hb2, hM⟩ : W.heap.size = w.heap.size + 3 ∧ _ ∧ _ ∧ _ ∧ Mod none' w W := by rw [← hW]; exact allocs3 _ _ _ _
  rw [hW] at hb0 hb1 hb2
  clear hW
  have v0 : V24 W w.heap.size D := ⟨range_of_block hb0, there_of_block hb0 (by simp [kvCells_length, DL.out])⟩
  have v1 : Op4 W (w.heap.size + 1) p x a b := ⟨cell_of_block hb1 0, cell_of_block hb1 1, cell_of_block hb1 2, cell_of_block hb1 3⟩
  have v2 : Op4 W (w.heap.size + 1 + 1) q y c d := ⟨cell_of_block hb2 0, cell_of_block hb2 1, cell_of_block hb2 2, cell_of_block hb2 3⟩
  clear hb0 hb1 hb2 hs
  go_upto_region 3 with (go_at_call 7; refine (kv_wakes _).mono ?_; rintro e w0 ⟨rfl, hm0⟩)
  have v0 := v0.mod hm0 (fun h => h)
  have v1 := v1.mod hm0 (fun h => h)
  have v2 := v2.mod hm0 (fun h => h)
  have hM := hM.trans hm0
  clear hm0
  have l0 := v0.lt
  have l1 := v1.lt
  have l2 := v2.lt
  obtain ⟨q10, q11, q12, q13⟩ := v1
  obtain ⟨q20, q21, q22, q23⟩ := v2
  by_cases hxy : x = y
  · have hq : (x == y) = true := by simpa using hxy
    clear hxy
    go_wp2
    go_ret
    exact ⟨rfl, hM.belowAll⟩
  · have hq : (x == y) = false := by simpa using hxy
    have HA := Lib.hid (HAP.out hxy)
    clear hxy
    have HM := Lib.hid hM
    have V1 : Hid (Op4 w0 (w.heap.size + 1) p x a b) := ⟨q10, q11, q12, q13⟩
    have V2 : Hid (Op4 w0 (w.heap.size + 1 + 1) q y c d) := ⟨q20, q21, q22, q23⟩
    clear hM
    obtain ⟨W0, rfl⟩ : ∃ W0 : World, W0 = w0 := ⟨_, rfl⟩
    go_upto_region 5 with (fail)
    go_cut [7, 8] from 20 to 25 (fun s t wc => NewVars W0 X1 o1 r1 s t wc)
    case first =>
      go_wp2_with (first
        | (refine wpList_load_mid rfl 24 _ rfl _ _ rfl (kvCells D) _ v0.rng kv_under rfl (kv_info _ DL.out) ?_)
        | (go_at_call 8; refine (do_w D _ _ _ _ _ DL.out _ _ _ E1.out).mono ?_; rintro e w1 ⟨rfl, hm⟩)
        | (refine wpList_store_mid rfl 24 _ _ rfl _ _ (kvCells X1).toArray rfl rfl (there_alloc2_kv _ _ _ _ _ X1L.out rfl) (kv_info' _ X1L.out) (kv_ones _) ?_; simp only [List.toList_toArray]))
      go_meet
      case rel => exact newVars hm X1 X1L.out o1 r1 _ rfl _ rfl _ _
    case rest =>
    obtain ⟨bx, br1, rfl, rfl, g1, g2, vx, vr1, hm1⟩ := hcut
    have V1 := Lib.hid (V1.out.mod hm1 (fun h => h))
    have V2 := Lib.hid (V2.out.mod hm1 (fun h => h))
    have v0 := v0.mod hm1 (fun h => h)
    have HM := Lib.hid (HM.out.trans hm1)
    have lx := vx.lt
    have lr1 := vr1.lt
    clear q10 q11 q12 q13 q20 q21 q22 q23 hm1
    obtain ⟨q20, q21, q22, q23⟩ := V2.out
    obtain ⟨W1, rfl⟩ : ∃ W1 : World, W1 = wc := ⟨_, rfl⟩
    have l0 := v0.lt
    have l1 := V1.out.lt
    have l2 := V2.out.lt
    go_upto_region 6 with (fail)
    go_cut [9] from 26 to 31 (fun t wc => OldVars W1 bx X2 o2 r2 t wc)
    case first =>
      go_wp2_with (first
        | (refine wpList_load_mid rfl 24 _ rfl _ _ rfl (kvCells X1) _ vx.rng kv_under rfl (kv_info _ X1L.out) ?_)
        | (go_at_call 8; refine (do_w X1 _ _ _ _ _ X1L.out _ _ _ E2.out).mono ?_; rintro e w1 ⟨rfl, hm⟩; have hne : ¬ w1.heap.size = bx := (by have := (vx.mod hm (fun h => h)).lt; omega))
        | (refine wpList_store_mid rfl 24 _ _ rfl _ _ (kvCells X2).toArray rfl rfl (V24.kv ((vx.mod hm (fun h => h)).mod (Mod.alloc none' _ _) (fun h => h)) _ X2L.out) (kv_info' _ X2L.out) (kv_ones _) ?_; simp only [List.toList_toArray]))
      go_meet
      case rel => exact oldVars hm bx X1 X2 vx X2L.out o2 r2 _ rfl _
    case rest =>
    obtain ⟨br2, rfl, g3, vx, vr2, hm1⟩ := hcut
    have V1 := Lib.hid (V1.out.mod hm1 (by simp only [just]; omega))
    have V2 := Lib.hid (V2.out.mod hm1 (by simp only [just]; omega))
    have v0 := v0.mod hm1 (by simp only [just]; omega)
    have vr1 := vr1.mod hm1 (by simp only [just]; omega)
    have hs := hm1.size
    have HM := Lib.hid (HM.out.step hm1 (fun i hi hs => by simp only [just] at hs; omega))
    clear q20 q21 q22 q23 hm1
    obtain ⟨q20, q21, q22, q23⟩ := V2.out
    obtain ⟨W2, rfl⟩ : ∃ W2 : World, W2 = wc := ⟨_, rfl⟩
    have l0 := v0.lt
    have l1 := V1.out.lt
    have l2 := V2.out.lt
    have lx := vx.lt
    have lr1 := vr1.lt
    have lr2 := vr2.lt
    go_upto_region 7 with (fail)
    go_cut [10, 11] from 32 to 37 (fun s t wc => NewVars W2 Y1 o3 r3 s t wc)
    case first =>
      go_wp2_with (first
        | (refine wpList_load_mid rfl 24 _ rfl _ _ rfl (kvCells D) _ v0.rng kv_under rfl (kv_info _ DL.out) ?_)
        | (go_at_call 8; refine (do_w D _ _ _ _ _ DL.out _ _ _ E3.out).mono ?_; rintro e w1 ⟨rfl, hm⟩)
        | (refine wpList_store_mid rfl 24 _ _ rfl _ _ (kvCells Y1).toArray rfl rfl (there_alloc2_kv _ _ _ _ _ Y1L.out rfl) (kv_info' _ Y1L.out) (kv_ones _) ?_; simp only [List.toList_toArray]))
      go_meet
      case rel => exact newVars hm Y1 Y1L.out o3 r3 _ rfl _ rfl _ _
    case rest =>
    obtain ⟨by', br3, rfl, rfl, g4, g5, vy, vr3, hm1⟩ := hcut
    have V1 := Lib.hid (V1.out.mod hm1 (fun h => h))
    have V2 := Lib.hid (V2.out.mod hm1 (fun h => h))
    have vx := vx.mod hm1 (fun h => h)
    have vr1 := vr1.mod hm1 (fun h => h)
    have vr2 := vr2.mod hm1 (fun h => h)
    have hs2 := hm1.size
    have HM := Lib.hid (HM.out.trans hm1)
    clear q20 q21 q22 q23 hm1
    obtain ⟨q10, q11, q12, q13⟩ := V1.out
    obtain ⟨W3, rfl⟩ : ∃ W3 : World, W3 = wc := ⟨_, rfl⟩
    have ly := vy.lt
    have lr3 := vr3.lt
    have lw := HM.out.size
    go_upto_region 8 with (fail)
    go_cut [12] from 38 to 43 (fun t wc => OldVars W3 by' Y2 o4 r4 t wc)
    case first =>
      go_wp2_with (first
        | (refine wpList_load_mid rfl 24 _ rfl _ _ rfl (kvCells Y1) _ vy.rng kv_under rfl (kv_info _ Y1L.out) ?_)
        | (go_at_call 8; refine (do_w Y1 _ _ _ _ _ Y1L.out _ _ _ E4.out).mono ?_; rintro e w1 ⟨rfl, hm⟩; have hne : ¬ w1.heap.size = by' := (by have := (vy.mod hm (fun h => h)).lt; omega))
        | (refine wpList_store_mid rfl 24 _ _ rfl _ _ (kvCells Y2).toArray rfl rfl (V24.kv ((vy.mod hm (fun h => h)).mod (Mod.alloc none' _ _) (fun h => h)) _ Y2L.out) (kv_info' _ Y2L.out) (kv_ones _) ?_; simp only [List.toList_toArray]))
      go_meet
      case rel => exact oldVars hm by' Y1 Y2 vy Y2L.out o4 r4 _ rfl _
    case rest =>
    obtain ⟨br4, rfl, g6, vy, vr4, hm1⟩ := hcut
    have vx := vx.mod hm1 (by simp only [just]; omega)
    have vr1 := vr1.mod hm1 (by simp only [just]; omega)
    have vr2 := vr2.mod hm1 (by simp only [just]; omega)
    have vr3 := vr3.mod hm1 (by simp only [just]; omega)
    have HM := Lib.hid (HM.out.step hm1 (fun i hi hs => by simp only [just] at hs; omega))
    clear q10 q11 q12 q13 hm1 V1 V2
    obtain ⟨f1, f2, f3⟩ := HA.out
    rw [E1.out, E2.out, E3.out, E4.out] at f1
    rw [E1.out, E3.out, E4.out] at f2
    rw [E1.out, E2.out, E3.out] at f3
    simp only [Prod.mk.injEq] at f1 f2 f3
    obtain ⟨rfl, rfl⟩ := f2
    obtain ⟨rfl, rfl⟩ := f3
    subst f1
    have a1 := vr1.c0
    have a2 := vr1.c1
    have a3 := vr2.c0
    have a4 := vr2.c1
    have a5 := vr3.c0
    have a6 := vr3.c1
    have a7 := vr4.c0
    have a8 := vr4.c1
    clear HA HAP
    go_wp2_with (first
      | (refine wpList_load_mid rfl 24 _ rfl _ _ rfl (kvCells X2) _ vx.rng kv_under rfl (kv_info _ X2L.out) ?_)
      | (refine wpList_load_mid rfl 24 _ rfl _ _ rfl (kvCells X2) _ vy.rng kv_under rfl (kv_info _ X2L.out) ?_)
      | (go_at_call 10; refine (same_c X2 X2 _ X2L.out X2L.out).mono ?_; rw [sameB_refl]; rintro e w1 ⟨rfl, hm⟩; have a1 := hm.keepsNone a1; have a2 := hm.keepsNone a2; have a3 := hm.keepsNone a3; have a4 := hm.keepsNone a4; have a5 := hm.keepsNone a5; have a6 := hm.keepsNone a6; have a7 := hm.keepsNone a7; have a8 := hm.keepsNone a8))
    go_ret
    exact ⟨rfl, (HM.out.trans hm).belowAll⟩
end Go.Proofs.Ytphkfhgeliefcaa
