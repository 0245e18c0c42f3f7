/- The walk of consistorylaw14.KvDoes: any ops, one behind the other, come to what the document says. -/
import Derived.Test.YtphkfhgeliefcaaKvOps
set_option linter.unusedVariables false
set_option linter.unusedSimpArgs false
namespace Go.Proofs.Ytphkfhgeliefcaa
open Go.RowKit Go.Ours

theorem op_cells {w : World} {a2 : Option Addr} {l2 c2 : Nat} (k2 : Shp.Reads w (.slice (.pair (.int .i64) (.pair (.int .i64) (.pair (.int .i64) (.pair (.int .i64) .unit))))) [.slice a2 l2 c2]) {k : Nat} (hk : k < l2) :
    ∃ b o p x y z, a2 = some ⟨b, o, none⟩ ∧ w.cell? ⟨b, o + k * 4, none⟩ = some (.int .i64 p) ∧ w.cell? ⟨b, o + k * 4 + 1, none⟩ = some (.int .i64 x) ∧ w.cell? ⟨b, o + k * 4 + 2, none⟩ = some (.int .i64 y) ∧ w.cell? ⟨b, o + k * 4 + 3, none⟩ = some (.int .i64 z) := by
  obtain ⟨h1, h2, h3⟩ := len_of_reads k2
  cases a2 with
  | none => have := (h3 rfl).1; omega
  | some a =>
    obtain ⟨b, o, rfl, vs, hl, hc, hr⟩ := elem_of_reads k2 (by simp [Shp.size]) (i := k) (by omega)
    obtain ⟨p, x, y, z, rfl⟩ := op_of_reads hr
    simp only [Shp.size, Nat.reduceAdd] at hc
    exact ⟨b, o, p, x, y, z, rfl, by simpa using hc 0 (by omega), by simpa using hc 1 (by omega), by simpa using hc 2 (by omega), by simpa using hc 3 (by omega)⟩

/-- What holds at the head of each round. -/
def KR (w : World) (bd : Nat) (l : Nat) (i : Value) (wr : World) : Prop :=
  ∃ k : Nat, k ≤ l ∧ i = .int .i64 k ∧ ∃ E : List (Bool × Int), E.length = 16 ∧ V24 wr w.heap.size E ∧ V24 wr bd E ∧ Mod none' w wr

theorem swap_vars {w W : World} {bd bx by' : Nat} {X : List (Bool × Int)} (h0 : ¬ bx = w.heap.size) (h1 : ¬ bx = bd) (h2 : ¬ by' = w.heap.size) (h3 : ¬ by' = bd) (h4 : ¬ w.heap.size = bd)
    (hX : X.length = 16) (t0 : W.there w.heap.size 0 32) (td : W.there bd 0 32) (hM : Mod none' w W) (hb : w.heap.size < bd) :
    V24 ((W.setCells w.heap.size 0 (kvCells X)).setCells bd 0 (kvCells X)) w.heap.size X ∧ V24 ((W.setCells w.heap.size 0 (kvCells X)).setCells bd 0 (kvCells X)) bd X ∧ Mod none' w ((W.setCells w.heap.size 0 (kvCells X)).setCells bd 0 (kvCells X)) := by
  have hl : (kvCells X).length = 32 := by rw [kvCells_length]; omega
  have a0 := World.rangeAt_setCells_same W w.heap.size 0 (kvCells X) (by rw [hl]; exact t0)
  have b0 := World.rangeAt_setCells_same (W.setCells w.heap.size 0 (kvCells X)) bd 0 (kvCells X) (by rw [hl]; exact World.there_setCells td _ _ _)
  refine ⟨⟨rangeAt_setCells_other a0 _ _ _ h4, World.there_setCells (World.there_setCells t0 _ _ _) _ _ _⟩, ⟨b0, World.there_setCells (World.there_setCells td _ _ _) _ _ _⟩, ?_⟩
  refine (hM.step (Mod.setCells _ _ _ _) ?_).step (Mod.setCells _ _ _ _) ?_
  all_goals (intro i hi hs; simp only [just] at hs; omega)

set_option maxHeartbeats 2000000 in
theorem walkKvDoes (c0 : Array Value) (a1 : Option Addr) (l1 c1 : Nat) (w : World) (k0 : Shp.Reads w (.arr 16 (.pair .bool (.pair (.int .i64) .unit))) c0.toList) (k1 : Shp.Reads w (.slice (.pair (.int .i64) (.pair (.int .i64) (.pair (.int .i64) (.pair (.int .i64) .unit))))) [.slice a1 l1 c1]) :
    Calls Try.prog 3 #[.agg c0, .slice a1 l1 c1] w fun e w' => e = .returned (.bool true) ∧ Below w.heap.size w w' := by
  obtain ⟨D, hD, rfl⟩ := kv_of_reads k0
  have HA := Lib.hid (fun k (hk : k < l1) => op_cells k1 hk)
  clear k0 k1
  have DL := Lib.hid hD
  clear hD
  go_enter Try.func3, Try.ntmps3
  go_upto_region 1 with (fail)
  generalize hW : (World.alloc w _) = W
  have hb0 : W.heap[w.heap.size]? = some (.cells (kvCells D).toArray 24) := by rw [← hW]; exact heap_alloc_new _ _
  have hM : Mod none' w W := by rw [← hW]; exact Mod.alloc _ _ _
  clear hW
  have v0 : V24 W w.heap.size D := ⟨range_of_block hb0, there_of_block hb0 (by simp [kvCells_length, DL.out])⟩
  clear hb0
  go_upto_region 3 with (go_at_call 7; refine (kv_wakes _).mono ?_; rintro e w0 ⟨rfl, hm0⟩)
  have v0 := v0.mod hm0 (fun h => h)
  have hM := hM.trans hm0
  clear hm0
  have l0 := v0.lt
  by_cases hbig : (100 : Int) < (l1 : Int)
  · go_wp2
    go_ret
    exact ⟨rfl, hM.belowAll⟩
  · have hl1 : l1 ≤ 100 := by omega
    have HM := Lib.hid hM
    clear hM
    go_upto_region 5 with (fail)
    go_cut [5] from 17 to 17 (fun s wc => ∃ bd : Nat, s = .pointer (some ⟨bd, 0, none⟩) ∧ w.heap.size < bd ∧ V24 wc w.heap.size D ∧ V24 wc bd D ∧ Mod none' w wc)
    case first =>
      go_wp2_with (first
        | (refine wpList_load_mid rfl 24 _ rfl _ _ rfl (kvCells D) _ v0.rng kv_under rfl (kv_info _ DL.out) ?_)
        | (refine wpList_store_mid rfl 24 _ _ rfl _ _ (kvCells _).toArray rfl rfl (by rw [show (kvCells D).toArray.size = 32 by simp [kvCells_length, DL.out]]; exact there_of_block (heap_alloc_new _ _) rfl) (kv_info' _ DL.out) (kv_ones _) ?_; simp only [List.toList_toArray]))
      go_meet
      case rel =>
        have hl : (kvCells D).length = 32 := by rw [kvCells_length, DL.out]
        refine ⟨_, rfl, l0, ?_, ⟨?_, ?_⟩, ?_⟩
        · exact (v0.mod (Mod.alloc none' _ _) (fun h => h)).mod (Mod.setCells _ _ _ _) (by simp only [just]; omega)
        · exact World.rangeAt_setCells_same _ _ _ _ (by rw [hl]; exact there_of_block (heap_alloc_new _ _) rfl)
        · exact World.there_setCells (there_of_block (heap_alloc_new _ _) rfl) _ _ _
        · exact (HM.out.trans (Mod.alloc _ _ _)).step (Mod.setCells _ _ _ _) (fun i hi hs => by simp only [just] at hs; omega)
    case rest =>
    obtain ⟨bd, rfl, hbd, v0, vd, hM⟩ := hcut
    go_wp2_with (fail)
    go_loopw [20] (fun i wr => KR w bd l1 i wr) (fun i _ => l1 - (intOf i).toNat)
    case atStart => exact ⟨0, by omega, rfl, D, DL.out, v0, vd, hM⟩
    case round =>
      clear v0 vd hM
      obtain ⟨k, hk, rfl, E, hE, v0, vd, hM⟩ := hrel
      have EL := Lib.hid hE
      clear hE
      by_cases hlt : k < l1
      · obtain ⟨bo, oo, p, x, a, b, rfl, e0, e1, e2, e3⟩ := HA.out k hlt
        have e0 := hM.keepsNone e0
        have e1 := hM.keepsNone e1
        have e2 := hM.keepsNone e2
        have e3 := hM.keepsNone e3
        obtain ⟨⟨X, ok, r⟩, h1⟩ : ∃ z, kvDo E p x a b = z := ⟨_, rfl⟩
        have E1 := Lib.hid h1
        have XL : Hid (X.length = 16) := by have := kvDo_length E p x a b; rw [h1, EL.out] at this; exact this
        clear h1
        have m0 := Mod.alloc none' wr (.cells #[.int .i64 p, .int .i64 x, .int .i64 a, .int .i64 b] 28)
        have v0 := v0.mod m0 (fun h => h)
        have vd := vd.mod m0 (fun h => h)
        have HM := Lib.hid (hM.trans m0)
        have V1 : Hid (Op4 (wr.alloc (.cells #[.int .i64 p, .int .i64 x, .int .i64 a, .int .i64 b] 28)) wr.heap.size p x a b) := ⟨by simp, by simp, by simp, by simp⟩
        clear m0 hM
        go_upto_region 9 with (fail)
        generalize wr.alloc (.cells #[.int .i64 p, .int .i64 x, .int .i64 a, .int .i64 b] 28) = W0 at *
        generalize wr.heap.size = b8 at *
        clear e0 e1 e2 e3
        obtain ⟨q10, q11, q12, q13⟩ := V1.out
        go_cut [8, 9] from 24 to 29 (fun s t wc => NewVars W0 X ok r s t wc)
        case first =>
          go_wp2_with (first
            | (refine wpList_load_mid rfl 24 _ rfl _ _ rfl (kvCells E) _ v0.rng kv_under rfl (kv_info _ EL.out) ?_)
            | (go_at_call 8; refine (do_w E _ _ _ _ _ EL.out _ _ _ E1.out).mono ?_; rintro e w1 ⟨rfl, hm⟩)
            | (refine wpList_store_mid rfl 24 _ _ rfl _ _ (kvCells X).toArray rfl rfl (there_alloc2_kv _ _ _ _ _ XL.out rfl) (kv_info' _ XL.out) (kv_ones _) ?_; simp only [List.toList_toArray]))
          go_meet
          case rel => exact newVars hm X XL.out ok r _ rfl _ rfl _ _
        case rest =>
        obtain ⟨bx, b1, rfl, rfl, g0, g0', vbx, vb1, hm1⟩ := hcut
        have V1 := Lib.hid (V1.out.mod hm1 (fun h => h))
        have l00 := v0.lt
        have ld0 := vd.lt
        have v0 := v0.mod hm1 (fun h => h)
        have vd := vd.mod hm1 (fun h => h)
        have hs0 := hm1.size
        have HM := Lib.hid (HM.out.trans hm1)
        clear q10 q11 q12 q13 hm1
        obtain ⟨q10, q11, q12, q13⟩ := V1.out
        obtain ⟨W1, rfl⟩ : ∃ W1 : World, W1 = wc := ⟨_, rfl⟩
        go_upto_region 10 with (fail)
        go_cut [10, 11] from 30 to 35 (fun s t wc => NewVars W1 X ok r s t wc)
        case first =>
          go_wp2_with (first
            | (refine wpList_load_mid rfl 24 _ rfl _ _ rfl (kvCells E) _ vd.rng kv_under rfl (kv_info _ EL.out) ?_)
            | (go_at_call 9; refine (ref_w E _ _ _ _ _ EL.out _ _ _ E1.out).mono ?_; rintro e w1 ⟨rfl, hm⟩)
            | (refine wpList_store_mid rfl 24 _ _ rfl _ _ (kvCells X).toArray rfl rfl (there_alloc2_kv _ _ _ _ _ XL.out rfl) (kv_info' _ XL.out) (kv_ones _) ?_; simp only [List.toList_toArray]))
          go_meet
          case rel => exact newVars hm X XL.out ok r _ rfl _ rfl _ _
        case rest =>
        obtain ⟨by1, b2, rfl, rfl, g1, g1', vby1, vb2, hm1⟩ := hcut
        have V1 := Lib.hid (V1.out.mod hm1 (fun h => h))
        have l01 := v0.lt
        have ld1 := vd.lt
        have v0 := v0.mod hm1 (fun h => h)
        have vd := vd.mod hm1 (fun h => h)
        have vbx := vbx.mod hm1 (fun h => h)
        have vb1 := vb1.mod hm1 (fun h => h)
        have hs1 := hm1.size
        have HM := Lib.hid (HM.out.trans hm1)
        clear q10 q11 q12 q13 hm1
        obtain ⟨q10, q11, q12, q13⟩ := V1.out
        obtain ⟨W2, rfl⟩ : ∃ W2 : World, W2 = wc := ⟨_, rfl⟩
        have x1 := vb1.c0
        have x2 := vb1.c1
        have x3 := vb2.c0
        have x4 := vb2.c1
        clear q10 q11 q12 q13
        go_upto_region 13 with (first
          | (refine wpList_load_mid rfl 24 _ rfl _ _ rfl (kvCells X) _ vbx.rng kv_under rfl (kv_info _ XL.out) ?_)
          | (refine wpList_load_mid rfl 24 _ rfl _ _ rfl (kvCells X) _ vby1.rng kv_under rfl (kv_info _ XL.out) ?_)
          | (go_at_call 10; refine (same_c X X _ XL.out XL.out).mono ?_; rw [sameB_refl]; rintro e W3 ⟨rfl, hm3⟩; have x1 := hm3.keepsNone x1; have x2 := hm3.keepsNone x2; have x3 := hm3.keepsNone x3; have x4 := hm3.keepsNone x4))
        have v0 := v0.mod hm3 (fun h => h)
        have vd := vd.mod hm3 (fun h => h)
        have vx := vbx.mod hm3 (fun h => h)
        have vy := vby1.mod hm3 (fun h => h)
        have HM := Lib.hid (HM.out.trans hm3)
        clear x1 x2 x3 x4 vb1 vb2 hm3 V1 vbx vby1
        have n1 : ¬ bx = w.heap.size := by omega
        have n2 : ¬ bx = bd := by omega
        have n3 : ¬ by1 = w.heap.size := by omega
        have n4 : ¬ by1 = bd := by omega
        have n5 : ¬ w.heap.size = bd := by omega
        have x1 : W3.drew.rangeAt bx 0 (kvCells X) := vx.rng
        have x2 : W3.drew.rangeAt by1 0 (kvCells X) := vy.rng
        have x3 : W3.drew.there w.heap.size 0 32 := v0.thr
        have x4 : W3.drew.there bd 0 32 := vd.thr
        have hu := kv_under
        have hi := kv_info X XL.out
        have hlen2 : (kvCells X).length = 32 := by rw [kvCells_length, XL.out]
        have hone2 := kvCells_one X
        have ht0 : W3.drew.there w.heap.size 0 (kvCells X).toArray.size := by rw [show (kvCells X).toArray.size = 32 by simp [hlen2]]; exact x3
        have ht1 : (W3.drew.setCells w.heap.size 0 (kvCells X)).there bd 0 (kvCells X).toArray.size := by rw [show (kvCells X).toArray.size = 32 by simp [hlen2]]; exact World.there_setCells x4 _ _ _
        have hi' := kv_info' X XL.out
        have h1' := kv_ones X
        refine wp_region_held_drew (S := fun w' => w'.rangeAt bx 0 (kvCells X) ∧ w'.rangeAt by1 0 (kvCells X) ∧ w'.there w.heap.size 0 32 ∧ w'.there bd 0 32) (by kernel_rfl) ⟨x1, x2, x3, x4⟩ (fun hS => ?_)
        refine wpAnyH_take (i := 0) (v := .agg (kvCells X).toArray) rfl (by kernel_rfl) (by kernel_rfl) (by kernel_rfl) (fun _ _ _ h => h) (yieldsIf_load_mid (by rfl) _ _ rfl bx 0 rfl (kvCells X) _ (fun w h => h.1) hu rfl hi) hS ?_
        simp only [Act.put, List.setIfInBounds_toArray, List.set_cons_zero, List.set_cons_succ]
        refine wpAnyH_take (i := 1) (v := .agg (kvCells X).toArray) rfl (by kernel_rfl) (by kernel_rfl) (by kernel_rfl) (fun _ _ _ h => h) (yieldsIf_load_mid (by rfl) _ _ rfl by1 0 rfl (kvCells X) _ (fun w h => h.2.1) hu rfl hi) hS ?_
        simp only [Act.put, List.setIfInBounds_toArray, List.set_cons_zero, List.set_cons_succ]
        refine wpAnyH_ready (rs := [2]) (by kernel_rfl) (by simp) ?_
        refine AllReadyH.cons rfl (fun K hK => ?_) AllReadyH.nil
        rw [if_pos (by rfl)]
        refine wp_store_mid _ _ _ rfl _ _ (kvCells X).toArray rfl rfl ht0 hi' h1' ?_
        simp only [List.toList_toArray]
        refine hK.out _ _ ⟨rangeAt_setCells_other x1 _ _ _ n1, rangeAt_setCells_other x2 _ _ _ n3, World.there_setCells x3 _ _ _, World.there_setCells x4 _ _ _⟩ (fun hS2 => ?_)
        clear hK K
        simp only [Act.put]
        refine wpAnyH_ready (rs := [3]) (by kernel_rfl) (by simp) ?_
        refine AllReadyH.cons rfl (fun K hK => ?_) AllReadyH.nil
        rw [if_pos (by rfl)]
        refine wp_store_mid _ _ _ rfl _ _ (kvCells X).toArray rfl rfl ht1 hi' h1' ?_
        simp only [List.toList_toArray]
        refine hK.out _ _ ⟨rangeAt_setCells_other (rangeAt_setCells_other x1 _ _ _ n1) _ _ _ n2, rangeAt_setCells_other (rangeAt_setCells_other x2 _ _ _ n3) _ _ _ n4, World.there_setCells (World.there_setCells x3 _ _ _) _ _ _, World.there_setCells (World.there_setCells x4 _ _ _) _ _ _⟩ (fun hS3 => ?_)
        clear hK K
        simp only [Act.put]
        refine wpAnyH_done (by kernel_rfl) ?_ _
        clear hS hS2 hS3 ht0 ht1 hi' h1'
        clear hu hi hone2
        obtain ⟨y1, y2, y3⟩ := swap_vars n1 n2 n3 n4 n5 XL.out x3 x4 (HM.out.trans (Mod.drew _ _)) hbd
        have Y1 := Lib.hid y1
        have Y2 := Lib.hid y2
        have Y3 := Lib.hid y3
        clear y1 y2 y3 x1 x2 x3 x4 v0 vd vx vy
        go_wp2
        exact ⟨⟨k + 1, by omega, by go_num, X, XL.out, Y1.out, Y2.out, Y3.out⟩, by simp [intOf]; omega⟩
      · have HM := Lib.hid hM
        clear hM v0 vd
        go_wp2
        go_ret
        exact ⟨rfl, HM.out.belowAll⟩
end Go.Proofs.Ytphkfhgeliefcaa
