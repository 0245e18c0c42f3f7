/- Variables of a law over the service: values, an answer, an op; the law's example. -/
import Derived.Test.YtphkfhgeliefcaaKvBad
import Derived.Test.YtphkfhgeliefcaaKvSameF
set_option linter.unusedVariables false
set_option linter.unusedSimpArgs false
namespace Go.Proofs.Ytphkfhgeliefcaa
open Go.RowKit Go.Ours

@[go_sem] theorem cell_setCells_ne {w : World} {b b' o j : Nat} {vs : List Value} (hb : ¬ b' = b) : (w.setCells b o vs).cell? ⟨b', j, none⟩ = w.cell? ⟨b', j, none⟩ :=
  World.cell?_setCells_out b vs o w ⟨b', j, none⟩ (fun e => absurd e hb)
@[go_sem] theorem frozen_setCells {w : World} {b o : Nat} {p : Addr} {vs : List Value} : (w.setCells b o vs).frozen? p = w.frozen? p := World.frozen?_setCells b vs o w p
@[go_sem] theorem size_setCells {w : World} {b o : Nat} {vs : List Value} : (w.setCells b o vs).heap.size = w.heap.size := by
  induction vs generalizing o w with
  | nil => rfl
  | cons v vs ih => rw [World.setCells, ih]; simp

structure V24 (w : World) (b : Nat) (D : List (Bool × Int)) : Prop where
  rng : w.rangeAt b 0 (kvCells D)
  thr : w.there b 0 32
structure V30 (w : World) (b : Nat) (ok : Bool) (r : Int) : Prop where
  c0 : w.cell? ⟨b, 0, none⟩ = some (.bool ok)
  c1 : w.cell? ⟨b, 1, none⟩ = some (.int .i64 r)
theorem V24.mod {S : Nat → Prop} {w w' : World} {b : Nat} {D : List (Bool × Int)} (h : V24 w b D) (m : Mod S w w') (hs : ¬ S b) : V24 w' b D := ⟨m.range h.rng hs, m.there h.thr hs⟩
theorem V30.mod {S : Nat → Prop} {w w' : World} {b : Nat} {ok : Bool} {r : Int} (h : V30 w b ok r) (m : Mod S w w') (hs : ¬ S b) : V30 w' b ok r := ⟨m.keeps h.c0 hs, m.keeps h.c1 hs⟩
theorem V24.lt {w : World} {b : Nat} {D : List (Bool × Int)} (h : V24 w b D) : b < w.heap.size := by
  obtain ⟨h1, _⟩ := h.thr 0 (by omega)
  obtain ⟨u, hu⟩ := Option.isSome_iff_exists.1 h1
  exact lt_of_cell hu
theorem V30.lt {w : World} {b : Nat} {ok : Bool} {r : Int} (h : V30 w b ok r) : b < w.heap.size := lt_of_cell h.c0

theorem kv_info (D : List (Bool × Int)) (hD : D.length = 16) : (Try.prog.info? 24).map (·.size) = some (kvCells D).length := by
  rw [kvCells_length, hD]; kernel_rfl
theorem kv_info' (D : List (Bool × Int)) (hD : D.length = 16) : (Try.prog.info? 24).map (·.size) = some (kvCells D).toArray.size := by
  rw [List.size_toArray]; exact kv_info D hD
theorem kv_under : Try.prog.underlying 24 = some (.array 16 23) := Try.underlying24
theorem kv_ones (D : List (Bool × Int)) : (kvCells D).toArray.all (·.oneCell') = true := all_oneCell_toArray (kvCells_one D)

/-- kv.Do, its answer written out. -/
theorem do_w (D : List (Bool × Int)) (kind key a b : Int) (w : World) (hD : D.length = 16) (D' : List (Bool × Int)) (ok : Bool) (r : Int) (h : kvDo D kind key a b = (D', (ok, r))) :
    Calls Try.prog 8 #[.agg (kvCells D).toArray, .agg #[.int .i64 kind, .int .i64 key, .int .i64 a, .int .i64 b]] w fun e w' =>
      e = .returned (.tuple #[.agg (kvCells D').toArray, .agg #[.bool ok, .int .i64 r]]) ∧ Mod none' w w' := by
  have := do_v D kind key a b w hD
  rw [h] at this
  exact this
theorem ref_w (D : List (Bool × Int)) (kind key a b : Int) (w : World) (hD : D.length = 16) (D' : List (Bool × Int)) (ok : Bool) (r : Int) (h : kvDo D kind key a b = (D', (ok, r))) :
    Calls Try.prog 9 #[.agg (kvCells D).toArray, .agg #[.int .i64 kind, .int .i64 key, .int .i64 a, .int .i64 b]] w fun e w' =>
      e = .returned (.tuple #[.agg (kvCells D').toArray, .agg #[.bool ok, .int .i64 r]]) ∧ Mod none' w w' := by
  have := ref_v D kind key a b w hD
  rw [h] at this
  exact this

theorem there_alloc2 (w : World) (X : Array Value) (t : TypeId) (Y : Obj) (n : Nat) (hn : n = X.size) : ((w.alloc (.cells X t)).alloc Y).there w.heap.size 0 n :=
  there_of_block (heap_alloc2_old w _ _) hn

theorem there_alloc2_kv (w : World) (X : Array Value) (t : TypeId) (Y : Obj) (D : List (Bool × Int)) (hD : D.length = 16) (hn : 32 = X.size) : ((w.alloc (.cells X t)).alloc Y).there w.heap.size 0 (kvCells D).toArray.size := by
  rw [show (kvCells D).toArray.size = 32 by simp [kvCells_length, hD]]; exact there_alloc2 w X t Y 32 hn
theorem V24.kv {w : World} {b : Nat} {D : List (Bool × Int)} (h : V24 w b D) (D' : List (Bool × Int)) (hD : D'.length = 16) : w.there b 0 (kvCells D').toArray.size := by
  rw [show (kvCells D').toArray.size = 32 by simp [kvCells_length, hD]]; exact h.thr

/-- Behind 'x, r := Do(..)': two new variables. -/
def NewVars (W : World) (D : List (Bool × Int)) (ok : Bool) (r : Int) (s t : Value) (wc : World) : Prop :=
  ∃ b b' : Nat, s = .pointer (some ⟨b, 0, none⟩) ∧ t = .pointer (some ⟨b', 0, none⟩) ∧ W.heap.size ≤ b ∧ b < b' ∧ V24 wc b D ∧ V30 wc b' ok r ∧ Mod none' W wc

theorem newVars {W w1 : World} (hm : Mod none' W w1) (D : List (Bool × Int)) (hD : D.length = 16) (ok : Bool) (r : Int) (X : Array Value) (hX : 32 = X.size) (Y : Array Value) (hY : 2 = Y.size) (t u : TypeId) :
    NewVars W D ok r (.pointer (some ⟨w1.heap.size, 0, none⟩)) (.pointer (some ⟨w1.heap.size + 1, 0, none⟩))
      (((((w1.alloc (.cells X t)).alloc (.cells Y u)).setCells w1.heap.size 0 (kvCells D)).setCell ⟨w1.heap.size + 1, 0, none⟩ (.bool ok)).setCell ⟨w1.heap.size + 1, 1, none⟩ (.int .i64 r)) := by
  have hl : (kvCells D).length = 32 := by rw [kvCells_length]; omega
  have ht := there_alloc2 w1 X t (.cells Y u) 32 hX
  have hb : ((w1.alloc (.cells X t)).alloc (.cells Y u)).heap[w1.heap.size + 1]? = some (.cells Y u) := heap_alloc2_new _ _ _
  have hy := there_of_block hb hY
  obtain ⟨y0, h0⟩ := Option.isSome_iff_exists.1 (hy 0 (by omega)).1
  obtain ⟨y1, h1⟩ := Option.isSome_iff_exists.1 (hy 1 (by omega)).1
  have k0 := cell_setCells_other h0 w1.heap.size 0 (kvCells D) (by simp)
  have k1 := cell_setCells_other h1 w1.heap.size 0 (kvCells D) (by simp)
  refine ⟨_, _, rfl, rfl, hm.size, by omega, ⟨?_, ?_⟩, ⟨?_, ?_⟩, ?_⟩
  · refine rangeAt_setOther (rangeAt_setOther ?_ _ _ (by simp)) _ _ (by simp)
    exact World.rangeAt_setCells_same _ _ _ _ (by rw [hl]; exact ht)
  · exact there_setCell (there_setCell (World.there_setCells ht _ _ _) _ _) _ _
  · rw [World.cell?_setCell_other _ _ _ _ (by simp)]
    exact World.cell?_setCell_same _ _ _ k0
  · exact World.cell?_setCell_same _ _ _ (show World.cell? _ _ = some _ by rw [World.cell?_setCell_other _ _ _ _ (by simp)]; exact k1)
  · have hs := hm.size
    refine (((hm.trans ((Mod.alloc _ _ _).trans (Mod.alloc _ _ _))).step (Mod.setCells _ _ _ _) ?_).step (Mod.setCell _ _ _) ?_).step (Mod.setCell _ _ _) ?_
    all_goals (intro i hi hs; simp only [just] at hs; omega)

def zeros : List (Bool × Int) := List.replicate 16 (false, 0)
set_option maxHeartbeats 1000000 in
theorem kv_wakes (w : World) : Calls Try.prog 7 #[] w fun e w' => e = .returned (.bool true) ∧ Mod none' w w' := by
  go_enter Try.func7, Try.ntmps7
  have hd : kvDo zeros 3 3 5 0 = (zeros.set 3 (true, 5), (true, 5)) := by decide +kernel
  have H := Lib.hid hd
  clear hd
  have hz : (zeros.set 3 (true, 5)).length = 16 := rfl
  have g : (kvCells (zeros.set 3 (true, 5)))[6]? = some (.bool true) := rfl
  have g' : (kvCells (zeros.set 3 (true, 5)))[7]? = some (.int .i64 5) := rfl
  generalize zeros.set 3 (true, 5) = Z at *
  have HZ := Lib.hid hz
  clear hz
  go_upto_region 1 with (fail)
  go_cut [1, 2] from 3 to 8 (fun s t wc => NewVars w Z true 5 s t wc)
  case first =>
    go_wp2_with (first
      | (go_at_call 8; refine (do_w zeros _ _ _ _ _ rfl _ _ _ H.out).mono ?_; rintro e w1 ⟨rfl, hm⟩)
      | (refine wpList_store_mid rfl 24 _ _ rfl _ _ (kvCells _).toArray rfl rfl (there_alloc2_kv _ _ _ _ _ HZ.out rfl) (kv_info' _ HZ.out) (kv_ones _) ?_; simp only [List.toList_toArray]))
    go_meet
    case rel => exact newVars hm Z HZ.out true 5 _ rfl _ rfl _ _
  case rest =>
    obtain ⟨b, b', rfl, rfl, hb, hbb, hv, hr, hm⟩ := hcut
    have c0 := hr.c0
    have c1 := hr.c1
    have d0 : wc.cell? ⟨b, 6, none⟩ = some (.bool true) := by simpa using hv.rng 6 _ g
    have d1 : wc.cell? ⟨b, 7, none⟩ = some (.int .i64 5) := by simpa using hv.rng 7 _ g'
    go_wp2
    go_ret
    exact ⟨rfl, hm⟩
end Go.Proofs.Ytphkfhgeliefcaa
