/- Variables of a law over the service, once more. -/
import Derived.Test.YtphkfhgeliefcaaKvArgs
set_option linter.unusedVariables false
set_option linter.unusedSimpArgs false
namespace Go.Proofs.Ytphkfhgeliefcaa
open Go.RowKit Go.Ours

/-- Behind 'x, r = Do(..)' where x was there. -/
def OldVars (W : World) (b : Nat) (D : List (Bool × Int)) (ok : Bool) (r : Int) (t : Value) (wc : World) : Prop :=
  ∃ b' : Nat, t = .pointer (some ⟨b', 0, none⟩) ∧ W.heap.size ≤ b' ∧ V24 wc b D ∧ V30 wc b' ok r ∧ Mod (just b) W wc

theorem oldVars {W w1 : World} (hm : Mod none' W w1) (b : Nat) (E D : List (Bool × Int)) (hv : V24 W b E) (hD : D.length = 16) (ok : Bool) (r : Int) (Y : Array Value) (hY : 2 = Y.size) (u : TypeId) :
    OldVars W b D ok r (.pointer (some ⟨w1.heap.size, 0, none⟩))
      ((((w1.alloc (.cells Y u)).setCells b 0 (kvCells D)).setCell ⟨w1.heap.size, 0, none⟩ (.bool ok)).setCell ⟨w1.heap.size, 1, none⟩ (.int .i64 r)) := by
  have hl : (kvCells D).length = 32 := by rw [kvCells_length]; omega
  have hv1 := hv.mod hm (fun h => h)
  have hlt := hv1.lt
  have ma := Mod.alloc none' w1 (.cells Y u)
  have hv2 := hv1.mod ma (fun h => h)
  have hb : (w1.alloc (.cells Y u)).heap[w1.heap.size]? = some (.cells Y u) := heap_alloc_new _ _
  have hy := there_of_block hb hY
  obtain ⟨y0, h0⟩ := Option.isSome_iff_exists.1 (hy 0 (by omega)).1
  obtain ⟨y1, h1⟩ := Option.isSome_iff_exists.1 (hy 1 (by omega)).1
  have k0 := cell_setCells_other h0 b 0 (kvCells D) (by simp; omega)
  have k1 := cell_setCells_other h1 b 0 (kvCells D) (by simp; omega)
  refine ⟨_, rfl, hm.size, ⟨?_, ?_⟩, ⟨?_, ?_⟩, ?_⟩
  · refine rangeAt_setOther (rangeAt_setOther ?_ _ _ (by simp; omega)) _ _ (by simp; omega)
    exact World.rangeAt_setCells_same _ _ _ _ (by rw [hl]; exact hv2.thr)
  · exact there_setCell (there_setCell (World.there_setCells hv2.thr _ _ _) _ _) _ _
  · rw [World.cell?_setCell_other _ _ _ _ (by simp)]
    exact World.cell?_setCell_same _ _ _ k0
  · exact World.cell?_setCell_same _ _ _ (show World.cell? _ _ = some _ by rw [World.cell?_setCell_other _ _ _ _ (by simp)]; exact k1)
  · have hs := hm.size
    refine ((((hm.any (S := just b)).trans (Mod.alloc _ _ _)).step (Mod.setCells _ _ _ _) ?_).step (Mod.setCell _ _ _) ?_).step (Mod.setCell _ _ _) ?_
    all_goals (intro i hi hs; simp only [just] at hs ⊢; omega)

structure Op4 (w : World) (b : Nat) (k x a c : Int) : Prop where
  c0 : w.cell? ⟨b, 0, none⟩ = some (.int .i64 k)
  c1 : w.cell? ⟨b, 1, none⟩ = some (.int .i64 x)
  c2 : w.cell? ⟨b, 2, none⟩ = some (.int .i64 a)
  c3 : w.cell? ⟨b, 3, none⟩ = some (.int .i64 c)
theorem Op4.mod {S : Nat → Prop} {w w' : World} {b : Nat} {k x a c : Int} (h : Op4 w b k x a c) (m : Mod S w w') (hs : ¬ S b) : Op4 w' b k x a c := ⟨m.keeps h.c0 hs, m.keeps h.c1 hs, m.keeps h.c2 hs, m.keeps h.c3 hs⟩
theorem Op4.lt {w : World} {b : Nat} {k x a c : Int} (h : Op4 w b k x a c) : b < w.heap.size := lt_of_cell h.c0

end Go.Proofs.Ytphkfhgeliefcaa
