/- Rows of cells in memory behind one store, a frame, a draw. No condition. -/
import Derived.Test.YtlbfpnckoblppaaLibMem
import Derived.Deep.MidRow
set_option linter.unusedSimpArgs false
set_option linter.unusedVariables false
namespace Go.Ours
open Go.RowKit

theorem rangeAt_set {w : World} {b o : Nat} {cs : List Value} (h : w.rangeAt b o cs) (j : Nat) (v : Value) (hj : j < cs.length) : (w.setCell ⟨b, o + j, none⟩ v).rangeAt b o (cs.set j v) := by
  intro i x hx
  have hold := h j _ (List.getElem?_eq_getElem hj)
  by_cases e : i = j
  · subst e
    rw [List.getElem?_set_self hj] at hx
    obtain rfl := Option.some.inj hx
    exact World.cell?_setCell_same _ _ _ hold
  · rw [List.getElem?_set_ne (fun e' => e e'.symm)] at hx
    rw [World.cell?_setCell_other _ _ _ _ (by intro e2; injection e2; omega)]
    exact h i x hx
theorem rangeAt_setOther {w : World} {b o : Nat} {cs : List Value} (h : w.rangeAt b o cs) (p : Addr) (v : Value) (hp : p.block ≠ b) : (w.setCell p v).rangeAt b o cs := fun i x hx => by
  rw [World.cell?_setCell_other _ _ _ _ (by rintro rfl; exact hp rfl)]
  exact h i x hx
theorem there_setCell {w : World} {b o n : Nat} (h : w.there b o n) (p : Addr) (v : Value) : (w.setCell p v).there b o n := fun j hj => by
  obtain ⟨h1, h2⟩ := h j hj
  refine ⟨?_, by rw [World.frozen?_setCell]; exact h2⟩
  obtain ⟨u, hu⟩ := Option.isSome_iff_exists.1 h1
  by_cases e : p = ⟨b, o + j, none⟩
  · subst e; rw [World.cell?_setCell_same _ _ _ hu]; rfl
  · rw [World.cell?_setCell_other _ _ _ _ e, hu]; rfl
theorem Mod.range {S : Nat → Prop} {w w1 : World} (h : Mod S w w1) {b o : Nat} {cs : List Value} (hr : w.rangeAt b o cs) (hs : ¬ S b) : w1.rangeAt b o cs := fun i x hx => h.keeps (p := ⟨b, o + i, none⟩) (hr i x hx) hs
theorem Mod.there {S : Nat → Prop} {w w1 : World} (h : Mod S w w1) {b o n : Nat} (hr : w.there b o n) (hs : ¬ S b) : w1.there b o n := fun j hj => by
  obtain ⟨h1, h2⟩ := hr j hj
  obtain ⟨u, hu⟩ := Option.isSome_iff_exists.1 h1
  have hb := lt_of_cell hu
  exact ⟨by rw [h.cell (p := ⟨b, o + j, none⟩) hb hs]; exact h1, by rw [h.frozen (p := ⟨b, o + j, none⟩) hb hs]; exact h2⟩
/-- A block that is known whole. -/
theorem range_of_block {w : World} {b : Nat} {cs : List Value} {t : TypeId} {fr : Nat × Nat} (hb : w.heap[b]? = some (.cells cs.toArray t fr)) : w.rangeAt b 0 cs := fun j v hv => by
  rw [cell_of_row w b (0 + j) cs.toArray t fr hb]; simpa using hv
theorem there_of_block {w : World} {b n : Nat} {C : Array Value} {t : TypeId} (hb : w.heap[b]? = some (.cells C t (0, 0))) (hn : n = C.size) : w.there b 0 n := fun j hj => by
  refine ⟨?_, ?_⟩
  · rw [cell_of_row w b (0 + j) C t (0, 0) hb, Array.getElem?_eq_getElem (by omega)]; rfl
  · simp [World.frozen?, hb]

theorem rangeAt_nil (w : World) (b o : Nat) : w.rangeAt b o [] := fun j v h => by simp at h
theorem rangeAt_cons {w : World} {b o : Nat} {v : Value} {cs : List Value} (h : w.cell? ⟨b, o, none⟩ = some v) (hs : w.rangeAt b (o + 1) cs) : w.rangeAt b o (v :: cs) := fun j x hx => by
  cases j with
  | zero => simp at hx; subst hx; exact h
  | succ j => have := hs j x (by simpa using hx); rw [show o + (j + 1) = o + 1 + j by omega]; exact this

theorem rangeAt_setCells_other {w : World} {b' o' : Nat} {cs : List Value} (h : w.rangeAt b' o' cs) (b o : Nat) (vs : List Value) (hb : b' ≠ b) : (w.setCells b o vs).rangeAt b' o' cs := World.rangeAt_setCells_apart h b o vs (Or.inl hb)
theorem cell_setCells_other {w : World} {p : Addr} {v : Value} (h : w.cell? p = some v) (b o : Nat) (vs : List Value) (hb : p.block ≠ b) : (w.setCells b o vs).cell? p = some v := by
  rw [World.cell?_setCells_out b vs o w p (fun e => absurd e hb)]; exact h
theorem cell_setCell_other {w : World} {p : Addr} {v : Value} (h : w.cell? p = some v) (q : Addr) (u : Value) (hb : p.block ≠ q.block) : (w.setCell q u).cell? p = some v := by
  rw [World.cell?_setCell_other _ _ _ _ (by rintro rfl; exact hb rfl)]; exact h
theorem Mod.setCells (w : World) (b o : Nat) (vs : List Value) : Mod (just b) w (w.setCells b o vs) := by
  induction vs generalizing o w with
  | nil => exact Mod.refl _ _
  | cons v vs ih => exact (Mod.setIn (S := just b) rfl w v).trans (ih _ _)
theorem results_cells2 {P : Program} {fn : Func} {p q : Tmp} {t1 t2 : TypeId} (h : fn.results = #[.cell p t1, .cell q t2]) {tmps : Array Value} {w : World} {a1 a2 : Addr} {v1 v2 : Value}
    (hp : tmps.getD p undef = .pointer (some a1)) (hq : tmps.getD q undef = .pointer (some a2)) (h1 : (loadVar t1 a1).run P w = .ok v1 w) (h2 : (loadVar t2 a2).run P w = .ok v2 w) :
    (results fn tmps).run P w = .ok (.tuple #[v1, v2]) w := by
  simp only [results, h]
  simp [Sem.run_bind, Result.andThen, hp, hq, asAddr, h1, h2, -Array.getD_eq_getD_getElem?]
theorem results_cell1 {P : Program} {fn : Func} {p : Tmp} {t1 : TypeId} (h : fn.results = #[.cell p t1]) {tmps : Array Value} {w : World} {a1 : Addr} {v1 : Value}
    (hp : tmps.getD p undef = .pointer (some a1)) (h1 : (loadVar t1 a1).run P w = .ok v1 w) :
    (results fn tmps).run P w = .ok v1 w := by
  simp only [results, h]
  simp [Sem.run_bind, Result.andThen, hp, asAddr, h1, -Array.getD_eq_getD_getElem?]
theorem results_cell_tmp2 {P : Program} {fn : Func} {p u : Tmp} {t1 : TypeId} (h : fn.results = #[.cell p t1, .tmp u]) {tmps : Array Value} {w : World} {a1 : Addr} {v1 : Value}
    (hp : tmps.getD p undef = .pointer (some a1)) (h1 : (loadVar t1 a1).run P w = .ok v1 w) :
    (results fn tmps).run P w = .ok (.tuple #[v1, tmps.getD u undef]) w := by
  simp only [results, h]
  simp [Sem.run_bind, Result.andThen, hp, asAddr, h1, -Array.getD_eq_getD_getElem?]
end Go.Ours
