/- Values and ops that come in; plain laws of the service. -/
import Derived.Test.YtphkfhgeliefcaaKvVars
import Derived.Test.YtphkfhgeliefcaaLibOpen
set_option linter.unusedVariables false
set_option linter.unusedSimpArgs false
namespace Go.Proofs.Ytphkfhgeliefcaa
open Go.RowKit Go.Ours

theorem kv_of_cells : ∀ (n : Nat) (cs : List Value), cs.length = n * 2 → (∀ i, i < n → ∃ b m, (cs.drop (i * 2)).take 2 = [.bool b, .int .i64 m]) → ∃ D : List (Bool × Int), D.length = n ∧ cs = kvCells D
  | 0, cs, h, _ => ⟨[], rfl, List.eq_nil_of_length_eq_zero (by omega)⟩
  | n + 1, x :: y :: cs, h, hr => by
    obtain ⟨b, m, h0⟩ := hr 0 (by omega)
    simp at h0
    obtain ⟨rfl, rfl⟩ := h0
    obtain ⟨D, hD, rfl⟩ := kv_of_cells n cs (by simp at h; omega) (fun i hi => by
      obtain ⟨b', m', h'⟩ := hr (i + 1) (by omega)
      rw [show (i + 1) * 2 = i * 2 + 2 by omega] at h'
      exact ⟨b', m', by simpa using h'⟩)
    exact ⟨(b, m) :: D, by simp [hD], rfl⟩
  | n + 1, [], h, _ => by simp at h
  | n + 1, [_], h, _ => by simp at h; omega
theorem take_two {l : List Value} {b : Bool} {m : Int} (h1 : l.take 1 = [.bool b]) (h2 : (l.drop 1).take 1 = [.int .i64 m]) (h3 : (l.drop 1).drop 1 = []) : l = [.bool b, .int .i64 m] := by
  match l with
  | [] => simp at h1
  | [x] => simp at h2
  | x :: y :: t => simp at h1 h2 h3; subst h1 h2 h3; rfl
theorem kv_of_reads {w : World} {C : Array Value} (k : Shp.Reads w (.arr 16 (.pair .bool (.pair (.int .i64) .unit))) C.toList) : ∃ D : List (Bool × Int), D.length = 16 ∧ C = (kvCells D).toArray := by
  obtain ⟨hl, hr⟩ := k
  obtain ⟨D, h1, h2⟩ := kv_of_cells 16 C.toList hl (fun i hi => by
    obtain ⟨⟨b, hb⟩, ⟨m, hm, _⟩, hu⟩ := hr i hi
    exact ⟨b, m, take_two hb hm hu⟩)
  exact ⟨D, h1, by rw [← h2]⟩
theorem take_four {l : List Value} {a b c d : Int} (h1 : l.take 1 = [.int .i64 a]) (h2 : (l.drop 1).take 1 = [.int .i64 b]) (h3 : ((l.drop 1).drop 1).take 1 = [.int .i64 c]) (h4 : (((l.drop 1).drop 1).drop 1).take 1 = [.int .i64 d])
    (h5 : (((l.drop 1).drop 1).drop 1).drop 1 = []) : l = [.int .i64 a, .int .i64 b, .int .i64 c, .int .i64 d] := by
  match l with
  | [] => simp at h1
  | [x] => simp at h2
  | [x, y] => simp at h3
  | [x, y, z] => simp at h4
  | x :: y :: z :: u :: t => simp at h1 h2 h3 h4 h5; subst h1 h2 h3 h4 h5; rfl
theorem op_of_reads {w : World} {l : List Value} (k : Shp.Reads w (.pair (.int .i64) (.pair (.int .i64) (.pair (.int .i64) (.pair (.int .i64) .unit)))) l) : ∃ kind key a b : Int, l = [.int .i64 kind, .int .i64 key, .int .i64 a, .int .i64 b] := by
  obtain ⟨⟨a, h1, _⟩, ⟨b, h2, _⟩, ⟨c, h3, _⟩, ⟨d, h4, _⟩, h5⟩ := k
  exact ⟨a, b, c, d, take_four h1 h2 h3 h4 h5⟩

theorem allocs3 (w : World) (a b c : Obj) : (((w.alloc a).alloc b).alloc c).heap.size = w.heap.size + 3 ∧
    (((w.alloc a).alloc b).alloc c).heap[w.heap.size]? = some a ∧ (((w.alloc a).alloc b).alloc c).heap[w.heap.size + 1]? = some b ∧
    (((w.alloc a).alloc b).alloc c).heap[w.heap.size + 1 + 1]? = some c ∧ Mod none' w (((w.alloc a).alloc b).alloc c) := by
  have e : (((w.alloc a).alloc b).alloc c).heap = ((w.heap.push a).push b).push c := rfl
  rw [e]
  refine ⟨by simp, ?_, ?_, ?_, ((Mod.alloc _ _ _).trans (Mod.alloc _ _ _)).trans (Mod.alloc _ _ _)⟩ <;>
    simp only [Array.getElem?_push, Array.size_push]
  · rw [if_neg (by omega), if_neg (by omega), if_pos trivial]
  · rw [if_neg (by omega), if_pos trivial]
  · rw [if_pos trivial]

def upd (s : Bool × Int → Bool) (f : Bool × Int → Bool × Int) (k : Nat) (E : List (Bool × Int)) : List (Bool × Int) :=
  if s (E.getD k (false, 0)) then E.set k (f (E.getD k (false, 0))) else E
theorem upd_get {s : Bool × Int → Bool} {f : Bool × Int → Bool × Int} {k l : Nat} (hn : k ≠ l) (E : List (Bool × Int)) : (upd s f k E).getD l (false, 0) = E.getD l (false, 0) := by
  unfold upd
  split
  · rw [List.getD_eq_getElem?_getD, List.getElem?_set_ne hn, List.getD_eq_getElem?_getD]
  · rfl
theorem upd_comm {s s' : Bool × Int → Bool} {f f' : Bool × Int → Bool × Int} {k l : Nat} (hn : k ≠ l) (E : List (Bool × Int)) : upd s' f' l (upd s f k E) = upd s f k (upd s' f' l E) := by
  have h1 := upd_get (s := s) (f := f) hn E
  have h2 := upd_get (s := s') (f := f') (Ne.symm hn) E
  show (if s' ((upd s f k E).getD l _) then (upd s f k E).set l (f' ((upd s f k E).getD l _)) else upd s f k E) = (if s ((upd s' f' l E).getD k _) then (upd s' f' l E).set k (f ((upd s' f' l E).getD k _)) else upd s' f' l E)
  rw [h1, h2]
  unfold upd
  cases s (E.getD k (false, 0)) <;> cases s' (E.getD l (false, 0)) <;> simp [List.set_comm _ _ hn]
theorem kvDo_good (D : List (Bool × Int)) (kind key a b : Int) (h : ¬ (key < 0 ∨ 16 ≤ key ∨ kind < 1 ∨ 5 < kind)) :
    kvDo D kind key a b = (upd (fun c => sel kind (kvOne c.1 c.2 kind a b).2.1) (fun c => (kvOne c.1 c.2 kind a b).1) key.toNat D, (kvOne (D.getD key.toNat (false, 0)).1 (D.getD key.toNat (false, 0)).2 kind a b).2) := by
  unfold kvDo
  rw [if_neg h]
  rfl

/-- Two ops on unlike keys: the same in either order. -/
theorem kv_apart (D : List (Bool × Int)) (k1 x1 a1 b1 k2 x2 a2 b2 : Int) (hne : x1 ≠ x2) :
    (kvDo (kvDo D k1 x1 a1 b1).1 k2 x2 a2 b2).1 = (kvDo (kvDo D k2 x2 a2 b2).1 k1 x1 a1 b1).1 ∧
    (kvDo D k1 x1 a1 b1).2 = (kvDo (kvDo D k2 x2 a2 b2).1 k1 x1 a1 b1).2 ∧
    (kvDo (kvDo D k1 x1 a1 b1).1 k2 x2 a2 b2).2 = (kvDo D k2 x2 a2 b2).2 := by
  by_cases h1 : x1 < 0 ∨ 16 ≤ x1 ∨ k1 < 1 ∨ 5 < k1
  · simp [kvDo, h1]
  · by_cases h2 : x2 < 0 ∨ 16 ≤ x2 ∨ k2 < 1 ∨ 5 < k2
    · simp [kvDo, h2]
    · have hn : x1.toNat ≠ x2.toNat := by omega
      simp only [kvDo_good _ _ _ _ _ h1, kvDo_good _ _ _ _ _ h2]
      exact ⟨upd_comm hn D, by rw [upd_get (Ne.symm hn)], by rw [upd_get hn]⟩
end Go.Proofs.Ytphkfhgeliefcaa
