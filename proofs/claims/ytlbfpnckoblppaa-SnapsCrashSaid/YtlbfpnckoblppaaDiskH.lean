/- Walks by hand: snaps.named's search through a string, disk.files.size, maps.Clone. -/
import Derived.Test.YtlbfpnckoblppaaNumsA
import Derived.Test.YtlbfpnckoblppaaAbs2
import Derived.Laws.IdiomRangeMap
import Derived.Laws.RangeString
import Derived.Shelf.SlMaps.Clone
set_option linter.unusedVariables false
set_option linter.unusedSimpArgs false
namespace Go.Proofs.Ytlbfpnckoblppaa
open Go.RowKit Go.Ours

theorem lam_w (c : Int) (w : World) : Calls Try.prog 55 #[.int .i32 c] w fun e w' => e = .returned (.bool (decide (c < 97) || decide (122 < c))) ∧ w' = w := by
  go_enter Try.func55, Try.ntmps55
  by_cases h : c < 97
  · go_wp2
    go_ret
    simp [h]
  · by_cases h2 : 122 < c
    · go_wp2
      go_ret
      simp [h2]
    · go_wp2
      go_ret
      simp [h, h2]
set_option maxRecDepth 1000000 in
set_option maxHeartbeats 2000000 in
theorem indexFunc_w (s : ByteArray) (hs : ∀ (i : Nat) (h : i < s.size), 97 ≤ (s[i]'h).toNat ∧ (s[i]'h).toNat ≤ 122) (hl : s.size ≤ 1000) (w : World) :
    Calls Try.prog 69 #[.string s, .func (.func 55) #[] #[], .bool true] w fun e w' => e = .returned (.int .i64 (-1)) ∧ ∃ p, w' = w.iter s p := by
  have hrg := run_range_string (P := Try.prog) w 9 s Try.underlying9
  go_enter Try.func69, Try.ntmps69
  go_wp2
  go_loopw [7] (fun _ wr => ∃ pos, wr = w.iter s pos) (fun _ wr => s.size - (match wr.heap[w.heap.size]? with | some (.stringIter _ p) => p | _ => 0))
  case atStart => exact ⟨0, rfl⟩
  case round =>
    obtain ⟨pos, rfl⟩ := hrel
    by_cases hp : pos < s.size
    · have ha := hs pos hp
      have hnx : ∀ ty, (Instr.next (.pointer (some ⟨w.heap.size, 0, none⟩)) true ty).run Try.prog (w.iter s pos) = _ := fun ty => run_next_ascii w s pos ty hp (by omega)
      have h1 : ¬ (((s[pos]'hp).toNat : Nat) : Int) < 97 := by omega
      have h2 : ¬ (122 : Int) < (((s[pos]'hp).toNat : Nat) : Int) := by omega
      go_wp2_with (go_at_call 55; refine (lam_w _ _).mono ?_; rintro e w1 ⟨rfl, rfl⟩)
      go_roundw
      case rel => exact ⟨pos + 1, rfl⟩
      case measure =>
        rw [World.iter_heap, World.iter_heap]
        show s.size - (pos + 1) < s.size - pos
        omega
    · have hnx : ∀ ty, (Instr.next (.pointer (some ⟨w.heap.size, 0, none⟩)) true ty).run Try.prog (w.iter s pos) = _ := fun ty => run_next_end w s pos ty hp
      go_wp2
      go_ret
      exact ⟨rfl, pos, rfl⟩
theorem IndexFunc_w (s : ByteArray) (hs : ∀ (i : Nat) (h : i < s.size), 97 ≤ (s[i]'h).toNat ∧ (s[i]'h).toNat ≤ 122) (hl : s.size ≤ 1000) (w : World) :
    Calls Try.prog 54 #[.string s, .func (.func 55) #[] #[]] w fun e w' => e = .returned (.int .i64 (-1)) ∧ ∃ p, w' = w.iter s p := by
  go_enter Try.func54, Try.ntmps54
  go_wp2_with (go_at_call 69; refine (indexFunc_w s hs hl _).mono ?_; rintro e w1 ⟨rfl, p, rfl⟩)
  go_ret
  exact ⟨rfl, p, rfl⟩
set_option maxRecDepth 1000000 in
set_option maxHeartbeats 2000000 in
theorem mapsClone_w (b : Nat) (es : Array MapEntry) (clock : Nat) (w : World) (hb : w.heap[b]? = some (.map es clock)) :
    Calls Try.prog 38 #[.map (some b)] w fun e w' => e = .returned (.map (some w.heap.size)) ∧ w' = w.alloc (.map es clock) := by
  have hq := fun w => run_eql_map_nil_sl (P := Try.prog) w 54 _ _ (some b) Try.underlying54
  go_enter Try.func38, Try.ntmps38
  go_wp2
  rw [run_callFunc_extern Try.func52 (by kernel_rfl) (by kernel_rfl) (by kernel_rfl) (e := Extern.MapsClone.clone) (by kernel_rfl), run_maps_clone_sl w 54 hb]
  simp only [Result.andThen]
  rw [Oper.upon_value]
  go_wp2
  rw [run_typeAssert_map_sl _ 54 20 _ _ _ Try.underlying54]
  simp only [Result.andThen]
  rw [Oper.upon_value]
  go_wp2
  go_ret
  exact ⟨rfl, rfl⟩
/-- As the kit's law, with the tape. -/
theorem next_mapT {P : Program} (w : World) (ty : TypeId) (bm since c0 : Nat) (seen : Array Nat) (es : Array MapEntry) (clock : Nat) (hb : w.heap[bm]? = some (.map es clock)) (hold : ∀ x ∈ es.toList, x.born < since) (hsc : since ≤ c0) :
    ((leftOf es seen).size = 0 ∧ (Instr.next (.pointer (some ⟨w.heap.size, 0, none⟩)) false ty).run P (w.alloc (.mapIter (some bm) since seen c0)) = .ok (.tuple #[.bool false]) (w.alloc (.mapIter (some bm) since seen c0))) ∨
    ∃ e ∈ (leftOf es seen).toList, ∃ w1 : World, (w1.Alike w ∧ w1.tape = w.tape) ∧ (Instr.next (.pointer (some ⟨w.heap.size, 0, none⟩)) false ty).run P (w.alloc (.mapIter (some bm) since seen c0)) = .ok (.tuple #[.bool true, e.key, e.val]) (w1.alloc (.mapIter (some bm) since (seen.push e.born) clock)) := by
  have hlt : bm < w.heap.size := by
    rcases Nat.lt_or_ge bm w.heap.size with h | h
    · exact h
    · simp [Array.getElem?_eq_none h] at hb
  have hb' : (w.alloc (.mapIter (some bm) since seen c0)).heap[bm]? = some (.map es clock) := by rw [heap_alloc_old w _ hlt, hb]
  simp only [Instr.next, getObj, Sem.run_bind, Sem.run, heap_alloc_new, hb', Result.andThen, next_test_false seen es since c0 hold hsc, Bool.false_eq_true, if_false]
  unfold leftOf
  have hmem : ∀ x ∈ (Array.filter (fun e => !seen.contains e.born) es).toList, x.born < since := fun x hx => hold x (by simp at hx ⊢; exact hx.1)
  generalize Array.filter (fun e => !seen.contains e.born) es = L at hmem ⊢
  have e1 : L.filter (fun x => decide (x.born < since)) = L := Array.filter_eq_self.2 (fun x hx => by simpa using hmem x (by simpa using hx))
  have e2 : L.filter (fun x => decide (x.born ≥ since)) = #[] := by
    rw [Array.filter_eq_empty_iff]
    intro x hx
    have := hmem x (by simpa using hx)
    simp
    omega
  simp only [e1, e2, Array.append_empty]
  by_cases h0 : L.size = 0
  · left
    have : L = #[] := Array.eq_empty_of_size_eq_zero h0
    subst this
    refine ⟨rfl, ?_⟩
    simp [choose, Sem.run, Question.forced]
  · right
    have hne : L.isEmpty = false := by simp [Array.isEmpty, h0]
    simp only [hne, Bool.false_eq_true, if_false, Array.empty_append, Array.size_map]
    have hch : ∃ (j : Nat) (w1 : World), j < L.size ∧ (w1.Alike w ∧ w1.tape = w.tape) ∧ (choose (Question.mapNext L.size)).run P (w.alloc (.mapIter (some bm) since seen c0)) = .ok j (w1.alloc (.mapIter (some bm) since seen c0)) := by
      by_cases hf : L.size ≤ 1
      · exact ⟨0, w, by omega, ⟨⟨rfl, rfl, rfl⟩, rfl⟩, by simp [choose, Sem.run, Question.forced, hf]⟩
      · exact ⟨_, w.drew, Nat.mod_lt _ (by omega), ⟨⟨rfl, rfl, rfl⟩, rfl⟩, by
          simp only [choose, Sem.run, Question.forced, decide_eq_true_eq, hf, if_false, Question.cut]
          rfl⟩
    obtain ⟨j, w1, hj, hal, hrun⟩ := hch
    refine ⟨L[j], by simp, w1, hal, ?_⟩
    have hsz : w1.heap.size = w.heap.size := by rw [hal.1.1]
    have hp : ∀ (h : Array Obj) (x y : Obj), (h.push x).setIfInBounds h.size y = h.push y := by
      intro h x y
      apply Array.toList_inj.1
      simp
    have hset : ∀ (a : Option Nat) (b : Nat) (c : Array Nat) (d : Nat) (o' : Obj), (setObj w.heap.size o').run P (w1.alloc (.mapIter a b c d)) = .ok () (w1.alloc o') := fun a b c d o' => by
      simp only [setObj, Sem.run]
      rw [← hsz, heap_alloc_new]
      show Result.ok () ({ w1.alloc (.mapIter a b c d) with heap := (w1.heap.push (.mapIter a b c d)).setIfInBounds w1.heap.size o' } : World) = _
      rw [hp]
      rfl
    simp only [hrun, Array.getElem?_map, Array.getElem?_eq_getElem hj, Option.map_some, Sem.run_bind, hset, Result.andThen]
    rfl
/-- How long a slice is. -/
def lenV : Value → Int
  | .slice _ n _ => (n : Nat)
  | _ => 0
def lenE (e : MapEntry) : MapEntry := { e with val := .int .i64 (lenV e.val) }
theorem seen_len (seen : Array Nat) (e : MapEntry) (hs : seen.contains e.born = false) (es : List MapEntry) (hn : (es.map (·.born)).Nodup) (he : e ∈ es) : seenSum (es.map lenE) (seen.push e.born) = seenSum (es.map lenE) seen + lenV e.val := by
  have := seenSum_push seen (lenE e) hs (es.map lenE) (by rw [List.map_map]; exact hn) (List.mem_map_of_mem he)
  exact this
set_option maxRecDepth 1000000 in
set_option maxHeartbeats 2000000 in
theorem size_w (bm : Nat) (es : Array MapEntry) (clock : Nat) (w : World) (hb : w.heap[bm]? = some (.map es clock)) (hst1 : ∀ x ∈ es.toList, x.born < clock) (hst2 : (es.toList.map (·.born)).Nodup) (hv : ∀ x ∈ es.toList, ∃ A n c, x.val = .slice A n c) :
    Calls Try.prog 43 #[.map (some bm)] w fun e w' => e = .returned (.int .i64 (wrap64 ((es.toList.map fun e => lenV e.val).sum))) ∧ ∃ (w1 : World) (seen : Array Nat), (w1.Alike w ∧ w1.tape = w.tape) ∧ w' = w1.alloc (.mapIter (some bm) clock seen clock) := by
  have hrg := run_range_map (P := Try.prog) w 54 9 22 bm es clock Try.underlying54 hb
  go_enter Try.func43, Try.ntmps43
  go_wp2
  go_loopw [3] (fun s w' => ∃ (w1 : World) (seen : Array Nat), (w1.Alike w ∧ w1.tape = w.tape) ∧ w' = w1.alloc (.mapIter (some bm) clock seen clock) ∧ s = .int .i64 (wrap64 (seenSum (es.toList.map lenE) seen))) (fun _ w' => (leftOf es (w'.iterSeen w.heap.size)).size)
  case atStart => exact ⟨w, #[], ⟨⟨rfl, rfl, rfl⟩, rfl⟩, rfl, by rw [seenSum_none]; simp [wrap64]⟩
  case round =>
    obtain ⟨w1, seen, hal, rfl, rfl⟩ := hrel
    have hsz : w1.heap.size = w.heap.size := by rw [hal.1.1]
    have hb1 : w1.heap[bm]? = some (.map es clock) := by rw [hal.1.1]; exact hb
    have law := next_mapT (P := Try.prog) w1 0 bm clock clock seen es clock hb1 hst1 (Nat.le_refl _)
    rw [hsz] at law
    rcases law with ⟨h0, hrun⟩ | ⟨e, he, w2, hal2, hrun⟩
    · have hnx : ∀ ty, (Instr.next (.pointer (some ⟨w.heap.size, 0, none⟩)) false ty).run Try.prog (w1.alloc (.mapIter (some bm) clock seen clock)) = _ := fun _ => hrun
      go_wp2
      go_ret
      have e0 : seenSum (es.toList.map lenE) seen = (es.toList.map fun e => lenV e.val).sum := by
        rw [seenSum_full seen _ (fun x hx => by
          obtain ⟨y, hy, rfl⟩ := List.mem_map.1 hx
          exact all_seen es seen h0 y hy)]
        rw [List.map_map]
        rfl
      rw [e0]
      exact ⟨rfl, w1, seen, hal, rfl⟩
    · obtain ⟨A, n, c, hval⟩ := hv e (mem_left he).1
      rw [hval] at hrun
      have hnx : ∀ ty, (Instr.next (.pointer (some ⟨w.heap.size, 0, none⟩)) false ty).run Try.prog (w1.alloc (.mapIter (some bm) clock seen clock)) = _ := fun _ => hrun
      have hsz2 : w2.heap.size = w.heap.size := by rw [hal2.1.1, hal.1.1]
      have hb2 : w2.heap[bm]? = some (.map es clock) := by rw [hal2.1.1]; exact hb1
      have hen := run_entry_map (P := Try.prog) w2 bm clock seen es clock e hb2 (mem_left he).1 hst2
      rw [hsz2, hval] at hen
      go_wp2
      go_roundw
      case rel =>
        refine ⟨w2, seen.push e.born, ⟨⟨hal2.1.1.trans hal.1.1, hal2.1.2.1.trans hal.1.2.1, hal2.1.2.2.trans hal.1.2.2⟩, hal2.2.trans hal.2⟩, rfl, ?_⟩
        rw [seen_len seen e (mem_left he).2 es.toList hst2 (mem_left he).1, hval]
        have e3 : ∀ x : Int, wrap64 (wrap64 x + n) = wrap64 (x + n) := fun x => by
          simp only [wrap64]
          omega
        rw [e3]
        rfl
      case measure =>
        rw [← hsz2, World.iterSeen_alloc, hsz2, ← hsz, World.iterSeen_alloc]
        exact left_shrinks es seen e he
end Go.Proofs.Ytlbfpnckoblppaa
