/- A queue's content in plain words; its functions' contracts: New, own, Len, All. No condition. -/
import Derived.Test.YtcceiicpploclaaReqsBatA
import Derived.Test.YtcceiicpploclaaReqsTxt
import Derived.Test.YtcceiicpploclaaIrQueue
set_option linter.unusedVariables false
set_option linter.unusedSimpArgs false
namespace Go.Proofs.Ytcceiicpploclaa
open Go.Abs Go.RowKit Go.Ours

theorem range2 : List.range 2 = [0, 1] := rfl
/-- A set of pairs, as a map to bools. -/
def ids (m : List (Int × Int)) : List (List PV × PV) := m.map fun p => ([.int .i64 p.1, .int .i64 p.2], .bool true)
def idel (p : Int × Int) : List (Int × Int) → List (Int × Int)
  | [] => []
  | q :: r => if p = q then r else q :: idel p r
theorem ids_key (a b c d : Int) : eqPVs [.int .i64 a, .int .i64 b] [.int .i64 c, .int .i64 d] = decide ((a, b) = (c, d)) := by
  by_cases h1 : a = c <;> by_cases h2 : b = d <;> simp [eqPVs, eqPV, h1, h2]
theorem ids_get (m : List (Int × Int)) (c s : Int) : (mfind [.int .i64 c, .int .i64 s] (ids m)).getD (.bool false) = .bool (decide ((c, s) ∈ m)) := by
  induction m with
  | nil => rfl
  | cons p r ih =>
    obtain ⟨k, v⟩ := p
    by_cases h : (c, s) = (k, v)
    · have e : mfind [.int .i64 c, .int .i64 s] (ids ((k, v) :: r)) = some (.bool true) := by simp only [ids, List.map_cons, mfind, ids_key, decide_eq_true h, if_true]
      rw [e, h]
      simp
    · have e : mfind [.int .i64 c, .int .i64 s] (ids ((k, v) :: r)) = mfind [.int .i64 c, .int .i64 s] (ids r) := by
        simp only [ids, List.map_cons, mfind, ids_key, decide_eq_false h, Bool.false_eq_true, if_false]
      rw [e, ih]
      simp only [List.mem_cons, h, false_or]
theorem ids_set (m : List (Int × Int)) (c s : Int) (h : (c, s) ∉ m) : mset [.int .i64 c, .int .i64 s] (.bool true) (ids m) = ids (m ++ [(c, s)]) := by
  induction m with
  | nil => rfl
  | cons p r ih =>
    obtain ⟨k, v⟩ := p
    have h1 : ¬ (c, s) = (k, v) := fun e => h (by rw [e]; simp)
    have h2 : (c, s) ∉ r := fun e => h (by simp [e])
    have e : mset [.int .i64 c, .int .i64 s] (.bool true) (ids ((k, v) :: r)) = ([.int .i64 k, .int .i64 v], .bool true) :: mset [.int .i64 c, .int .i64 s] (.bool true) (ids r) := by
      simp only [ids, List.map_cons, mset, ids_key, decide_eq_false h1, Bool.false_eq_true, if_false]
    rw [e, ih h2]
    rfl
theorem ids_del (m : List (Int × Int)) (c s : Int) : mdrop [.int .i64 c, .int .i64 s] (ids m) = ids (idel (c, s) m) := by
  induction m with
  | nil => rfl
  | cons p r ih =>
    obtain ⟨k, v⟩ := p
    by_cases h : (c, s) = (k, v)
    · have e : mdrop [.int .i64 c, .int .i64 s] (ids ((k, v) :: r)) = ids r := by
        simp only [ids, List.map_cons, mdrop, ids_key, decide_eq_true h, if_true]
      rw [e, h]
      simp [idel]
    · have e : mdrop [.int .i64 c, .int .i64 s] (ids ((k, v) :: r)) = ([.int .i64 k, .int .i64 v], .bool true) :: mdrop [.int .i64 c, .int .i64 s] (ids r) := by
        simp only [ids, List.map_cons, mdrop, ids_key, decide_eq_false h, Bool.false_eq_true, if_false]
      rw [e, ih]
      simp only [idel, h, if_false, ids, List.map_cons]
theorem idel_mem {p : Int × Int} : ∀ {m : List (Int × Int)}, m.Nodup → ∀ q, q ∈ idel p m ↔ q ∈ m ∧ q ≠ p
  | [], _, q => by simp [idel]
  | x :: r, h, q => by
    obtain ⟨h1, h2⟩ := List.nodup_cons.1 h
    unfold idel
    split
    · rename_i e
      subst e
      constructor
      · intro hq
        exact ⟨by simp [hq], fun e => h1 (by rw [← e]; exact hq)⟩
      · rintro ⟨hq, hne⟩
        rcases List.mem_cons.1 hq with rfl | hq
        · exact absurd rfl hne
        · exact hq
    · rename_i e
      rw [List.mem_cons, idel_mem h2, List.mem_cons]
      constructor
      · rintro (rfl | ⟨a, b⟩)
        · exact ⟨Or.inl rfl, fun e' => e e'.symm⟩
        · exact ⟨Or.inr a, b⟩
      · rintro ⟨rfl | a, b⟩
        · exact Or.inl rfl
        · exact Or.inr ⟨a, b⟩
theorem idel_nodup {p : Int × Int} : ∀ {m : List (Int × Int)}, m.Nodup → (idel p m).Nodup
  | [], _ => by simp [idel]
  | x :: r, h => by
    obtain ⟨h1, h2⟩ := List.nodup_cons.1 h
    unfold idel
    split
    · exact h2
    · exact List.nodup_cons.2 ⟨fun hq => h1 ((idel_mem h2 x).1 hq).1, idel_nodup h2⟩

def rid (r : Rq) : Int × Int := (r.client, r.seq)
/-- What a queue is made of. -/
structure QI (x : List Rq) (m : List (Int × Int)) : Prop where
  nd : m.Nodup
  un : (x.map rid).Nodup
  iff : ∀ p, p ∈ m ↔ p ∈ x.map rid
  fm : ∀ r ∈ x, formedF r = true
  nb : ∀ r ∈ x, I64 r.a ∧ I64 r.b
  le : x.length ≤ 12
theorem QI.new : QI [] [] := ⟨by simp, by simp, by simp, by simp, by simp, by simp⟩
def ksQ : List CK := [.i .i64, .i .i64]
/-- A queue's variables. -/
def qcont (x : List Rq) : AV := .agg [.os 36 7 (qrows x), .mp 1001]
def qmap (m : List (Int × Int)) : AV := .mc true [.i .i64, .i .i64] (ids m)
theorem qnew_c : ACall Try.prog 11 [] [] (.ptr 2000 0) [] [.agg [.os 36 7 (qrows []), .mp 2001], qmap []] := by
  refine ACall.fn (fn := Try.f11) rfl okQueueNew rfl (by simp) ?_
  simp only [argT, irQueueNew.eq_1]
  simp [qmap, ids, qrows, List.idxOf?_cons]
theorem own_c (r : Rq) (h : r.sig.length ≤ 10000000000) : ACall Try.prog 25 [.pagg (rqP r)] [] (.pagg (rqP r)) [] [] := by
  refine ACall.fn (fn := Try.f25) rfl okQueueOwn rfl (by simp) ?_
  simp only [argT, irQueueOwn.eq_1]
  have c := cloneA r.sig h
  simp [rqP]
  refine CallG.go c ?_
  simp
theorem len_c (x : List Rq) (m : List (Int × Int)) : ACall Try.prog 22 [.ptr 1000 0] [qcont x, qmap m] (.pv (.int .i64 (x.length : Nat))) [qcont x, qmap m] [] := by
  refine ACall.fn (fn := Try.f22) rfl okQueueQueueLen rfl (by simp) ?_
  simp only [argT, irQueueQueueLen.eq_1]
  simp [qcont, qmap, qrows_length, range2]
theorem alll (x : List Rq) (m : List (Int × Int)) (h : QI x m) : ∀ (n k : Nat), k + n = x.length → ∀ (Q : Exit → S → Prop),
    (∀ a b c d e, Q (.exit 0) (mk [(0, a), (3, .os 36 7 (qrows x)), (11, b), (12, c), (13, d), (14, e)] [(1000, qcont x), (1001, qmap m)])) →
    LoopW Try.prog [0, 3, 11, 12, 13] [1000, 1001] irQueueQueueAll_L1 (mk [(0, .ptr 1000 0), (3, .os 36 7 (qrows (x.take k))), (11, .pv (.sl 7 (qrows x))), (12, .pv (.int .i64 (x.length : Nat))), (13, .pv (.int .i64 (k : Nat)))] [(1000, qcont x), (1001, qmap m)]) Q := by
  intro n
  induction n with
  | zero =>
    intro k hk Q h1
    obtain rfl : k = x.length := by omega
    rw [List.take_length]
    refine LoopW.go irQueueQueueAll_L1.eq_1 (by simp [qcont, qmap]) ?_
    simp [qcont, qmap] at h1 ⊢
    exact h1 _ _ _ _ _
  | succ n ih =>
    intro k hk Q h1
    have i1 : k < x.length := by omega
    have i2 := h.le
    obtain ⟨r, hr⟩ : ∃ r, x[k]? = some r := ⟨_, List.getElem?_eq_getElem (by omega)⟩
    have w : IntKind.i64.wrap ((k : Int) + 1) = (k + 1 : Nat) := by rw [wrap_i64] <;> omega
    have hs := formed_small (h.fm r (List.mem_of_getElem? hr))
    have c := own_c r (by omega)
    have ht : qrows (x.take (k + 1)) = qrows (x.take k) ++ [rqP r] := by rw [List.take_add_one, hr]; simp [qrows]
    have hkl : (qrows (x.take k)).length + 1 ≤ 100000000000 := by rw [qrows_length]; simp; omega
    have ih' := ih (k + 1) (by omega) Q h1
    rw [ht] at ih'
    generalize qrows (x.take k) = rows at *
    refine LoopW.go irQueueQueueAll_L1.eq_1 (by simp [qcont, qmap]) ?_
    simp [-getElem?_pos, qcont, qmap, qrows_get, i1, hr, rqP] at c ih' ⊢
    refine CallG.go c ?_
    simp [hkl, w]
    exact ih'
theorem all_c (x : List Rq) (m : List (Int × Int)) (h : QI x m) : ACall Try.prog 15 [.ptr 1000 0] [qcont x, qmap m] (.os 36 7 (qrows x)) [qcont x, qmap m] [] := by
  refine ACall.fn (fn := Try.f15) rfl okQueueQueueAll rfl (by simp) ?_
  simp only [argT, irQueueQueueAll.eq_1]
  have lp := alll x m h x.length 0 (by omega)
  have e0 : qrows ([] : List Rq) = [] := rfl
  simp only [List.take_zero, e0, qcont, qmap] at lp
  simp [qcont, qmap, qrows_length]
  refine lp _ fun a b c d e => ?_
  simp [range2]
end Go.Proofs.Ytcceiicpploclaa
