/- The walk of kv.one: what an op does to one cell, at every cell and op. -/
import Derived.Test.YtphkfhgeliefcaaLibMem
import Derived.RegionTactic
import Derived.ChangeAlike
import Derived.BigRegion
import Derived.Deep.RegionWith
import Derived.Deep.RegionHeld3
set_option linter.unusedVariables false
set_option linter.unusedSimpArgs false
namespace Go.Proofs.Ytphkfhgeliefcaa
open Go.RowKit Go.Ours

/-- What 'one' does to a cell (There, N): the cell, OK, N. -/
def kvOne (there : Bool) (n kind a b : Int) : (Bool × Int) × (Bool × Int) :=
  if kind = 1 then ((there, if there then n else 0), (there, if there then n else 0))
  else if kind = 2 then ((true, a), (true, if there then n else 0))
  else if kind = 3 then ((true, wrap64 ((if there then n else 0) + a)), (true, wrap64 ((if there then n else 0) + a)))
  else if kind = 4 then (if there = true ∧ n = a then ((true, b), (true, b)) else ((there, if there then n else 0), (false, if there then n else 0)))
  else ((false, 0), (there, if there then n else 0))

def twoRes (p : (Bool × Int) × (Bool × Int)) : Value := .tuple #[.agg #[.bool p.1.1, .int .i64 p.1.2], .agg #[.bool p.2.1, .int .i64 p.2.2]]

theorem modA {w w' : World} (h : Mod none' w w') (o : Obj) : Mod none' w (w'.alloc o) := h.trans (Mod.alloc _ _ _)
theorem modD {w w' : World} (h : Mod none' w w') : Mod none' w w'.drew := h.trans (Mod.drew _ _)

set_option maxHeartbeats 400000 in
theorem some_c (n : Int) (w : World) :
    Calls Try.prog 17 #[.int .i64 n] w fun e w' => e = .returned (.agg #[.bool true, .int .i64 n]) ∧ w' = w.alloc (.cells #[.bool true, .int .i64 n] 23) := by
  go_enter Try.func17, Try.ntmps17
  go_wp2
  exact bodyPost_ret (v := .agg #[.bool true, .int .i64 n]) (by simp [results, Try.results17, go_sem]) rfl ⟨rfl, rfl⟩

set_option maxHeartbeats 1000000 in
theorem one_get_false (n key a b : Int) (w : World) :
    Calls Try.prog 13 #[.agg #[.bool false, .int .i64 n], .agg #[.int .i64 1, .int .i64 key, .int .i64 a, .int .i64 b]] w fun e w' =>
      e = .returned (twoRes ((false, 0), (false, 0))) ∧ Mod none' w w' := by
    go_enter Try.func13, Try.ntmps13
    go_wp2
    go_region
    go_wp2
    all_goals exact bodyPost_ret (v := twoRes ((false, 0), (false, 0))) (by simp [results, Try.results13, go_sem, twoRes]) rfl ⟨rfl, by repeat (first | exact Mod.refl _ _ | refine modD ?_ | refine modA ?_ _)⟩

set_option maxHeartbeats 1000000 in
theorem one_put_false (n key a b : Int) (w : World) :
    Calls Try.prog 13 #[.agg #[.bool false, .int .i64 n], .agg #[.int .i64 2, .int .i64 key, .int .i64 a, .int .i64 b]] w fun e w' =>
      e = .returned (twoRes ((true, a), (true, 0))) ∧ Mod none' w w' := by
    go_enter Try.func13, Try.ntmps13
    go_wp2_with (fail)
    go_region_held3 (fun w' => w'.cell? ⟨w.heap.size, 1, none⟩ = some (.int .i64 0) ∧ w'.cell? ⟨w.heap.size + 1, 2, none⟩ = some (.int .i64 a)) ((refine ⟨?_, ?_⟩ <;> go_simp))
      (first | (go_at_call 17; refine (some_c _ _).mono ?_; rintro e w' ⟨rfl, rfl⟩))
    all_goals go_wp2
    all_goals exact bodyPost_ret (v := twoRes ((true, a), (true, 0))) (by simp [results, Try.results13, go_sem, twoRes]) rfl ⟨rfl, by repeat (first | exact Mod.refl _ _ | refine modD ?_ | refine modA ?_ _)⟩

set_option maxHeartbeats 1000000 in
theorem one_add_false (n key a b : Int) (w : World) :
    Calls Try.prog 13 #[.agg #[.bool false, .int .i64 n], .agg #[.int .i64 3, .int .i64 key, .int .i64 a, .int .i64 b]] w fun e w' =>
      e = .returned (twoRes ((true, wrap64 a), (true, wrap64 a))) ∧ Mod none' w w' := by
    go_enter Try.func13, Try.ntmps13
    go_wp2_with (go_at_call 17; refine (some_c _ _).mono ?_; rintro e w' ⟨rfl, rfl⟩)
    go_region
    go_wp2
    all_goals exact bodyPost_ret (v := twoRes ((true, wrap64 a), (true, wrap64 a))) (by simp [results, Try.results13, go_sem, twoRes]) rfl ⟨rfl, by repeat (first | exact Mod.refl _ _ | refine modD ?_ | refine modA ?_ _)⟩

set_option maxHeartbeats 1000000 in
theorem one_del_false (n key a b : Int) (w : World) :
    Calls Try.prog 13 #[.agg #[.bool false, .int .i64 n], .agg #[.int .i64 5, .int .i64 key, .int .i64 a, .int .i64 b]] w fun e w' =>
      e = .returned (twoRes ((false, 0), (false, 0))) ∧ Mod none' w w' := by
    go_enter Try.func13, Try.ntmps13
    go_wp2
    go_region
    go_wp2
    all_goals exact bodyPost_ret (v := twoRes ((false, 0), (false, 0))) (by simp [results, Try.results13, go_sem, twoRes]) rfl ⟨rfl, by repeat (first | exact Mod.refl _ _ | refine modD ?_ | refine modA ?_ _)⟩

set_option maxHeartbeats 1000000 in
theorem one_get_true (n key a b : Int) (w : World) :
    Calls Try.prog 13 #[.agg #[.bool true, .int .i64 n], .agg #[.int .i64 1, .int .i64 key, .int .i64 a, .int .i64 b]] w fun e w' =>
      e = .returned (twoRes ((true, n), (true, n))) ∧ Mod none' w w' := by
    go_enter Try.func13, Try.ntmps13
    go_wp2
    go_region
    go_wp2
    all_goals exact bodyPost_ret (v := twoRes ((true, n), (true, n))) (by simp [results, Try.results13, go_sem, twoRes]) rfl ⟨rfl, by repeat (first | exact Mod.refl _ _ | refine modD ?_ | refine modA ?_ _)⟩

set_option maxHeartbeats 1000000 in
theorem one_put_true (n key a b : Int) (w : World) :
    Calls Try.prog 13 #[.agg #[.bool true, .int .i64 n], .agg #[.int .i64 2, .int .i64 key, .int .i64 a, .int .i64 b]] w fun e w' =>
      e = .returned (twoRes ((true, a), (true, n))) ∧ Mod none' w w' := by
    go_enter Try.func13, Try.ntmps13
    go_wp2_with (fail)
    go_region_held3 (fun w' => w'.cell? ⟨w.heap.size, 1, none⟩ = some (.int .i64 n) ∧ w'.cell? ⟨w.heap.size + 1, 2, none⟩ = some (.int .i64 a)) ((refine ⟨?_, ?_⟩ <;> go_simp))
      (first | (go_at_call 17; refine (some_c _ _).mono ?_; rintro e w' ⟨rfl, rfl⟩))
    all_goals go_wp2
    all_goals exact bodyPost_ret (v := twoRes ((true, a), (true, n))) (by simp [results, Try.results13, go_sem, twoRes]) rfl ⟨rfl, by repeat (first | exact Mod.refl _ _ | refine modD ?_ | refine modA ?_ _)⟩

set_option maxHeartbeats 1000000 in
theorem one_add_true (n key a b : Int) (w : World) :
    Calls Try.prog 13 #[.agg #[.bool true, .int .i64 n], .agg #[.int .i64 3, .int .i64 key, .int .i64 a, .int .i64 b]] w fun e w' =>
      e = .returned (twoRes ((true, wrap64 (n + a)), (true, wrap64 (n + a)))) ∧ Mod none' w w' := by
    go_enter Try.func13, Try.ntmps13
    go_wp2_with (go_at_call 17; refine (some_c _ _).mono ?_; rintro e w' ⟨rfl, rfl⟩)
    go_region
    go_wp2
    all_goals exact bodyPost_ret (v := twoRes ((true, wrap64 (n + a)), (true, wrap64 (n + a)))) (by simp [results, Try.results13, go_sem, twoRes]) rfl ⟨rfl, by repeat (first | exact Mod.refl _ _ | refine modD ?_ | refine modA ?_ _)⟩

set_option maxHeartbeats 1000000 in
theorem one_del_true (n key a b : Int) (w : World) :
    Calls Try.prog 13 #[.agg #[.bool true, .int .i64 n], .agg #[.int .i64 5, .int .i64 key, .int .i64 a, .int .i64 b]] w fun e w' =>
      e = .returned (twoRes ((false, 0), (true, n))) ∧ Mod none' w w' := by
    go_enter Try.func13, Try.ntmps13
    go_wp2
    go_region
    go_wp2
    all_goals exact bodyPost_ret (v := twoRes ((false, 0), (true, n))) (by simp [results, Try.results13, go_sem, twoRes]) rfl ⟨rfl, by repeat (first | exact Mod.refl _ _ | refine modD ?_ | refine modA ?_ _)⟩

set_option maxHeartbeats 1000000 in
theorem one_cas_false (n key a b : Int) (w : World) :
    Calls Try.prog 13 #[.agg #[.bool false, .int .i64 n], .agg #[.int .i64 4, .int .i64 key, .int .i64 a, .int .i64 b]] w fun e w' =>
      e = .returned (twoRes ((false, 0), (false, 0))) ∧ Mod none' w w' := by
    go_enter Try.func13, Try.ntmps13
    go_wp2
    go_region
    go_wp2
    all_goals exact bodyPost_ret (v := twoRes ((false, 0), (false, 0))) (by simp [results, Try.results13, go_sem, twoRes]) rfl ⟨rfl, by repeat (first | exact Mod.refl _ _ | refine modD ?_ | refine modA ?_ _)⟩

set_option maxHeartbeats 1000000 in
theorem one_cas_yes (n key a b : Int) (w : World) (h : (n == a) = true) :
    Calls Try.prog 13 #[.agg #[.bool true, .int .i64 n], .agg #[.int .i64 4, .int .i64 key, .int .i64 a, .int .i64 b]] w fun e w' =>
      e = .returned (twoRes ((true, b), (true, b))) ∧ Mod none' w w' := by
    go_enter Try.func13, Try.ntmps13
    go_wp2_with (fail)
    go_region_held3 (fun w' => w'.cell? ⟨w.heap.size + 1, 3, none⟩ = some (.int .i64 b)) ((go_simp))
      (first | (go_at_call 17; refine (some_c _ _).mono ?_; rintro e w' ⟨rfl, rfl⟩))
    all_goals go_wp2
    all_goals exact bodyPost_ret (v := twoRes ((true, b), (true, b))) (by simp [results, Try.results13, go_sem, twoRes]) rfl ⟨rfl, by repeat (first | exact Mod.refl _ _ | refine modD ?_ | refine modA ?_ _)⟩

set_option maxHeartbeats 1000000 in
theorem one_cas_no (n key a b : Int) (w : World) (h : (n == a) = false) :
    Calls Try.prog 13 #[.agg #[.bool true, .int .i64 n], .agg #[.int .i64 4, .int .i64 key, .int .i64 a, .int .i64 b]] w fun e w' =>
      e = .returned (twoRes ((true, n), (false, n))) ∧ Mod none' w w' := by
    go_enter Try.func13, Try.ntmps13
    go_wp2
    go_region
    go_wp2
    all_goals exact bodyPost_ret (v := twoRes ((true, n), (false, n))) (by simp [results, Try.results13, go_sem, twoRes]) rfl ⟨rfl, by repeat (first | exact Mod.refl _ _ | refine modD ?_ | refine modA ?_ _)⟩


/-- kv.one, all cells and ops of a kind that the service knows. -/
theorem one_c (there : Bool) (n kind key a b : Int) (w : World) (hk : 1 ≤ kind ∧ kind ≤ 5) :
    Calls Try.prog 13 #[.agg #[.bool there, .int .i64 n], .agg #[.int .i64 kind, .int .i64 key, .int .i64 a, .int .i64 b]] w fun e w' =>
      e = .returned (twoRes (kvOne there n kind a b)) ∧ Mod none' w w' := by
  have hc : kind = 1 ∨ kind = 2 ∨ kind = 3 ∨ kind = 4 ∨ kind = 5 := by omega
  rcases hc with rfl | rfl | rfl | rfl | rfl
  · cases there
    · exact one_get_false n key a b w
    · exact one_get_true n key a b w
  · cases there
    · exact one_put_false n key a b w
    · exact one_put_true n key a b w
  · cases there
    · have := one_add_false n key a b w
      simpa [kvOne] using this
    · exact one_add_true n key a b w
  · cases there
    · exact one_cas_false n key a b w
    · by_cases h : n = a
      · have := one_cas_yes n key a b w (by simpa using h)
        simpa [kvOne, h] using this
      · have := one_cas_no n key a b w (by simpa using h)
        simpa [kvOne, h] using this
  · cases there
    · exact one_del_false n key a b w
    · exact one_del_true n key a b w
end Go.Proofs.Ytphkfhgeliefcaa
