/- An op that the service does not know, or of a key that it has not, changes nothing: kv.Do and the reference's. -/
import Derived.Test.YtphkfhgeliefcaaKvRef
set_option linter.unusedVariables false
set_option linter.unusedSimpArgs false
namespace Go.Proofs.Ytphkfhgeliefcaa
open Go.RowKit Go.Ours

set_option maxHeartbeats 1000000 in
theorem do_bad (cs : List Value) (kind key a b : Int) (w : World) (hC : cs.length = 32) (hone' : ∀ v ∈ cs, v.oneCell' = true) (h : key < 0 ∨ 16 ≤ key ∨ kind < 1 ∨ 5 < kind) :
    Calls Try.prog 8 #[.agg cs.toArray, .agg #[.int .i64 kind, .int .i64 key, .int .i64 a, .int .i64 b]] w fun e w' =>
      e = .returned (.tuple #[.agg cs.toArray, .agg #[.bool false, .int .i64 0]]) ∧ Mod none' w w' := by
  have hu : Try.prog.underlying 24 = some (.array 16 23) := Try.underlying24
  have hi : (Try.prog.info? 24).map (·.size) = some cs.length := by rw [hC]; kernel_rfl
  have hi' : (Try.prog.info? 24).map (·.size) = some cs.toArray.size := by rw [List.size_toArray]; exact hi
  have HC := Lib.hid hC
  have H1 := Lib.hid (all_oneCell_toArray hone')
  clear hC hone'
  have hq : (key < 0) ∨ (0 ≤ key ∧ 16 ≤ key) ∨ (0 ≤ key ∧ key < 16 ∧ kind < 1) ∨ (0 ≤ key ∧ key < 16 ∧ 1 ≤ kind ∧ 5 < kind) := by omega
  clear h
  rcases hq with h1 | ⟨h1, h2⟩ | ⟨h1, h2, h3⟩ | ⟨h1, h2, h3, h4⟩
  all_goals
    go_enter Try.func8, Try.ntmps8
    go_upto_region 2 with (fail)
    generalize hW : (World.alloc (World.alloc (World.alloc (World.alloc w _) _) _) _) = W
    obtain ⟨hs, hb0, hb1, hb2, hb3, hM⟩ : W.heap.size = w.heap.size + 4 ∧ _ ∧ _ ∧ _ ∧ _ ∧ Mod none' w W := by rw [← hW]; exact allocs4 _ _ _ _ _
    rw [hW] at hb0 hb1 hb2 hb3
    clear hW
    have HST : Hid (Stored w cs W.heap.size false 0 (W.alloc (.cells #[.bool false, .int .i64 0] 30))) :=
      Stored.alloc (range_of_block hb0) (there_of_block hb2 rfl) (cell_of_block hb3 0) (cell_of_block hb3 1) (fun j => free_of_block hb3 j) hM _
    have r0 := range_of_block hb0
    have hsz : cs.toArray.size = 32 := by rw [List.size_toArray]; exact HC.out
    have t2 : W.there (w.heap.size + 1 + 1) 0 cs.toArray.size := by rw [hsz]; exact there_of_block hb2 rfl
    have e30 : W.cell? ⟨w.heap.size + 1 + 1 + 1, 0, none⟩ = some (.bool false) := cell_of_block hb3 0
    have e31 : W.cell? ⟨w.heap.size + 1 + 1 + 1, 1, none⟩ = some (.int .i64 0) := cell_of_block hb3 1
    have x30 := cell_setCells_other e30 (w.heap.size + 1 + 1) 0 cs (by simp)
    have x31 := cell_setCells_other e31 (w.heap.size + 1 + 1) 0 cs (by simp)
    have x3f : ∀ j, (W.setCells (w.heap.size + 1 + 1) 0 cs).frozen? ⟨w.heap.size + 1 + 1 + 1, j, none⟩ = false := fun j => (World.frozen?_setCells _ _ _ _ _).trans (free_of_block hb3 j)
    have HB : Hid (W.there (w.heap.size + 1 + 1) 0 cs.length) := by have h := HC.out; show World.there _ _ _ _; rw [h]; exact there_of_block hb2 rfl
    clear hsz
    have hM8 := Lib.hid hM
    clear hb0 hb1 hb2 hb3 hs hM e30 e31 HST
    go_wp2_with (first
      | (refine wpList_load_mid rfl 24 _ rfl _ _ rfl cs _ r0 hu rfl hi ?_)
      | (refine wpList_store_mid rfl 24 _ _ rfl _ _ cs.toArray rfl rfl t2 hi' H1.out ?_; simp only [List.toList_toArray]))
    refine bodyPost_ret (results_cells2 Try.results8 rfl rfl (run_loadVar_mid _ _ _ _ cs _ ?_ hu rfl hi) (run_loadVar_mid _ _ _ _ [.bool false, .int .i64 0] _ ?_ Try.underlying30 rfl (by kernel_rfl))) rfl ⟨rfl, ?_⟩
    · refine rangeAt_setOther (rangeAt_setOther ?_ _ _ (by simp)) _ _ (by simp)
      exact World.rangeAt_setCells_same _ _ _ _ HB.out
    · refine rangeAt_cons ?_ (rangeAt_cons ?_ (rangeAt_nil _ _ _))
      · rw [World.cell?_setCell_other _ _ _ _ (by simp)]
        exact World.cell?_setCell_same _ _ _ x30
      · exact World.cell?_setCell_same _ _ _ (show World.cell? _ _ = some _ by rw [World.cell?_setCell_other _ _ _ _ (by simp)]; exact x31)
    · refine ((hM8.out.step (Mod.setCells _ _ _ _) ?_).step (Mod.setCell _ _ _) ?_).step (Mod.setCell _ _ _) ?_
      all_goals (intro i hi hs; simp only [just] at hs; omega)

set_option maxHeartbeats 1000000 in
theorem ref_bad (cs : List Value) (kind key a b : Int) (w : World) (hC : cs.length = 32) (hone' : ∀ v ∈ cs, v.oneCell' = true) (h : key < 0 ∨ 16 ≤ key ∨ kind < 1 ∨ 5 < kind) :
    Calls Try.prog 9 #[.agg cs.toArray, .agg #[.int .i64 kind, .int .i64 key, .int .i64 a, .int .i64 b]] w fun e w' =>
      e = .returned (.tuple #[.agg cs.toArray, .agg #[.bool false, .int .i64 0]]) ∧ Mod none' w w' := by
  have hu : Try.prog.underlying 24 = some (.array 16 23) := Try.underlying24
  have hi : (Try.prog.info? 24).map (·.size) = some cs.length := by rw [hC]; kernel_rfl
  have hi' : (Try.prog.info? 24).map (·.size) = some cs.toArray.size := by rw [List.size_toArray]; exact hi
  have HC := Lib.hid hC
  have H1 := Lib.hid (all_oneCell_toArray hone')
  clear hC hone'
  have hq : (key < 0) ∨ (0 ≤ key ∧ 16 ≤ key) ∨ (0 ≤ key ∧ key < 16 ∧ kind < 1) ∨ (0 ≤ key ∧ key < 16 ∧ 1 ≤ kind ∧ 5 < kind) := by omega
  clear h
  rcases hq with h1 | ⟨h1, h2⟩ | ⟨h1, h2, h3⟩ | ⟨h1, h2, h3, h4⟩
  all_goals
    go_enter Try.func9, Try.ntmps9
    go_upto_region 2 with (fail)
    generalize hW : (World.alloc (World.alloc (World.alloc (World.alloc w _) _) _) _) = W
    obtain ⟨hs, hb0, hb1, hb2, hb3, hM⟩ : W.heap.size = w.heap.size + 4 ∧ _ ∧ _ ∧ _ ∧ _ ∧ Mod none' w W := by rw [← hW]; exact allocs4 _ _ _ _ _
    rw [hW] at hb0 hb1 hb2 hb3
    clear hW
    have HST : Hid (Stored w cs W.heap.size false 0 (W.alloc (.cells #[.bool false, .int .i64 0] 30))) :=
      Stored.alloc (range_of_block hb0) (there_of_block hb2 rfl) (cell_of_block hb3 0) (cell_of_block hb3 1) (fun j => free_of_block hb3 j) hM _
    have r0 := range_of_block hb0
    have hsz : cs.toArray.size = 32 := by rw [List.size_toArray]; exact HC.out
    have t2 : W.there (w.heap.size + 1 + 1) 0 cs.toArray.size := by rw [hsz]; exact there_of_block hb2 rfl
    have e30 : W.cell? ⟨w.heap.size + 1 + 1 + 1, 0, none⟩ = some (.bool false) := cell_of_block hb3 0
    have e31 : W.cell? ⟨w.heap.size + 1 + 1 + 1, 1, none⟩ = some (.int .i64 0) := cell_of_block hb3 1
    have x30 := cell_setCells_other e30 (w.heap.size + 1 + 1) 0 cs (by simp)
    have x31 := cell_setCells_other e31 (w.heap.size + 1 + 1) 0 cs (by simp)
    have x3f : ∀ j, (W.setCells (w.heap.size + 1 + 1) 0 cs).frozen? ⟨w.heap.size + 1 + 1 + 1, j, none⟩ = false := fun j => (World.frozen?_setCells _ _ _ _ _).trans (free_of_block hb3 j)
    have HB : Hid (W.there (w.heap.size + 1 + 1) 0 cs.length) := by have h := HC.out; show World.there _ _ _ _; rw [h]; exact there_of_block hb2 rfl
    clear hsz
    have hM8 := Lib.hid hM
    clear hb0 hb1 hb2 hb3 hs hM e30 e31 HST
    go_wp2_with (first
      | (refine wpList_load_mid rfl 24 _ rfl _ _ rfl cs _ r0 hu rfl hi ?_)
      | (refine wpList_store_mid rfl 24 _ _ rfl _ _ cs.toArray rfl rfl t2 hi' H1.out ?_; simp only [List.toList_toArray]))
    refine bodyPost_ret (results_cells2 Try.results9 rfl rfl (run_loadVar_mid _ _ _ _ cs _ ?_ hu rfl hi) (run_loadVar_mid _ _ _ _ [.bool false, .int .i64 0] _ ?_ Try.underlying30 rfl (by kernel_rfl))) rfl ⟨rfl, ?_⟩
    · refine rangeAt_setOther (rangeAt_setOther ?_ _ _ (by simp)) _ _ (by simp)
      exact World.rangeAt_setCells_same _ _ _ _ HB.out
    · refine rangeAt_cons ?_ (rangeAt_cons ?_ (rangeAt_nil _ _ _))
      · rw [World.cell?_setCell_other _ _ _ _ (by simp)]
        exact World.cell?_setCell_same _ _ _ x30
      · exact World.cell?_setCell_same _ _ _ (show World.cell? _ _ = some _ by rw [World.cell?_setCell_other _ _ _ _ (by simp)]; exact x31)
    · refine ((hM8.out.step (Mod.setCells _ _ _ _) ?_).step (Mod.setCell _ _ _) ?_).step (Mod.setCell _ _ _) ?_
      all_goals (intro i hi hs; simp only [just] at hs; omega)


def kvDo (D : List (Bool × Int)) (kind key a b : Int) : List (Bool × Int) × (Bool × Int) :=
  if key < 0 ∨ 16 ≤ key ∨ kind < 1 ∨ 5 < kind then (D, (false, 0))
  else
    let c := D.getD key.toNat (false, 0)
    let p := kvOne c.1 c.2 kind a b
    (if sel kind p.2.1 then D.set key.toNat p.1 else D, p.2)
def kvRes (p : List (Bool × Int) × (Bool × Int)) : Value := .tuple #[kvVal p.1, .agg #[.bool p.2.1, .int .i64 p.2.2]]
def opVal (kind key a b : Int) : Value := .agg #[.int .i64 kind, .int .i64 key, .int .i64 a, .int .i64 b]

theorem kvCells_one (D : List (Bool × Int)) : ∀ v ∈ kvCells D, v.oneCell' = true := by
  induction D with
  | nil => intro v hv; cases hv
  | cons c D ih =>
    intro v hv
    rw [kvCells_cons] at hv
    rcases List.mem_cons.1 hv with rfl | hv
    · rfl
    · rcases List.mem_cons.1 hv with rfl | hv
      · rfl
      · exact ih v hv
theorem kvDo_length (D : List (Bool × Int)) (kind key a b : Int) : (kvDo D kind key a b).1.length = D.length := by
  unfold kvDo; split <;> simp; split <;> simp

theorem doCells_kv (D : List (Bool × Int)) (k : Nat) (t : Bool) (m : Int) (s : Bool) : doCells (kvCells D) k t m s = kvCells (if s then D.set k (t, m) else D) := by
  unfold doCells
  cases s
  · rfl
  · have := kvCells_set D k t m
    rw [Nat.mul_comm] at this
    simpa using this

/-- kv.Do and the reference's Do, at every values and op. -/
theorem both_do {f : FuncId}
    (hgood : ∀ (cs : List Value) (there : Bool) (n kind a b : Int) (k : Nat) (w : World), k < 16 → 1 ≤ kind ∧ kind ≤ 5 → cs.length = 32 → (∀ v ∈ cs, v.oneCell' = true) →
      cs[k * 2]? = some (.bool there) → cs[k * 2 + 1]? = some (.int .i64 n) → ∀ (t : Bool) (m : Int) (ok : Bool) (r : Int), kvOne there n kind a b = ((t, m), (ok, r)) →
      Calls Try.prog f #[.agg cs.toArray, .agg #[.int .i64 kind, .int .i64 k, .int .i64 a, .int .i64 b]] w fun e w' =>
        e = .returned (.tuple #[.agg (doCells cs k t m (sel kind ok)).toArray, .agg #[.bool ok, .int .i64 r]]) ∧ Mod none' w w')
    (hbad : ∀ (cs : List Value) (kind key a b : Int) (w : World), cs.length = 32 → (∀ v ∈ cs, v.oneCell' = true) → (key < 0 ∨ 16 ≤ key ∨ kind < 1 ∨ 5 < kind) →
      Calls Try.prog f #[.agg cs.toArray, .agg #[.int .i64 kind, .int .i64 key, .int .i64 a, .int .i64 b]] w fun e w' =>
        e = .returned (.tuple #[.agg cs.toArray, .agg #[.bool false, .int .i64 0]]) ∧ Mod none' w w')
    (D : List (Bool × Int)) (kind key a b : Int) (w : World) (hD : D.length = 16) :
    Calls Try.prog f #[kvVal D, opVal kind key a b] w fun e w' => e = .returned (kvRes (kvDo D kind key a b)) ∧ Mod none' w w' := by
  by_cases h : key < 0 ∨ 16 ≤ key ∨ kind < 1 ∨ 5 < kind
  · have := hbad (kvCells D) kind key a b w (by rw [kvCells_length]; omega) (kvCells_one D) h
    unfold kvDo
    rw [if_pos h]
    exact this
  · obtain ⟨k, rfl⟩ : ∃ k : Nat, key = k := ⟨key.toNat, by omega⟩
    have hk : k < 16 := by omega
    have hget : D[k]? = some (D.getD k (false, 0)) := by
      rw [List.getD_eq_getElem?_getD, List.getElem?_eq_getElem (by omega)]; rfl
    obtain ⟨c0, c1⟩ := kvCells_get D k _ hget
    rw [Nat.mul_comm] at c0 c1
    have := hgood (kvCells D) _ _ kind a b k w hk (by omega) (by rw [kvCells_length]; omega) (kvCells_one D) c0 c1
      (kvOne (D.getD k (false, 0)).1 (D.getD k (false, 0)).2 kind a b).1.1 (kvOne (D.getD k (false, 0)).1 (D.getD k (false, 0)).2 kind a b).1.2
      (kvOne (D.getD k (false, 0)).1 (D.getD k (false, 0)).2 kind a b).2.1 (kvOne (D.getD k (false, 0)).1 (D.getD k (false, 0)).2 kind a b).2.2 rfl
    rw [doCells_kv] at this
    unfold kvDo
    rw [if_neg h]
    exact this

theorem do_v (D : List (Bool × Int)) (kind key a b : Int) (w : World) (hD : D.length = 16) :
    Calls Try.prog 8 #[kvVal D, opVal kind key a b] w fun e w' => e = .returned (kvRes (kvDo D kind key a b)) ∧ Mod none' w w' :=
  both_do do_c do_bad D kind key a b w hD
theorem ref_v (D : List (Bool × Int)) (kind key a b : Int) (w : World) (hD : D.length = 16) :
    Calls Try.prog 9 #[kvVal D, opVal kind key a b] w fun e w' => e = .returned (kvRes (kvDo D kind key a b)) ∧ Mod none' w w' :=
  both_do ref_do ref_bad D kind key a b w hD
end Go.Proofs.Ytphkfhgeliefcaa
