/- The walk of the reference's Do, at every values and op of a kind that the service knows. -/
import Derived.Test.YtphkfhgeliefcaaKvDo
set_option linter.unusedVariables false
set_option linter.unusedSimpArgs false
namespace Go.Proofs.Ytphkfhgeliefcaa
open Go.RowKit Go.Ours
theorem Stored.r0 {w : World} {cs : List Value} {b7 : Nat} {ok : Bool} {r : Int} {wd : World} (h : Stored w cs b7 ok r wd) (hb : w.heap.size + 3 < b7) (ok' : Bool) : Stored w cs b7 ok' r (wd.setCell ⟨b7, 0, none⟩ (.bool ok')) := by
  obtain ⟨h1, h2, h3, h4, h5, h6, h7, h8⟩ := h
  refine ⟨rangeAt_setOther h1 _ _ (by simp; omega), there_setCell h2 _ _, cell_setCell_other h3 _ _ (by simp; omega), cell_setCell_other h4 _ _ (by simp; omega), fun j => by rw [World.frozen?_setCell]; exact h5 j, World.cell?_setCell_same _ _ _ h6, ?_, ?_⟩
  · rw [World.cell?_setCell_other _ _ _ _ (by simp)]; exact h7
  · exact h8.step (Mod.setCell _ _ _) (fun i hi hs => by simp only [just] at hs; omega)
theorem Stored.r1 {w : World} {cs : List Value} {b7 : Nat} {ok : Bool} {r : Int} {wd : World} (h : Stored w cs b7 ok r wd) (hb : w.heap.size + 3 < b7) (r' : Int) : Stored w cs b7 ok r' (wd.setCell ⟨b7, 1, none⟩ (.int .i64 r')) := by
  obtain ⟨h1, h2, h3, h4, h5, h6, h7, h8⟩ := h
  refine ⟨rangeAt_setOther h1 _ _ (by simp; omega), there_setCell h2 _ _, cell_setCell_other h3 _ _ (by simp; omega), cell_setCell_other h4 _ _ (by simp; omega), fun j => by rw [World.frozen?_setCell]; exact h5 j, ?_, World.cell?_setCell_same _ _ _ h7, ?_⟩
  · rw [World.cell?_setCell_other _ _ _ _ (by simp)]; exact h6
  · exact h8.step (Mod.setCell _ _ _) (fun i hi hs => by simp only [just] at hs; omega)
theorem Stored.alloc {w : World} {cs : List Value} {wd : World} {ok : Bool} {r : Int} (h1 : wd.rangeAt w.heap.size 0 cs) (h2 : wd.there (w.heap.size + 1 + 1) 0 32) (h3 : wd.cell? ⟨w.heap.size + 1 + 1 + 1, 0, none⟩ = some (.bool false)) (h4 : wd.cell? ⟨w.heap.size + 1 + 1 + 1, 1, none⟩ = some (.int .i64 0))
    (h5 : ∀ j, wd.frozen? ⟨w.heap.size + 1 + 1 + 1, j, none⟩ = false) (h8 : Mod none' w wd) (t : TypeId) : Stored w cs wd.heap.size ok r (wd.alloc (.cells #[.bool ok, .int .i64 r] t)) := by
  have m := Mod.alloc none' wd (.cells #[.bool ok, .int .i64 r] t)
  refine ⟨m.range h1 (fun h => h), m.there h2 (fun h => h), m.keepsNone h3, m.keepsNone h4, fun j => (m.frozen (p := ⟨w.heap.size + 1 + 1 + 1, j, none⟩) (show w.heap.size + 1 + 1 + 1 < wd.heap.size from lt_of_cell h3) (fun h => h)).trans (h5 j), by simp, by simp, h8.trans m⟩

theorem ref_end {w wd : World} {cs : List Value} {b7 : Nat} {ok : Bool} {r : Int} {tmps : Array Value} (hp : tmps.getD 4 undef = .pointer (some ⟨w.heap.size + 1 + 1, 0, none⟩)) (hq : tmps.getD 5 undef = .pointer (some ⟨w.heap.size + 1 + 1 + 1, 0, none⟩))
    (h : Stored w cs b7 ok r wd) (hl : cs.length = 32) :
    (results Try.f9 tmps).run Try.prog (((wd.setCells (w.heap.size + 1 + 1) 0 cs).setCell ⟨w.heap.size + 1 + 1 + 1, 0, none⟩ (.bool ok)).setCell ⟨w.heap.size + 1 + 1 + 1, 1, none⟩ (.int .i64 r)) =
      .ok (.tuple #[.agg cs.toArray, .agg #[.bool ok, .int .i64 r]]) (((wd.setCells (w.heap.size + 1 + 1) 0 cs).setCell ⟨w.heap.size + 1 + 1 + 1, 0, none⟩ (.bool ok)).setCell ⟨w.heap.size + 1 + 1 + 1, 1, none⟩ (.int .i64 r)) := by
  obtain ⟨h1, h2, h3, h4, h5, h6, h7, h8⟩ := h
  refine results_cells2 Try.results9 hp hq ?_ ?_
  · refine run_loadVar_mid _ _ _ _ _ _ ?_ Try.underlying24 rfl (by rw [hl]; kernel_rfl)
    refine rangeAt_setOther (rangeAt_setOther ?_ _ _ (by simp)) _ _ (by simp)
    exact World.rangeAt_setCells_same _ _ _ _ (by rw [hl]; exact h2)
  · refine run_loadVar_mid _ _ _ _ [.bool ok, .int .i64 r] _ ?_ Try.underlying30 rfl (by kernel_rfl)
    have x3 := cell_setCells_other h3 (w.heap.size + 1 + 1) 0 cs (by simp)
    have x4 := cell_setCells_other h4 (w.heap.size + 1 + 1) 0 cs (by simp)
    refine rangeAt_cons ?_ (rangeAt_cons ?_ (rangeAt_nil _ _ _))
    · rw [World.cell?_setCell_other _ _ _ _ (by simp)]
      exact World.cell?_setCell_same _ _ _ x3
    · exact World.cell?_setCell_same _ _ _ (show World.cell? _ _ = some _ by rw [World.cell?_setCell_other _ _ _ _ (by simp)]; exact x4)

theorem kv_key (cs : List Value) (there : Bool) (n kind a b n0 : Int) (k : Nat) (hkind : 1 ≤ kind ∧ kind ≤ 5) (t : Bool) (m : Int) (ok : Bool) (r : Int) (ho : kvOne there n kind a b = ((t, m), (ok, r))) (hn : (if there then n else 0) = n0) :
    (kind = 1 ∧ doCells cs k t m (sel kind ok) = cs ∧ ok = there ∧ r = n0) ∨ (kind = 2 ∧ doCells cs k t m (sel kind ok) = (cs.set (k * 2) (.bool true)).set (k * 2 + 1) (.int .i64 a) ∧ ok = true ∧ r = n0) ∨
      (kind = 3 ∧ doCells cs k t m (sel kind ok) = (cs.set (k * 2) (.bool true)).set (k * 2 + 1) (.int .i64 (wrap64 (n0 + a))) ∧ ok = true ∧ r = wrap64 (n0 + a)) ∨
      (kind = 4 ∧ there = true ∧ n0 = a ∧ doCells cs k t m (sel kind ok) = (cs.set (k * 2) (.bool true)).set (k * 2 + 1) (.int .i64 b) ∧ ok = true ∧ r = b) ∨
      (kind = 4 ∧ (there && (n0 == a)) = false ∧ doCells cs k t m (sel kind ok) = cs ∧ ok = false ∧ r = n0) ∨
      (kind = 5 ∧ doCells cs k t m (sel kind ok) = (cs.set (k * 2) (.bool false)).set (k * 2 + 1) (.int .i64 0) ∧ ok = there ∧ r = n0) := by
  have hc : kind = 1 ∨ kind = 2 ∨ kind = 3 ∨ kind = 4 ∨ kind = 5 := by omega
  rcases hc with rfl | rfl | rfl | rfl | rfl
  · simp [kvOne, hn] at ho
    obtain ⟨⟨rfl, rfl⟩, rfl, rfl⟩ := ho
    exact Or.inl ⟨rfl, rfl, rfl, rfl⟩
  · simp [kvOne, hn] at ho
    obtain ⟨⟨rfl, rfl⟩, rfl, rfl⟩ := ho
    exact Or.inr (Or.inl ⟨rfl, rfl, rfl, rfl⟩)
  · simp [kvOne, hn] at ho
    obtain ⟨⟨rfl, rfl⟩, rfl, rfl⟩ := ho
    exact Or.inr (Or.inr (Or.inl ⟨rfl, rfl, rfl, rfl⟩))
  · by_cases hh : there = true ∧ n = a
    · obtain ⟨rfl, rfl⟩ := hh
      simp at hn
      subst hn
      simp [kvOne] at ho
      obtain ⟨⟨rfl, rfl⟩, rfl, rfl⟩ := ho
      exact Or.inr (Or.inr (Or.inr (Or.inl ⟨rfl, rfl, rfl, rfl, rfl, rfl⟩)))
    · simp [kvOne, hn, hh] at ho
      obtain ⟨⟨rfl, rfl⟩, rfl, rfl⟩ := ho
      refine Or.inr (Or.inr (Or.inr (Or.inr (Or.inl ⟨rfl, ?_, rfl, rfl, rfl⟩))))
      cases there
      · rfl
      · simp at hn hh ⊢
        subst hn
        exact hh
  · simp [kvOne, hn] at ho
    obtain ⟨⟨rfl, rfl⟩, rfl, rfl⟩ := ho
    exact Or.inr (Or.inr (Or.inr (Or.inr (Or.inr ⟨rfl, rfl, rfl, rfl⟩))))

set_option maxHeartbeats 2000000 in
theorem ref_do (cs : List Value) (there : Bool) (n kind a b : Int) (k : Nat) (w : World) (hk : k < 16) (hkind : 1 ≤ kind ∧ kind ≤ 5) (hC : cs.length = 32) (hone' : ∀ v ∈ cs, v.oneCell' = true)
   (h0 : cs[k * 2]? = some (.bool there)) (h1 : cs[k * 2 + 1]? = some (.int .i64 n)) (t : Bool) (m : Int) (ok : Bool) (r : Int) (hone : kvOne there n kind a b = ((t, m), (ok, r))) :
    Calls Try.prog 9 #[.agg cs.toArray, .agg #[.int .i64 kind, .int .i64 k, .int .i64 a, .int .i64 b]] w fun e w' =>
      e = .returned (.tuple #[.agg (doCells cs k t m (sel kind ok)).toArray, .agg #[.bool ok, .int .i64 r]]) ∧ Mod none' w w' := by
  have HC := Lib.hid hC
  have HO := Lib.hid hone
  have H1 := Lib.hid hone'
  clear hC hone hone'
  obtain ⟨k1, k5⟩ := hkind
  go_enter Try.func9, Try.ntmps9
  go_upto_region 3 with (fail)
  generalize hW : (World.alloc (World.alloc (World.alloc (World.alloc w _) _) _) _) = W
  obtain ⟨hs, hb0, hb1, hb2, hb3, hM⟩ : W.heap.size = w.heap.size + 4 ∧ _ ∧ _ ∧ _ ∧ _ ∧ Mod none' w W := by rw [← hW]; exact allocs4 _ _ _ _ _
  rw [hW] at hb0 hb1 hb2 hb3
  clear hW
  have HS := Lib.hid hs
  have B0 := Lib.hid hb0
  have B1 := Lib.hid hb1
  have B2 := Lib.hid hb2
  have B3 := Lib.hid hb3
  have zW00 : w.heap.size < W.heap.size := by omega
  have zW01 : w.heap.size < W.heap.size + 1 := by omega
  have zW10 : w.heap.size + 1 < W.heap.size := by omega
  have zW11 : w.heap.size + 1 < W.heap.size + 1 := by omega
  have zW20 : w.heap.size + 1 + 1 < W.heap.size := by omega
  have zW21 : w.heap.size + 1 + 1 < W.heap.size + 1 := by omega
  have zW30 : w.heap.size + 1 + 1 + 1 < W.heap.size := by omega
  have zW31 : w.heap.size + 1 + 1 + 1 < W.heap.size + 1 := by omega
  have c00 := (cell_of_block hb0 (k * 2)).trans (by simpa using h0)
  have c01 := (cell_of_block hb0 (k * 2 + 1)).trans (by simpa using h1)
  have c10 : W.cell? ⟨w.heap.size + 1, 0, none⟩ = some (.int .i64 kind) := cell_of_block hb1 0
  have c11 : W.cell? ⟨w.heap.size + 1, 1, none⟩ = some (.int .i64 ↑k) := cell_of_block hb1 1
  have c12 : W.cell? ⟨w.heap.size + 1, 2, none⟩ = some (.int .i64 a) := cell_of_block hb1 2
  have c13 : W.cell? ⟨w.heap.size + 1, 3, none⟩ = some (.int .i64 b) := cell_of_block hb1 3
  clear hs hb0 hb1 hb2 hb3 h0 h1
  have hf0 : W.frozen? ⟨w.heap.size, k * 2, none⟩ = false := free_of_block B0.out _
  have hf1 : W.frozen? ⟨w.heap.size, k * 2 + 1, none⟩ = false := free_of_block B0.out _
  obtain ⟨n0, hn0⟩ : ∃ n0 : Int, (if there then n else 0) = n0 := ⟨_, rfl⟩
  have HN := Lib.hid hn0
  go_upto_if 34 with (fail)
  go_cut [7] from 35 to 39 (fun s7 wc => s7 = .int .i64 n0 ∧ wc = W)
  case first =>
    cases there
    · go_wp2
      go_meet
      case rel => exact ⟨by rw [← HN.out]; rfl, rfl⟩
    · go_wp2
      go_meet
      case rel => exact ⟨by rw [← HN.out]; rfl, rfl⟩
  case rest =>
  obtain ⟨rfl, rfl⟩ := hcut
  clear hn0
  go_upto_region 8 with (fail)
  have HST0 : Hid (Stored w cs wc.heap.size true n0 (wc.alloc (.cells #[.bool true, .int .i64 n0] 30))) :=
    Stored.alloc (range_of_block B0.out) (there_of_block B2.out rfl) (cell_of_block B3.out 0) (cell_of_block B3.out 1) (fun j => free_of_block B3.out j) hM _
  have m5 := Mod.alloc none' wc (.cells #[.bool true, .int .i64 n0] 30)
  have f8 : ∀ j, (wc.alloc (.cells #[.bool true, .int .i64 n0] 30)).frozen? ⟨wc.heap.size, j, none⟩ = false := fun j => by simp
  have e00 := m5.keepsNone c00
  have e01 := m5.keepsNone c01
  have e10 := m5.keepsNone c10
  have e11 := m5.keepsNone c11
  have e12 := m5.keepsNone c12
  have e13 := m5.keepsNone c13
  have ef0 := (m5.frozen (p := ⟨w.heap.size, k * 2, none⟩) (lt_of_cell c00) (fun h => h)).trans hf0
  have ef1 := (m5.frozen (p := ⟨w.heap.size, k * 2 + 1, none⟩) (lt_of_cell c01) (fun h => h)).trans hf1
  have e80 : (wc.alloc (.cells #[.bool true, .int .i64 n0] 30)).cell? ⟨wc.heap.size, 0, none⟩ = some (.bool true) := by simp
  have e81 : (wc.alloc (.cells #[.bool true, .int .i64 n0] 30)).cell? ⟨wc.heap.size, 1, none⟩ = some (.int .i64 n0) := by simp
  generalize wc.alloc (.cells #[.bool true, .int .i64 n0] 30) = W5 at *
  have hb8 : w.heap.size + 3 < wc.heap.size := by have := HS.out; omega
  generalize wc.heap.size = b8 at *
  clear m5 c00 c01 c10 c11 c12 c13 hf0 hf1 B0 B1 B2 B3 hM zW00 zW01 zW10 zW11 zW20 zW21 zW30 zW31 HS wc
  have hlen := HC.out
  have n80 : ¬ b8 = w.heap.size := by omega
  have key := Lib.hid (kv_key cs there n kind a b n0 k ⟨k1, k5⟩ t m ok r HO.out HN.out)
  have hone0 := H1.out
  rcases key.out with ⟨rfl, h1, h2, h3⟩ | ⟨rfl, h1, h2, h3⟩ | ⟨rfl, h1, h2, h3⟩ | ⟨rfl, ht, ha, h1, h2, h3⟩ | ⟨rfl, ha, h1, h2, h3⟩ | ⟨rfl, h1, h2, h3⟩
  all_goals
    have K1 := Lib.hid h1
    have K2 := Lib.hid h2
    have K3 := Lib.hid h3
    clear h1 h2 h3
  ·
    go_upto_region 23 with (fail)
    have hst : Stored w cs b8 (there) (n0) (W5.setCell ⟨b8, 0, none⟩ (.bool there)) := HST0.out.r0 hb8 there
    have hlen2 : (cs).length = 32 := by simp [hlen]
    have hone2 : ∀ v ∈ (cs), v.oneCell' = true := by
      intro v hv
      first
      | exact hone0 v hv
      | (rcases List.mem_or_eq_of_mem_set hv with hv | rfl
         · rcases List.mem_or_eq_of_mem_set hv with hv | rfl
           · exact hone0 v hv
           · rfl
         · rfl)
    clear e00 e01 e10 e11 e12 e13 ef0 ef1 e80 e81 f8 hone0
    generalize W5.setCell ⟨b8, 0, none⟩ (.bool there) = wd at *
    have hst := hst.drew
    have HS2 := Lib.hid hst
    have hu : Try.prog.underlying 24 = some (.array 16 23) := Try.underlying24
    have hi : (Try.prog.info? 24).map (·.size) = some cs.length := by rw [hlen2]; kernel_rfl
    obtain ⟨r0, t2, e30, e31, e3f, d70, d71, hm8⟩ := hst
    clear hm8
    have x30 := cell_setCells_other e30 (w.heap.size + 1 + 1) 0 cs (by simp)
    have x31 := cell_setCells_other e31 (w.heap.size + 1 + 1) 0 cs (by simp)
    have x3f : ∀ j, (wd.drew.setCells (w.heap.size + 1 + 1) 0 cs).frozen? ⟨w.heap.size + 1 + 1 + 1, j, none⟩ = false := fun j => (World.frozen?_setCells _ _ _ _ _).trans (e3f j)
    go_region_held3 (fun w' => w'.rangeAt w.heap.size 0 cs ∧ w'.there (w.heap.size + 1 + 1) 0 32 ∧ w'.cell? ⟨b8, 0, none⟩ = some (.bool (there)) ∧ w'.cell? ⟨b8, 1, none⟩ = some (.int .i64 (n0)))
      ((refine ⟨?_, ?_, ?_, ?_⟩ <;> (repeat (first | exact r0 | exact t2 | exact d70 | exact d71 | refine rangeAt_setOther ?_ _ _ (by simp; omega) | refine rangeAt_setCells_other ?_ _ _ _ (by omega) | refine there_setCell ?_ _ _ | refine World.there_setCells ?_ _ _ _ | refine cell_setCell_other ?_ _ _ (by simp; omega) | refine cell_setCells_other ?_ _ _ _ (by simp; omega))))) (fail)
    go_wp2
    refine bodyPost_ret (ref_end rfl rfl HS2.out hlen2) rfl ⟨by rw [K1.out, K2.out, K3.out], ?_⟩
    refine ((HS2.out.2.2.2.2.2.2.2.step (Mod.setCells _ _ _ _) ?_).step (Mod.setCell _ _ _) ?_).step (Mod.setCell _ _ _) ?_
    all_goals (intro i hi hs; simp only [just] at hs; omega)
  ·
    go_upto_region 23 with (fail)
    have hst : Stored w ((cs.set (k * 2) (.bool true)).set (k * 2 + 1) (.int .i64 a)) b8 (true) (n0) (((W5.setCell ⟨w.heap.size, k * 2, none⟩ (.bool true)).setCell ⟨w.heap.size, k * 2 + 1, none⟩ (.int .i64 a))) := ((HST0.out).set n80 _ (by omega) _).set n80 _ (by simp; omega) _
    have hlen2 : (((cs.set (k * 2) (.bool true)).set (k * 2 + 1) (.int .i64 a))).length = 32 := by simp [hlen]
    have hone2 : ∀ v ∈ (((cs.set (k * 2) (.bool true)).set (k * 2 + 1) (.int .i64 a))), v.oneCell' = true := by
      intro v hv
      first
      | exact hone0 v hv
      | (rcases List.mem_or_eq_of_mem_set hv with hv | rfl
         · rcases List.mem_or_eq_of_mem_set hv with hv | rfl
           · exact hone0 v hv
           · rfl
         · rfl)
    generalize ((cs.set (k * 2) (.bool true)).set (k * 2 + 1) (.int .i64 a)) = cs2 at *
    clear e00 e01 e10 e11 e12 e13 ef0 ef1 e80 e81 f8 hone0
    generalize ((W5.setCell ⟨w.heap.size, k * 2, none⟩ (.bool true)).setCell ⟨w.heap.size, k * 2 + 1, none⟩ (.int .i64 a)) = wd at *
    have hst := hst.drew
    have HS2 := Lib.hid hst
    have hu : Try.prog.underlying 24 = some (.array 16 23) := Try.underlying24
    have hi : (Try.prog.info? 24).map (·.size) = some cs2.length := by rw [hlen2]; kernel_rfl
    obtain ⟨r0, t2, e30, e31, e3f, d70, d71, hm8⟩ := hst
    clear hm8
    have x30 := cell_setCells_other e30 (w.heap.size + 1 + 1) 0 cs2 (by simp)
    have x31 := cell_setCells_other e31 (w.heap.size + 1 + 1) 0 cs2 (by simp)
    have x3f : ∀ j, (wd.drew.setCells (w.heap.size + 1 + 1) 0 cs2).frozen? ⟨w.heap.size + 1 + 1 + 1, j, none⟩ = false := fun j => (World.frozen?_setCells _ _ _ _ _).trans (e3f j)
    go_region_held3 (fun w' => w'.rangeAt w.heap.size 0 cs2 ∧ w'.there (w.heap.size + 1 + 1) 0 32 ∧ w'.cell? ⟨b8, 0, none⟩ = some (.bool (true)) ∧ w'.cell? ⟨b8, 1, none⟩ = some (.int .i64 (n0)))
      ((refine ⟨?_, ?_, ?_, ?_⟩ <;> (repeat (first | exact r0 | exact t2 | exact d70 | exact d71 | refine rangeAt_setOther ?_ _ _ (by simp; omega) | refine rangeAt_setCells_other ?_ _ _ _ (by omega) | refine there_setCell ?_ _ _ | refine World.there_setCells ?_ _ _ _ | refine cell_setCell_other ?_ _ _ (by simp; omega) | refine cell_setCells_other ?_ _ _ _ (by simp; omega))))) (fail)
    go_wp2
    refine bodyPost_ret (ref_end rfl rfl HS2.out hlen2) rfl ⟨by rw [K1.out, K2.out, K3.out], ?_⟩
    refine ((HS2.out.2.2.2.2.2.2.2.step (Mod.setCells _ _ _ _) ?_).step (Mod.setCell _ _ _) ?_).step (Mod.setCell _ _ _) ?_
    all_goals (intro i hi hs; simp only [just] at hs; omega)
  ·
    go_upto_region 23 with (fail)
    have hst : Stored w ((cs.set (k * 2) (.bool true)).set (k * 2 + 1) (.int .i64 (wrap64 (n0 + a)))) b8 (true) (wrap64 (n0 + a)) ((((W5.setCell ⟨b8, 1, none⟩ (.int .i64 (wrap64 (n0 + a)))).setCell ⟨w.heap.size, k * 2, none⟩ (.bool true)).setCell ⟨w.heap.size, k * 2 + 1, none⟩ (.int .i64 (wrap64 (n0 + a))))) := ((HST0.out.r1 hb8 _).set n80 _ (by omega) _).set n80 _ (by simp; omega) _
    have hlen2 : (((cs.set (k * 2) (.bool true)).set (k * 2 + 1) (.int .i64 (wrap64 (n0 + a))))).length = 32 := by simp [hlen]
    have hone2 : ∀ v ∈ (((cs.set (k * 2) (.bool true)).set (k * 2 + 1) (.int .i64 (wrap64 (n0 + a))))), v.oneCell' = true := by
      intro v hv
      first
      | exact hone0 v hv
      | (rcases List.mem_or_eq_of_mem_set hv with hv | rfl
         · rcases List.mem_or_eq_of_mem_set hv with hv | rfl
           · exact hone0 v hv
           · rfl
         · rfl)
    generalize ((cs.set (k * 2) (.bool true)).set (k * 2 + 1) (.int .i64 (wrap64 (n0 + a)))) = cs2 at *
    clear e00 e01 e10 e11 e12 e13 ef0 ef1 e80 e81 f8 hone0
    generalize (((W5.setCell ⟨b8, 1, none⟩ (.int .i64 (wrap64 (n0 + a)))).setCell ⟨w.heap.size, k * 2, none⟩ (.bool true)).setCell ⟨w.heap.size, k * 2 + 1, none⟩ (.int .i64 (wrap64 (n0 + a)))) = wd at *
    have hst := hst.drew
    have HS2 := Lib.hid hst
    have hu : Try.prog.underlying 24 = some (.array 16 23) := Try.underlying24
    have hi : (Try.prog.info? 24).map (·.size) = some cs2.length := by rw [hlen2]; kernel_rfl
    obtain ⟨r0, t2, e30, e31, e3f, d70, d71, hm8⟩ := hst
    clear hm8
    have x30 := cell_setCells_other e30 (w.heap.size + 1 + 1) 0 cs2 (by simp)
    have x31 := cell_setCells_other e31 (w.heap.size + 1 + 1) 0 cs2 (by simp)
    have x3f : ∀ j, (wd.drew.setCells (w.heap.size + 1 + 1) 0 cs2).frozen? ⟨w.heap.size + 1 + 1 + 1, j, none⟩ = false := fun j => (World.frozen?_setCells _ _ _ _ _).trans (e3f j)
    go_region_held3 (fun w' => w'.rangeAt w.heap.size 0 cs2 ∧ w'.there (w.heap.size + 1 + 1) 0 32 ∧ w'.cell? ⟨b8, 0, none⟩ = some (.bool (true)) ∧ w'.cell? ⟨b8, 1, none⟩ = some (.int .i64 (wrap64 (n0 + a))))
      ((refine ⟨?_, ?_, ?_, ?_⟩ <;> (repeat (first | exact r0 | exact t2 | exact d70 | exact d71 | refine rangeAt_setOther ?_ _ _ (by simp; omega) | refine rangeAt_setCells_other ?_ _ _ _ (by omega) | refine there_setCell ?_ _ _ | refine World.there_setCells ?_ _ _ _ | refine cell_setCell_other ?_ _ _ (by simp; omega) | refine cell_setCells_other ?_ _ _ _ (by simp; omega))))) (fail)
    go_wp2
    refine bodyPost_ret (ref_end rfl rfl HS2.out hlen2) rfl ⟨by rw [K1.out, K2.out, K3.out], ?_⟩
    refine ((HS2.out.2.2.2.2.2.2.2.step (Mod.setCells _ _ _ _) ?_).step (Mod.setCell _ _ _) ?_).step (Mod.setCell _ _ _) ?_
    all_goals (intro i hi hs; simp only [just] at hs; omega)
  ·
    subst ht ha
    go_upto_region 23 with (fail)
    have hst : Stored w ((cs.set (k * 2) (.bool true)).set (k * 2 + 1) (.int .i64 b)) b8 (true) (b) (((((W5.setCell ⟨b8, 0, none⟩ (.bool true)).setCell ⟨b8, 1, none⟩ (.int .i64 b)).setCell ⟨w.heap.size, k * 2, none⟩ (.bool true)).setCell ⟨w.heap.size, k * 2 + 1, none⟩ (.int .i64 b))) := (((HST0.out.r0 hb8 true).r1 hb8 b).set n80 _ (by omega) _).set n80 _ (by simp; omega) _
    have hlen2 : (((cs.set (k * 2) (.bool true)).set (k * 2 + 1) (.int .i64 b))).length = 32 := by simp [hlen]
    have hone2 : ∀ v ∈ (((cs.set (k * 2) (.bool true)).set (k * 2 + 1) (.int .i64 b))), v.oneCell' = true := by
      intro v hv
      first
      | exact hone0 v hv
      | (rcases List.mem_or_eq_of_mem_set hv with hv | rfl
         · rcases List.mem_or_eq_of_mem_set hv with hv | rfl
           · exact hone0 v hv
           · rfl
         · rfl)
    generalize ((cs.set (k * 2) (.bool true)).set (k * 2 + 1) (.int .i64 b)) = cs2 at *
    clear e00 e01 e10 e11 e12 e13 ef0 ef1 e80 e81 f8 hone0
    generalize ((((W5.setCell ⟨b8, 0, none⟩ (.bool true)).setCell ⟨b8, 1, none⟩ (.int .i64 b)).setCell ⟨w.heap.size, k * 2, none⟩ (.bool true)).setCell ⟨w.heap.size, k * 2 + 1, none⟩ (.int .i64 b)) = wd at *
    have hst := hst.drew
    have HS2 := Lib.hid hst
    have hu : Try.prog.underlying 24 = some (.array 16 23) := Try.underlying24
    have hi : (Try.prog.info? 24).map (·.size) = some cs2.length := by rw [hlen2]; kernel_rfl
    obtain ⟨r0, t2, e30, e31, e3f, d70, d71, hm8⟩ := hst
    clear hm8
    have x30 := cell_setCells_other e30 (w.heap.size + 1 + 1) 0 cs2 (by simp)
    have x31 := cell_setCells_other e31 (w.heap.size + 1 + 1) 0 cs2 (by simp)
    have x3f : ∀ j, (wd.drew.setCells (w.heap.size + 1 + 1) 0 cs2).frozen? ⟨w.heap.size + 1 + 1 + 1, j, none⟩ = false := fun j => (World.frozen?_setCells _ _ _ _ _).trans (e3f j)
    go_region_held3 (fun w' => w'.rangeAt w.heap.size 0 cs2 ∧ w'.there (w.heap.size + 1 + 1) 0 32 ∧ w'.cell? ⟨b8, 0, none⟩ = some (.bool (true)) ∧ w'.cell? ⟨b8, 1, none⟩ = some (.int .i64 (b)))
      ((refine ⟨?_, ?_, ?_, ?_⟩ <;> (repeat (first | exact r0 | exact t2 | exact d70 | exact d71 | refine rangeAt_setOther ?_ _ _ (by simp; omega) | refine rangeAt_setCells_other ?_ _ _ _ (by omega) | refine there_setCell ?_ _ _ | refine World.there_setCells ?_ _ _ _ | refine cell_setCell_other ?_ _ _ (by simp; omega) | refine cell_setCells_other ?_ _ _ _ (by simp; omega))))) (fail)
    go_wp2
    refine bodyPost_ret (ref_end rfl rfl HS2.out hlen2) rfl ⟨by rw [K1.out, K2.out, K3.out], ?_⟩
    refine ((HS2.out.2.2.2.2.2.2.2.step (Mod.setCells _ _ _ _) ?_).step (Mod.setCell _ _ _) ?_).step (Mod.setCell _ _ _) ?_
    all_goals (intro i hi hs; simp only [just] at hs; omega)
  · cases there
    · clear ha
      go_upto_region 23 with (fail)
      have hst : Stored w cs b8 (false) (n0) (W5.setCell ⟨b8, 0, none⟩ (.bool false)) := HST0.out.r0 hb8 false
      have hlen2 : (cs).length = 32 := by simp [hlen]
      have hone2 : ∀ v ∈ (cs), v.oneCell' = true := by
        intro v hv
        first
        | exact hone0 v hv
        | (rcases List.mem_or_eq_of_mem_set hv with hv | rfl
           · rcases List.mem_or_eq_of_mem_set hv with hv | rfl
             · exact hone0 v hv
             · rfl
           · rfl)
      clear e00 e01 e10 e11 e12 e13 ef0 ef1 e80 e81 f8 hone0
      generalize W5.setCell ⟨b8, 0, none⟩ (.bool false) = wd at *
      have hst := hst.drew
      have HS2 := Lib.hid hst
      have hu : Try.prog.underlying 24 = some (.array 16 23) := Try.underlying24
      have hi : (Try.prog.info? 24).map (·.size) = some cs.length := by rw [hlen2]; kernel_rfl
      obtain ⟨r0, t2, e30, e31, e3f, d70, d71, hm8⟩ := hst
      clear hm8
      have x30 := cell_setCells_other e30 (w.heap.size + 1 + 1) 0 cs (by simp)
      have x31 := cell_setCells_other e31 (w.heap.size + 1 + 1) 0 cs (by simp)
      have x3f : ∀ j, (wd.drew.setCells (w.heap.size + 1 + 1) 0 cs).frozen? ⟨w.heap.size + 1 + 1 + 1, j, none⟩ = false := fun j => (World.frozen?_setCells _ _ _ _ _).trans (e3f j)
      go_region_held3 (fun w' => w'.rangeAt w.heap.size 0 cs ∧ w'.there (w.heap.size + 1 + 1) 0 32 ∧ w'.cell? ⟨b8, 0, none⟩ = some (.bool (false)) ∧ w'.cell? ⟨b8, 1, none⟩ = some (.int .i64 (n0)))
        ((refine ⟨?_, ?_, ?_, ?_⟩ <;> (repeat (first | exact r0 | exact t2 | exact d70 | exact d71 | refine rangeAt_setOther ?_ _ _ (by simp; omega) | refine rangeAt_setCells_other ?_ _ _ _ (by omega) | refine there_setCell ?_ _ _ | refine World.there_setCells ?_ _ _ _ | refine cell_setCell_other ?_ _ _ (by simp; omega) | refine cell_setCells_other ?_ _ _ _ (by simp; omega))))) (fail)
      go_wp2
      refine bodyPost_ret (ref_end rfl rfl HS2.out hlen2) rfl ⟨by rw [K1.out, K2.out, K3.out], ?_⟩
      refine ((HS2.out.2.2.2.2.2.2.2.step (Mod.setCells _ _ _ _) ?_).step (Mod.setCell _ _ _) ?_).step (Mod.setCell _ _ _) ?_
      all_goals (intro i hi hs; simp only [just] at hs; omega)
    · have ha' : (n0 == a) = false := by simpa using ha
      clear ha
      go_upto_region 23 with (fail)
      have hst : Stored w cs b8 (false) (n0) (W5.setCell ⟨b8, 0, none⟩ (.bool false)) := HST0.out.r0 hb8 false
      have hlen2 : (cs).length = 32 := by simp [hlen]
      have hone2 : ∀ v ∈ (cs), v.oneCell' = true := by
        intro v hv
        first
        | exact hone0 v hv
        | (rcases List.mem_or_eq_of_mem_set hv with hv | rfl
           · rcases List.mem_or_eq_of_mem_set hv with hv | rfl
             · exact hone0 v hv
             · rfl
           · rfl)
      clear e00 e01 e10 e11 e12 e13 ef0 ef1 e80 e81 f8 hone0
      generalize W5.setCell ⟨b8, 0, none⟩ (.bool false) = wd at *
      have hst := hst.drew
      have HS2 := Lib.hid hst
      have hu : Try.prog.underlying 24 = some (.array 16 23) := Try.underlying24
      have hi : (Try.prog.info? 24).map (·.size) = some cs.length := by rw [hlen2]; kernel_rfl
      obtain ⟨r0, t2, e30, e31, e3f, d70, d71, hm8⟩ := hst
      clear hm8
      have x30 := cell_setCells_other e30 (w.heap.size + 1 + 1) 0 cs (by simp)
      have x31 := cell_setCells_other e31 (w.heap.size + 1 + 1) 0 cs (by simp)
      have x3f : ∀ j, (wd.drew.setCells (w.heap.size + 1 + 1) 0 cs).frozen? ⟨w.heap.size + 1 + 1 + 1, j, none⟩ = false := fun j => (World.frozen?_setCells _ _ _ _ _).trans (e3f j)
      go_region_held3 (fun w' => w'.rangeAt w.heap.size 0 cs ∧ w'.there (w.heap.size + 1 + 1) 0 32 ∧ w'.cell? ⟨b8, 0, none⟩ = some (.bool (false)) ∧ w'.cell? ⟨b8, 1, none⟩ = some (.int .i64 (n0)))
        ((refine ⟨?_, ?_, ?_, ?_⟩ <;> (repeat (first | exact r0 | exact t2 | exact d70 | exact d71 | refine rangeAt_setOther ?_ _ _ (by simp; omega) | refine rangeAt_setCells_other ?_ _ _ _ (by omega) | refine there_setCell ?_ _ _ | refine World.there_setCells ?_ _ _ _ | refine cell_setCell_other ?_ _ _ (by simp; omega) | refine cell_setCells_other ?_ _ _ _ (by simp; omega))))) (fail)
      go_wp2
      refine bodyPost_ret (ref_end rfl rfl HS2.out hlen2) rfl ⟨by rw [K1.out, K2.out, K3.out], ?_⟩
      refine ((HS2.out.2.2.2.2.2.2.2.step (Mod.setCells _ _ _ _) ?_).step (Mod.setCell _ _ _) ?_).step (Mod.setCell _ _ _) ?_
      all_goals (intro i hi hs; simp only [just] at hs; omega)
  ·
    go_upto_region 23 with (fail)
    have hst : Stored w ((cs.set (k * 2) (.bool false)).set (k * 2 + 1) (.int .i64 0)) b8 (there) (n0) ((((W5.setCell ⟨b8, 0, none⟩ (.bool there)).setCell ⟨w.heap.size, k * 2, none⟩ (.bool false)).setCell ⟨w.heap.size, k * 2 + 1, none⟩ (.int .i64 0))) := ((HST0.out.r0 hb8 there).set n80 _ (by omega) _).set n80 _ (by simp; omega) _
    have hlen2 : (((cs.set (k * 2) (.bool false)).set (k * 2 + 1) (.int .i64 0))).length = 32 := by simp [hlen]
    have hone2 : ∀ v ∈ (((cs.set (k * 2) (.bool false)).set (k * 2 + 1) (.int .i64 0))), v.oneCell' = true := by
      intro v hv
      first
      | exact hone0 v hv
      | (rcases List.mem_or_eq_of_mem_set hv with hv | rfl
         · rcases List.mem_or_eq_of_mem_set hv with hv | rfl
           · exact hone0 v hv
           · rfl
         · rfl)
    generalize ((cs.set (k * 2) (.bool false)).set (k * 2 + 1) (.int .i64 0)) = cs2 at *
    clear e00 e01 e10 e11 e12 e13 ef0 ef1 e80 e81 f8 hone0
    generalize (((W5.setCell ⟨b8, 0, none⟩ (.bool there)).setCell ⟨w.heap.size, k * 2, none⟩ (.bool false)).setCell ⟨w.heap.size, k * 2 + 1, none⟩ (.int .i64 0)) = wd at *
    have hst := hst.drew
    have HS2 := Lib.hid hst
    have hu : Try.prog.underlying 24 = some (.array 16 23) := Try.underlying24
    have hi : (Try.prog.info? 24).map (·.size) = some cs2.length := by rw [hlen2]; kernel_rfl
    obtain ⟨r0, t2, e30, e31, e3f, d70, d71, hm8⟩ := hst
    clear hm8
    have x30 := cell_setCells_other e30 (w.heap.size + 1 + 1) 0 cs2 (by simp)
    have x31 := cell_setCells_other e31 (w.heap.size + 1 + 1) 0 cs2 (by simp)
    have x3f : ∀ j, (wd.drew.setCells (w.heap.size + 1 + 1) 0 cs2).frozen? ⟨w.heap.size + 1 + 1 + 1, j, none⟩ = false := fun j => (World.frozen?_setCells _ _ _ _ _).trans (e3f j)
    go_region_held3 (fun w' => w'.rangeAt w.heap.size 0 cs2 ∧ w'.there (w.heap.size + 1 + 1) 0 32 ∧ w'.cell? ⟨b8, 0, none⟩ = some (.bool (there)) ∧ w'.cell? ⟨b8, 1, none⟩ = some (.int .i64 (n0)))
      ((refine ⟨?_, ?_, ?_, ?_⟩ <;> (repeat (first | exact r0 | exact t2 | exact d70 | exact d71 | refine rangeAt_setOther ?_ _ _ (by simp; omega) | refine rangeAt_setCells_other ?_ _ _ _ (by omega) | refine there_setCell ?_ _ _ | refine World.there_setCells ?_ _ _ _ | refine cell_setCell_other ?_ _ _ (by simp; omega) | refine cell_setCells_other ?_ _ _ _ (by simp; omega))))) (fail)
    go_wp2
    refine bodyPost_ret (ref_end rfl rfl HS2.out hlen2) rfl ⟨by rw [K1.out, K2.out, K3.out], ?_⟩
    refine ((HS2.out.2.2.2.2.2.2.2.step (Mod.setCells _ _ _ _) ?_).step (Mod.setCell _ _ _) ?_).step (Mod.setCell _ _ _) ?_
    all_goals (intro i hi hs; simp only [just] at hs; omega)
end Go.Proofs.Ytphkfhgeliefcaa
