/- The walk of kv.Do at every values and op. -/
import Derived.Test.YtphkfhgeliefcaaKvOne
import Derived.Test.YtphkfhgeliefcaaLibRange
import Derived.Deep.CutRange
set_option linter.unusedVariables false
set_option linter.unusedSimpArgs false
namespace Go.Proofs.Ytphkfhgeliefcaa
open Go.RowKit Go.Ours

def kvCells (D : List (Bool × Int)) : List Value := D.flatMap fun c => [.bool c.1, .int .i64 c.2]
def kvVal (D : List (Bool × Int)) : Value := .agg (kvCells D).toArray

theorem kvCells_cons (c : Bool × Int) (D : List (Bool × Int)) : kvCells (c :: D) = .bool c.1 :: .int .i64 c.2 :: kvCells D := rfl
theorem kvCells_length (D : List (Bool × Int)) : (kvCells D).length = 2 * D.length := by
  induction D with
  | nil => rfl
  | cons c D ih => rw [kvCells_cons]; simp [ih]; omega
theorem kvCells_get : ∀ (D : List (Bool × Int)) (k : Nat) (c : Bool × Int), D[k]? = some c → (kvCells D)[2 * k]? = some (.bool c.1) ∧ (kvCells D)[2 * k + 1]? = some (.int .i64 c.2)
  | [], k, c, h => by simp at h
  | d :: D, 0, c, h => by simp at h; subst h; exact ⟨rfl, rfl⟩
  | d :: D, k + 1, c, h => by
    have := kvCells_get D k c (by simpa using h)
    rw [kvCells_cons]
    exact this
theorem kvCells_set : ∀ (D : List (Bool × Int)) (k : Nat) (b : Bool) (n : Int), ((kvCells D).set (2 * k) (.bool b)).set (2 * k + 1) (.int .i64 n) = kvCells (D.set k (b, n))
  | [], k, b, n => by simp [kvCells]
  | d :: D, 0, b, n => rfl
  | d :: D, k + 1, b, n => by
    have := kvCells_set D k b n
    rw [kvCells_cons]
    show Value.bool d.1 :: Value.int .i64 d.2 :: ((kvCells D).set (2 * k) (.bool b)).set (2 * k + 1) (.int .i64 n) = _
    rw [this]; rfl

theorem one_v (there : Bool) (n kind key a b : Int) (w : World) (hk : 1 ≤ kind ∧ kind ≤ 5) (t : Bool) (m : Int) (ok : Bool) (r : Int) (h : kvOne there n kind a b = ((t, m), (ok, r))) :
    Calls Try.prog 13 #[.agg #[.bool there, .int .i64 n], .agg #[.int .i64 kind, .int .i64 key, .int .i64 a, .int .i64 b]] w fun e w' =>
      e = .returned (.tuple #[.agg #[.bool t, .int .i64 m], .agg #[.bool ok, .int .i64 r]]) ∧ Mod none' w w' := by
  have := one_c there n kind key a b w hk
  rw [h] at this
  exact this


/-- What stands behind 'x, r := one(..)': the two new variables, and all that was there. -/
def Behind (W : World) (t : Bool) (m : Int) (ok : Bool) (r : Int) (s6 s7 : Value) (wc : World) : Prop :=
  ∃ b6 b7 : Nat, s6 = .pointer (some ⟨b6, 0, none⟩) ∧ s7 = .pointer (some ⟨b7, 0, none⟩) ∧ W.heap.size ≤ b6 ∧ W.heap.size ≤ b7 ∧
    wc.cell? ⟨b6, 0, none⟩ = some (.bool t) ∧ wc.cell? ⟨b6, 1, none⟩ = some (.int .i64 m) ∧ wc.cell? ⟨b7, 0, none⟩ = some (.bool ok) ∧ wc.cell? ⟨b7, 1, none⟩ = some (.int .i64 r) ∧ Mod none' W wc

def doCells (cs : List Value) (k : Nat) (t : Bool) (m : Int) (s : Bool) : List Value := if s then (cs.set (k * 2) (.bool t)).set (k * 2 + 1) (.int .i64 m) else cs
def sel (kind : Int) (ok : Bool) : Bool := !(kind == 1) && (!(kind == 4) || ok)


/-- What stands behind the 'if': the values, the results' variables, the answer. -/
def Stored (w : World) (cs : List Value) (b7 : Nat) (ok : Bool) (r : Int) (wd : World) : Prop :=
  wd.rangeAt w.heap.size 0 cs ∧ wd.there (w.heap.size + 1 + 1) 0 32 ∧ wd.cell? ⟨w.heap.size + 1 + 1 + 1, 0, none⟩ = some (.bool false) ∧ wd.cell? ⟨w.heap.size + 1 + 1 + 1, 1, none⟩ = some (.int .i64 0) ∧
    (∀ j, wd.frozen? ⟨w.heap.size + 1 + 1 + 1, j, none⟩ = false) ∧ wd.cell? ⟨b7, 0, none⟩ = some (.bool ok) ∧ wd.cell? ⟨b7, 1, none⟩ = some (.int .i64 r) ∧ Mod none' w wd

theorem Stored.set {w : World} {cs : List Value} {b7 : Nat} {ok : Bool} {r : Int} {wd : World} (h : Stored w cs b7 ok r wd) (hb : ¬ b7 = w.heap.size) (j : Nat) (hj : j < cs.length) (v : Value) :
    Stored w (cs.set j v) b7 ok r (wd.setCell ⟨w.heap.size, j, none⟩ v) := by
  obtain ⟨h1, h2, h3, h4, h5, h6, h7, h8⟩ := h
  refine ⟨?_, there_setCell h2 _ _, cell_setCell_other h3 _ _ (by simp; omega), cell_setCell_other h4 _ _ (by simp; omega), fun j => by rw [World.frozen?_setCell]; exact h5 j, cell_setCell_other h6 _ _ hb, cell_setCell_other h7 _ _ hb, ?_⟩
  · have := rangeAt_set h1 j v hj
    rwa [Nat.zero_add] at this
  · exact h8.step (Mod.setCell _ _ _) (fun i hi hs => by simp only [just] at hs; omega)
theorem Stored.drew {w : World} {cs : List Value} {b7 : Nat} {ok : Bool} {r : Int} {wd : World} (h : Stored w cs b7 ok r wd) : Stored w cs b7 ok r wd.drew := by
  obtain ⟨h1, h2, h3, h4, h5, h6, h7, h8⟩ := h
  exact ⟨h1, h2, h3, h4, h5, h6, h7, h8.trans (Mod.drew _ _)⟩

theorem do_end {w wd : World} {cs : List Value} {b7 : Nat} {ok : Bool} {r : Int} {tmps : Array Value} (hp : tmps.getD 4 undef = .pointer (some ⟨w.heap.size + 1 + 1, 0, none⟩)) (hq : tmps.getD 5 undef = .pointer (some ⟨w.heap.size + 1 + 1 + 1, 0, none⟩))
    (h : Stored w cs b7 ok r wd) (hl : cs.length = 32) :
    (results Try.f8 tmps).run Try.prog (((wd.setCells (w.heap.size + 1 + 1) 0 cs).setCell ⟨w.heap.size + 1 + 1 + 1, 0, none⟩ (.bool ok)).setCell ⟨w.heap.size + 1 + 1 + 1, 1, none⟩ (.int .i64 r)) =
      .ok (.tuple #[.agg cs.toArray, .agg #[.bool ok, .int .i64 r]]) (((wd.setCells (w.heap.size + 1 + 1) 0 cs).setCell ⟨w.heap.size + 1 + 1 + 1, 0, none⟩ (.bool ok)).setCell ⟨w.heap.size + 1 + 1 + 1, 1, none⟩ (.int .i64 r)) := by
  obtain ⟨h1, h2, h3, h4, h5, h6, h7, h8⟩ := h
  refine results_cells2 Try.results8 hp hq ?_ ?_
  · refine run_loadVar_mid _ _ _ _ _ _ ?_ Try.underlying24 rfl (by rw [hl]; kernel_rfl)
    refine rangeAt_setOther (rangeAt_setOther ?_ _ _ (by simp)) _ _ (by simp)
    exact World.rangeAt_setCells_same _ _ _ _ (by rw [hl]; exact h2)
  · refine run_loadVar_mid _ _ _ _ [.bool ok, .int .i64 r] _ ?_ Try.underlying30 rfl (by kernel_rfl)
    have x3 := cell_setCells_other h3 (w.heap.size + 1 + 1) 0 cs (by simp)
    have x4 := cell_setCells_other h4 (w.heap.size + 1 + 1) 0 cs (by simp)
    refine rangeAt_cons ?_ (rangeAt_cons ?_ (rangeAt_nil _ _ _))
    · rw [World.cell?_setCell_other _ _ _ _ (by simp)]
      exact World.cell?_setCell_same _ _ _ x3
    · exact World.cell?_setCell_same _ _ _ (show World.cell? _ _ = some _ by rw [World.cell?_setCell_other _ _ _ _ (by simp)]; exact x4)

set_option maxHeartbeats 2000000 in
theorem do_c (cs : List Value) (there : Bool) (n kind a b : Int) (k : Nat) (w : World) (hk : k < 16) (hkind : 1 ≤ kind ∧ kind ≤ 5) (hC : cs.length = 32) (hone' : ∀ v ∈ cs, v.oneCell' = true)
   (h0 : cs[k * 2]? = some (.bool there)) (h1 : cs[k * 2 + 1]? = some (.int .i64 n)) (t : Bool) (m : Int) (ok : Bool) (r : Int) (hone : kvOne there n kind a b = ((t, m), (ok, r))) :
    Calls Try.prog 8 #[.agg cs.toArray, .agg #[.int .i64 kind, .int .i64 k, .int .i64 a, .int .i64 b]] w fun e w' =>
      e = .returned (.tuple #[.agg (doCells cs k t m (sel kind ok)).toArray, .agg #[.bool ok, .int .i64 r]]) ∧ Mod none' w w' := by
  have HC := Lib.hid hC
  have HO := Lib.hid hone
  have H1 := Lib.hid hone'
  clear hC hone hone'
  obtain ⟨k1, k5⟩ := hkind
  go_enter Try.func8, Try.ntmps8
  go_upto_region 3 with (fail)
  generalize hW : (World.alloc (World.alloc (World.alloc (World.alloc w _) _) _) _) = W
  obtain ⟨hs, hb0, hb1, hb2, hb3, hM⟩ : W.heap.size = w.heap.size + 4 ∧ _ ∧ _ ∧ _ ∧ _ ∧ Mod none' w W := by rw [← hW]; exact allocs4 _ _ _ _ _
  rw [hW] at hb0 hb1 hb2 hb3
  clear hW
  have HS := Lib.hid hs
  have B0 := Lib.hid hb0
  have B1 := Lib.hid hb1
  have B2 := Lib.hid hb2
  have B3 := Lib.hid hb3
  have zW00 : w.heap.size < W.heap.size := by omega
  have zW01 : w.heap.size < W.heap.size + 1 := by omega
  have zW10 : w.heap.size + 1 < W.heap.size := by omega
  have zW11 : w.heap.size + 1 < W.heap.size + 1 := by omega
  have zW20 : w.heap.size + 1 + 1 < W.heap.size := by omega
  have zW21 : w.heap.size + 1 + 1 < W.heap.size + 1 := by omega
  have zW30 : w.heap.size + 1 + 1 + 1 < W.heap.size := by omega
  have zW31 : w.heap.size + 1 + 1 + 1 < W.heap.size + 1 := by omega
  have c00 := (cell_of_block hb0 (k * 2)).trans (by simpa using h0)
  have c01 := (cell_of_block hb0 (k * 2 + 1)).trans (by simpa using h1)
  have c10 : W.cell? ⟨w.heap.size + 1, 0, none⟩ = some (.int .i64 kind) := cell_of_block hb1 0
  have c11 : W.cell? ⟨w.heap.size + 1, 1, none⟩ = some (.int .i64 ↑k) := cell_of_block hb1 1
  have c12 : W.cell? ⟨w.heap.size + 1, 2, none⟩ = some (.int .i64 a) := cell_of_block hb1 2
  have c13 : W.cell? ⟨w.heap.size + 1, 3, none⟩ = some (.int .i64 b) := cell_of_block hb1 3
  clear hs hb0 hb1 hb2 hb3 h0 h1
  go_cut [6, 7] from 28 to 36 (fun s6 s7 wc => Behind W t m ok r s6 s7 wc)
  case first =>
    go_region_held3 (fun w' => w'.cell? ⟨w.heap.size + 1, 1, none⟩ = some (.int .i64 ↑k) ∧ w'.cell? ⟨w.heap.size, k * 2, none⟩ = some (.bool there) ∧ w'.cell? ⟨w.heap.size, k * 2 + 1, none⟩ = some (.int .i64 n) ∧
      w'.cell? ⟨w.heap.size + 1, 0, none⟩ = some (.int .i64 kind) ∧ w'.cell? ⟨w.heap.size + 1, 2, none⟩ = some (.int .i64 a) ∧ w'.cell? ⟨w.heap.size + 1, 3, none⟩ = some (.int .i64 b))
     ((refine ⟨?_, ?_, ?_, ?_, ?_, ?_⟩ <;> go_simp))
     (first | (go_at_call 13; refine (one_v _ _ _ _ _ _ _ ⟨k1, k5⟩ _ _ _ _ HO.out).mono ?_; rintro e w1 ⟨rfl, hm⟩; have f0 := hm.keepsNone (p := ⟨w.heap.size + 1, 1, none⟩) (v := .int .i64 ↑k) (by go_simp); have f1 := hm.keepsNone (p := ⟨w.heap.size, k * 2, none⟩) (v := .bool there) (by go_simp); have f2 := hm.keepsNone (p := ⟨w.heap.size, k * 2 + 1, none⟩) (v := .int .i64 n) (by go_simp); have f3 := hm.keepsNone (p := ⟨w.heap.size + 1, 0, none⟩) (v := .int .i64 kind) (by go_simp); have f4 := hm.keepsNone (p := ⟨w.heap.size + 1, 2, none⟩) (v := .int .i64 a) (by go_simp); have f5 := hm.keepsNone (p := ⟨w.heap.size + 1, 3, none⟩) (v := .int .i64 b) (by go_simp); obtain ⟨hc, hf⟩ := old_facts hm; have hs := hm.size; simp at hs hc hf; (try (have p00 := hc (W.heap.size) 0 (by omega); simp at p00; have q00 := hf (W.heap.size) 0 (by omega); simp at q00)); (try (have p01 := hc (W.heap.size) 1 (by omega); simp at p01; have q01 := hf (W.heap.size) 1 (by omega); simp at q01)); (try (have p10 := hc (W.heap.size + 1) 0 (by omega); simp at p10; have q10 := hf (W.heap.size + 1) 0 (by omega); simp at q10)); (try (have p11 := hc (W.heap.size + 1) 1 (by omega); simp at p11; have q11 := hf (W.heap.size + 1) 1 (by omega); simp at q11)); clear hc hf; have y00 : w.heap.size < w1.heap.size := (by omega); have y01 : w.heap.size < w1.heap.size + 1 := (by omega); have y10 : w.heap.size + 1 < w1.heap.size := (by omega); have y11 : w.heap.size + 1 < w1.heap.size + 1 := (by omega); have y20 : w.heap.size + 1 + 1 < w1.heap.size := (by omega); have y21 : w.heap.size + 1 + 1 < w1.heap.size + 1 := (by omega); have y30 : w.heap.size + 1 + 1 + 1 < w1.heap.size := (by omega); have y31 : w.heap.size + 1 + 1 + 1 < w1.heap.size + 1 := (by omega); (try have x00 : W.heap.size < w1.heap.size := (by omega)); (try have x01 : W.heap.size < w1.heap.size + 1 := (by omega)); (try have x10 : W.heap.size + 1 < w1.heap.size := (by omega)); (try have x11 : W.heap.size + 1 < w1.heap.size + 1 := (by omega))))
    all_goals go_wp2
    all_goals go_meet
    all_goals (case rel => refine ⟨_, _, rfl, rfl, by omega, by omega, by go_simp, by go_simp, by go_simp, by go_simp, ?_⟩; repeat (first | exact Mod.refl _ _ | exact hm | exact (Mod.alloc _ _ _).trans hm | refine Mod.trans ?_ (Mod.alloc _ _ _) | refine Mod.trans ?_ (Mod.drew _ _) | refine Mod.trans ?_ hm | refine Mod.step ?_ (Mod.setCell _ _ _) (fun i hi hs => by simp only [just] at hs; omega)))
  case rest =>
    obtain ⟨b6, b7, rfl, rfl, g6, g7, d60, d61, d70, d71, hmc⟩ := hcut
    have hsz := hmc.size
    have e00 := hmc.keepsNone c00
    have e01 := hmc.keepsNone c01
    have e10 := hmc.keepsNone c10
    have e11 := hmc.keepsNone c11
    have e0f : wc.frozen? ⟨w.heap.size, k * 2, none⟩ = false := (hmc.frozen (p := ⟨w.heap.size, k * 2, none⟩) (by simpa using zW00) (fun h => h)).trans (free_of_block B0.out _)
    have e1f : wc.frozen? ⟨w.heap.size, k * 2 + 1, none⟩ = false := (hmc.frozen (p := ⟨w.heap.size, k * 2 + 1, none⟩) (by simpa using zW00) (fun h => h)).trans (free_of_block B0.out _)
    have r0 : wc.rangeAt w.heap.size 0 cs := hmc.range (range_of_block B0.out) (fun h => h)
    have t2 : wc.there (w.heap.size + 1 + 1) 0 32 := hmc.there (there_of_block B2.out rfl) (fun h => h)
    have e30 : wc.cell? ⟨w.heap.size + 1 + 1 + 1, 0, none⟩ = some (.bool false) := hmc.keepsNone (cell_of_block B3.out 0)
    have e31 : wc.cell? ⟨w.heap.size + 1 + 1 + 1, 1, none⟩ = some (.int .i64 0) := hmc.keepsNone (cell_of_block B3.out 1)
    have e3f : ∀ j, wc.frozen? ⟨w.heap.size + 1 + 1 + 1, j, none⟩ = false := fun j => (hmc.frozen (p := ⟨w.heap.size + 1 + 1 + 1, j, none⟩) (by simpa using zW30) (fun h => h)).trans (free_of_block B3.out j)
    have hlen := HC.out
    have HST : Hid (Stored w cs b7 ok r wc) := ⟨hmc.range (range_of_block B0.out) (fun h => h), hmc.there (there_of_block B2.out rfl) (fun h => h), hmc.keepsNone (cell_of_block B3.out 0), hmc.keepsNone (cell_of_block B3.out 1),
      fun j => (hmc.frozen (p := ⟨w.heap.size + 1 + 1 + 1, j, none⟩) (by simpa using zW30) (fun h => h)).trans (free_of_block B3.out j), d70, d71, hM.trans hmc⟩
    have n72 : ¬ b7 = w.heap.size + 1 + 1 := by omega
    have n73 : ¬ b7 = w.heap.size + 1 + 1 + 1 := by omega
    have n70 : ¬ b7 = w.heap.size := by omega
    clear hmc c00 c01 c10 c11 c12 c13 hM
    go_upto_region 4 with (fail)
    go_cut [48] from 37 to 48 (fun s48 wd => s48 = .bool (sel kind ok) ∧ wd = wc)
    case first =>
      by_cases q1 : kind = 1
      · subst q1
        go_wp2
        go_meet
        case rel => exact ⟨rfl, rfl⟩
      · by_cases q4 : kind = 4
        · subst q4
          cases ok
          · go_wp2
            go_meet
            case rel => exact ⟨rfl, rfl⟩
          · go_wp2
            go_meet
            case rel => exact ⟨rfl, rfl⟩
        · have r1 : (kind == 1) = false := by simpa using q1
          have r4 : (kind == 4) = false := by simpa using q4
          have hs : sel kind ok = true := by simp [sel, r1, r4]
          go_wp2
          go_meet
          case rel => exact ⟨by simp [hs, r1, bne], rfl⟩
    case rest =>
    obtain ⟨rfl, rfl⟩ := hcut
    generalize hsel : sel kind ok = s
    have HSEL := Lib.hid hsel
    clear hsel
    go_upto_if 48 with (fail)
    go_cut [6] from 49 to 52 (fun s6 wd => s6 = .pointer (some ⟨b6, 0, none⟩) ∧ Stored w (doCells cs k t m s) b7 ok r wd)
    case first =>
      cases s
      · go_wp2
        go_meet
        case rel => exact ⟨rfl, HST.out⟩
      · go_wp2
        go_meet
        case rel => exact ⟨rfl, (HST.out.set n70 _ (by omega) _).set n70 _ (by simp; omega) _⟩
    case rest =>
      obtain ⟨rfl, hst⟩ := hcut
      have hst := hst.drew
      have HS2 := Lib.hid hst
      have hlen2 : (doCells cs k t m s).length = 32 := by unfold doCells; split <;> simp [hlen]
      have hone2 : ∀ v ∈ doCells cs k t m s, v.oneCell' = true := by
        have := H1.out
        unfold doCells
        split
        · intro v hv
          rcases List.mem_or_eq_of_mem_set hv with hv | rfl
          · rcases List.mem_or_eq_of_mem_set hv with hv | rfl
            · exact this v hv
            · rfl
          · rfl
        · exact this
      clear HST
      have hu : Try.prog.underlying 24 = some (.array 16 23) := Try.underlying24
      have hi : (Try.prog.info? 24).map (·.size) = some (doCells cs k t m s).length := by rw [hlen2]; kernel_rfl
      generalize hcs2 : doCells cs k t m s = cs2 at *
      have HCS := Lib.hid hcs2
      clear hcs2
      obtain ⟨r0, t2, e30, e31, e3f, d70, d71, hm8⟩ := hst
      clear hm8
      have x30 := cell_setCells_other e30 (w.heap.size + 1 + 1) 0 cs2 (by simp)
      have x31 := cell_setCells_other e31 (w.heap.size + 1 + 1) 0 cs2 (by simp)
      have x3f : ∀ j, (wc.drew.setCells (w.heap.size + 1 + 1) 0 cs2).frozen? ⟨w.heap.size + 1 + 1 + 1, j, none⟩ = false := fun j => (World.frozen?_setCells _ _ _ _ _).trans (e3f j)
      go_wp2
      go_region_held3 (fun w' => w'.rangeAt w.heap.size 0 cs2 ∧ w'.there (w.heap.size + 1 + 1) 0 32 ∧ w'.cell? ⟨b7, 0, none⟩ = some (.bool ok) ∧ w'.cell? ⟨b7, 1, none⟩ = some (.int .i64 r))
        ((refine ⟨?_, ?_, ?_, ?_⟩ <;> (repeat (first | exact r0 | exact t2 | exact d70 | exact d71 | refine rangeAt_setOther ?_ _ _ (by simp; omega) | refine rangeAt_setCells_other ?_ _ _ _ (by omega) | refine there_setCell ?_ _ _ | refine World.there_setCells ?_ _ _ _ | refine cell_setCell_other ?_ _ _ (by simp; omega) | refine cell_setCells_other ?_ _ _ _ (by simp; omega))))) (fail)
      go_wp2
      refine bodyPost_ret (do_end rfl rfl HS2.out hlen2) rfl ⟨by rw [HSEL.out, HCS.out], ?_⟩
      refine ((HS2.out.2.2.2.2.2.2.2.step (Mod.setCells _ _ _ _) ?_).step (Mod.setCell _ _ _) ?_).step (Mod.setCell _ _ _) ?_
      all_goals (intro i hi hs; simp only [just] at hs; omega)
end Go.Proofs.Ytphkfhgeliefcaa
