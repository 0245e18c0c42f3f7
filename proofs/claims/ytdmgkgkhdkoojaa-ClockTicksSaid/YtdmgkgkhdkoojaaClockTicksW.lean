/- The walk of consistorylaw20.ClockTicks: whatever ticks and resets come, the clock goes off where the document says, at every input. -/
import Derived.Test.YtdmgkgkhdkoojaaClockTickW
namespace Go.Proofs.Ytdmgkgkhdkoojaa
open Go.RowKit Go.Ours

/-- One act of the list, in memory. -/
theorem act_cells {w : World} {a2 : Option Addr} {l2 c2 : Nat} (k2 : Shp.Reads w (.slice (.pair (.int .i64) (.pair .bool (.pair .bool .unit)))) [.slice a2 l2 c2]) {k : Nat} (hk : k < l2) :
    ∃ b o r y z, a2 = some ⟨b, o, none⟩ ∧ w.cell? ⟨b, o + k * 3, none⟩ = some (.int .i64 r) ∧ w.cell? ⟨b, o + k * 3 + 1, none⟩ = some (.bool y) ∧ w.cell? ⟨b, o + k * 3 + 2, none⟩ = some (.bool z) ∧ b < w.heap.size := by
  obtain ⟨h1, h2, h3⟩ := len_of_reads k2
  cases a2 with
  | none => have := (h3 rfl).1; omega
  | some a =>
    obtain ⟨b, o, rfl, vs, hl, hc, hr⟩ := elem_of_reads k2 (by simp [Shp.size]) (i := k) (by omega)
    simp only [Shp.size, Nat.reduceAdd] at hl hc
    match vs, hl with
    | [x, y, z], _ =>
      simp only [Shp.Reads, Shp.size, List.take, List.drop] at hr
      obtain ⟨⟨n, hn, _⟩, ⟨y', hy⟩, ⟨z', hz⟩, _⟩ := hr
      have c0 := hc 0 (by omega)
      have c1 := hc 1 (by omega)
      have c2 := hc 2 (by omega)
      simp only [List.cons.injEq, and_true] at hn hy hz
      subst hn hy hz
      refine ⟨b, o, n, y', z', rfl, by simpa using c0, by simpa using c1, by simpa using c2, ?_⟩
      by_cases hb : b < w.heap.size
      · exact hb
      · simp only [World.cell?, Array.getElem?_eq_none (Nat.le_of_not_lt hb)] at c0; simp at c0

def tkAt (base top n reg : Int) (busy : Bool) : Int := if busy then (if goesOff base top n reg then 0 else n + 1) else 0

/-- What holds at the head of each round. -/
def TR (w : World) (a0 a1 : Int) (l2 : Nat) (x i : Value) (wr : World) : Prop :=
  ∃ k : Nat, k ≤ l2 ∧ i = .int .i64 k ∧ ∃ n : Int, 0 ≤ n ∧ n ≤ k ∧ x = .int .i64 n ∧ ClkIn wr (w.heap.size + 1) (hld a0) (hld a1) n ∧ Mod none' w wr ∧ w.heap.size + 1 < wr.heap.size

theorem TR.next {w : World} {a0 a1 : Int} {l2 k : Nat} {q : Int} {w2 : World} (hk : k < l2) (h0 : 0 ≤ q) (h1 : q ≤ k + 1) (hc : ClkIn w2 (w.heap.size + 1) (hld a0) (hld a1) q)
    (hm : Mod none' w w2) (hs : w.heap.size + 1 < w2.heap.size) (m : Nat) : TR w a0 a1 l2 (.int .i64 q) (.int .i64 (↑k + 1)) (w2.drewN m) ∧ l2 - (intOf (.int .i64 (↑k + 1))).toNat < l2 - (intOf (.int .i64 ↑k)).toNat :=
  ⟨⟨k + 1, by omega, by go_num, q, h0, by omega, rfl, hc.drewN m, hm.trans (Mod.drewN _ _ _), hs⟩, by simp [intOf]; omega⟩

set_option maxHeartbeats 2000000 in
theorem walkClockTicks (a0 : Int) (a1 : Int) (a2 : Option Addr) (l2 c2 : Nat) (w : World) (_w0 : (Lit.int .i64 a0).wf = true) (_w1 : (Lit.int .i64 a1).wf = true) (k2 : Shp.Reads w (.slice (.pair (.int .i64) (.pair .bool (.pair .bool .unit)))) [.slice a2 l2 c2]) :
    Calls Try.prog 4 #[.int .i64 a0, .int .i64 a1, .slice a2 l2 c2] w fun e w' => e = .returned (.bool true) ∧ Below w.heap.size w w' := by
  by_cases hbig : (3000 : Int) < (l2 : Int)
  · go_enter Try.func4, Try.ntmps4
    go_wp2_with (first
      | (go_at_call 6; refine (wakes_c _).mono ?_; rintro e w' ⟨rfl, rfl⟩))
    all_goals go_ret
    all_goals exact ⟨rfl, (Below.refl _ _).alloc (Nat.le_refl _) _⟩
  · have hl : l2 ≤ 3000 := by omega
    have HA := Lib.hid (fun k (hk : k < l2) => act_cells k2 hk)
    clear k2
    go_enter Try.func4, Try.ntmps4
    go_wp2_with (first
      | (go_at_call 6; refine (wakes_c _).mono ?_; rintro e w' ⟨rfl, rfl⟩)
      | (go_at_call 7; refine (new_c _ _ _).mono ?_; rintro e w' ⟨rfl, rfl⟩))
    go_loopw [8, 23] (fun x i wr => TR w a0 a1 l2 x i wr) (fun _ i _ => l2 - (intOf i).toNat)
    case atStart =>
      refine ⟨0, by omega, rfl, 0, by omega, by omega, rfl, ?_, ?_, by simp⟩
      · unfold ClkIn; simp
      · exact (Mod.alloc _ _ _).trans (Mod.alloc _ _ _)
    case round =>
      obtain ⟨k, hk, rfl, n, hn0, hnk, rfl, hclk, hmod, hsz⟩ := hrel
      by_cases hlt : k < l2
      · obtain ⟨b, o, r, y, z, rfl, e0, e1, e2, hb⟩ := HA.out k hlt
        have e0' := hmod.keepsNone e0
        have e1' := hmod.keepsNone e1
        have e2' := hmod.keepsNone e2
        clear e0 e1 e2
        have HC := Lib.hid (hclk.alloc hsz (.cells #[.int .i64 r, .bool y, .bool z] 29))
        have HM := Lib.hid (hmod.trans (Mod.alloc _ _ (.cells #[.int .i64 r, .bool y, .bool z] 29)))
        clear hclk hmod
        have hbd0 := hld_bd a0
        have hbd1 := hld_bd a1
        cases z
        · cases y
          · go_wp2_with (fail)
            refine (tick_idle _ _ _ _ _ _ HC.out).mono ?_
            rintro e w1 ⟨rfl, hm1, hz1, hc1⟩
            have hmA := hm1
            have x0 := hmA.cell (p := ⟨wr.heap.size, 0, none⟩) (by simp) (by simp [just]; omega)
            have x1 := hmA.cell (p := ⟨wr.heap.size, 1, none⟩) (by simp) (by simp [just]; omega)
            simp at x0 x1
            clear hm1 hz1
            have HMA := Lib.hid hmA
            clear hmA
            go_wp2_with (fail)
            go_quiet (first
              | (go_at_call 12; exact Calls.quiet_of_same (P := Try.prog) ((at_c _ (0) _ (by simpa using hc1.2.2.1)).mono fun _ _ h => ⟨h.1, h.2.symm⟩))
              | (go_at_call 8; exact Calls.quiet_of_same (P := Try.prog) ((limit_c _ _ _ _ _ hbd0 hbd1 (by simpa using hc1.1) (by simpa using hc1.2.1)).mono fun _ _ h => ⟨h.1, h.2.symm⟩))
              | (go_at_call 11; exact Calls.quiet_of_same (P := Try.prog) ((limit_r _ _ _ _ hbd0).mono fun _ _ h => ⟨h.1, h.2.symm⟩)))
            go_wp2
            have hmA := HMA.out
            exact TR.next hlt (by omega) (by omega) hc1 (HM.out.step hmA (fun i hi hs => by simp only [just] at hs; omega)) (by have := hmA.size; simp at this; omega) _
          · by_cases hoff : lim (hld a0) (hld a1) r ≤ n + 1
            · have g1 : goesOff (hld a0) (hld a1) n r = true := by unfold goesOff; simpa using hoff
              have g2 : decide (lim (hld a0) (hld a1) r ≤ n + 1) = true := by simpa using hoff
              go_wp2_with (fail)
              refine (tick_busy _ _ _ n _ _ HC.out hbd0 hbd1 (by omega)).mono ?_
              rintro e w1 ⟨rfl, hm1, hz1, hc1⟩
              rw [g1] at hc1
              rw [g1]
              simp only [if_true, Bool.false_eq_true, if_false] at hc1
              have hmA := hm1
              have x0 := hmA.cell (p := ⟨wr.heap.size, 0, none⟩) (by simp) (by simp [just]; omega)
              have x1 := hmA.cell (p := ⟨wr.heap.size, 1, none⟩) (by simp) (by simp [just]; omega)
              simp at x0 x1
              clear hm1 hz1
              have HMA := Lib.hid hmA
              clear hmA
              go_wp2_with (go_at_call 11; refine (limit_r _ _ _ _ hbd0).mono ?_; rintro e w' ⟨rfl, rfl⟩)
              go_quiet (first
                | (go_at_call 12; exact Calls.quiet_of_same (P := Try.prog) ((at_c _ (0) _ (by simpa using hc1.2.2.1)).mono fun _ _ h => ⟨h.1, h.2.symm⟩))
                | (go_at_call 8; exact Calls.quiet_of_same (P := Try.prog) ((limit_c _ _ _ _ _ hbd0 hbd1 (by simpa using hc1.1) (by simpa using hc1.2.1)).mono fun _ _ h => ⟨h.1, h.2.symm⟩))
                | (go_at_call 11; exact Calls.quiet_of_same (P := Try.prog) ((limit_r _ _ _ _ hbd0).mono fun _ _ h => ⟨h.1, h.2.symm⟩)))
              go_wp2
              have hmA := HMA.out
              exact TR.next hlt (by omega) (by omega) hc1 (HM.out.step hmA (fun i hi hs => by simp only [just] at hs; omega)) (by have := hmA.size; simp at this; omega) _
            · have g1 : goesOff (hld a0) (hld a1) n r = false := by unfold goesOff; simpa using hoff
              have g2 : decide (lim (hld a0) (hld a1) r ≤ n + 1) = false := by simpa using hoff
              go_wp2_with (fail)
              refine (tick_busy _ _ _ n _ _ HC.out hbd0 hbd1 (by omega)).mono ?_
              rintro e w1 ⟨rfl, hm1, hz1, hc1⟩
              rw [g1] at hc1
              rw [g1]
              simp only [if_true, Bool.false_eq_true, if_false] at hc1
              have hmA := hm1
              have x0 := hmA.cell (p := ⟨wr.heap.size, 0, none⟩) (by simp) (by simp [just]; omega)
              have x1 := hmA.cell (p := ⟨wr.heap.size, 1, none⟩) (by simp) (by simp [just]; omega)
              simp at x0 x1
              clear hm1 hz1
              have HMA := Lib.hid hmA
              clear hmA
              go_wp2_with (go_at_call 11; refine (limit_r _ _ _ _ hbd0).mono ?_; rintro e w' ⟨rfl, rfl⟩)
              go_quiet (first
                | (go_at_call 12; exact Calls.quiet_of_same (P := Try.prog) ((at_c _ (n + 1) _ (by simpa using hc1.2.2.1)).mono fun _ _ h => ⟨h.1, h.2.symm⟩))
                | (go_at_call 8; exact Calls.quiet_of_same (P := Try.prog) ((limit_c _ _ _ _ _ hbd0 hbd1 (by simpa using hc1.1) (by simpa using hc1.2.1)).mono fun _ _ h => ⟨h.1, h.2.symm⟩))
                | (go_at_call 11; exact Calls.quiet_of_same (P := Try.prog) ((limit_r _ _ _ _ hbd0).mono fun _ _ h => ⟨h.1, h.2.symm⟩)))
              go_wp2
              have hmA := HMA.out
              exact TR.next hlt (by omega) (by omega) hc1 (HM.out.step hmA (fun i hi hs => by simp only [just] at hs; omega)) (by have := hmA.size; simp at this; omega) _
        · go_wp2_with (fail)
          refine (reset_c _ _ _ _ _ HC.out).mono ?_
          rintro e wz ⟨rfl, hmz, hzz, hcz⟩
          have x0 := hmz.cell (p := ⟨wr.heap.size, 0, none⟩) (by simp) (by simp [just]; omega)
          have x1 := hmz.cell (p := ⟨wr.heap.size, 1, none⟩) (by simp) (by simp [just]; omega)
          simp at x0 x1
          cases y
          · go_wp2_with (fail)
            refine (tick_idle _ _ _ _ _ _ hcz).mono ?_
            rintro e w1 ⟨rfl, hm1, hz1, hc1⟩
            have hmA := hmz.trans hm1
            clear x0 x1
            have x0 := hmA.cell (p := ⟨wr.heap.size, 0, none⟩) (by simp) (by simp [just]; omega)
            have x1 := hmA.cell (p := ⟨wr.heap.size, 1, none⟩) (by simp) (by simp [just]; omega)
            simp at x0 x1
            clear hm1 hz1
            have HMA := Lib.hid hmA
            clear hmA
            go_wp2_with (fail)
            go_quiet (first
              | (go_at_call 12; exact Calls.quiet_of_same (P := Try.prog) ((at_c _ (0) _ (by simpa using hc1.2.2.1)).mono fun _ _ h => ⟨h.1, h.2.symm⟩))
              | (go_at_call 8; exact Calls.quiet_of_same (P := Try.prog) ((limit_c _ _ _ _ _ hbd0 hbd1 (by simpa using hc1.1) (by simpa using hc1.2.1)).mono fun _ _ h => ⟨h.1, h.2.symm⟩))
              | (go_at_call 11; exact Calls.quiet_of_same (P := Try.prog) ((limit_r _ _ _ _ hbd0).mono fun _ _ h => ⟨h.1, h.2.symm⟩)))
            go_wp2
            have hmA := HMA.out
            exact TR.next hlt (by omega) (by omega) hc1 (HM.out.step hmA (fun i hi hs => by simp only [just] at hs; omega)) (by have := hmA.size; simp at this; omega) _
          · by_cases hoff : lim (hld a0) (hld a1) r ≤ 0 + 1
            · have g1 : goesOff (hld a0) (hld a1) 0 r = true := by unfold goesOff; simpa using hoff
              have g2 : decide (lim (hld a0) (hld a1) r ≤ 1) = true := by simpa using hoff
              go_wp2_with (fail)
              refine (tick_busy _ _ _ 0 _ _ hcz hbd0 hbd1 (by omega)).mono ?_
              rintro e w1 ⟨rfl, hm1, hz1, hc1⟩
              rw [g1] at hc1
              rw [g1]
              simp only [if_true, Bool.false_eq_true, if_false] at hc1
              have hmA := hmz.trans hm1
              clear x0 x1
              have x0 := hmA.cell (p := ⟨wr.heap.size, 0, none⟩) (by simp) (by simp [just]; omega)
              have x1 := hmA.cell (p := ⟨wr.heap.size, 1, none⟩) (by simp) (by simp [just]; omega)
              simp at x0 x1
              clear hm1 hz1
              have HMA := Lib.hid hmA
              clear hmA
              go_wp2_with (go_at_call 11; refine (limit_r _ _ _ _ hbd0).mono ?_; rintro e w' ⟨rfl, rfl⟩)
              go_quiet (first
                | (go_at_call 12; exact Calls.quiet_of_same (P := Try.prog) ((at_c _ (0) _ (by simpa using hc1.2.2.1)).mono fun _ _ h => ⟨h.1, h.2.symm⟩))
                | (go_at_call 8; exact Calls.quiet_of_same (P := Try.prog) ((limit_c _ _ _ _ _ hbd0 hbd1 (by simpa using hc1.1) (by simpa using hc1.2.1)).mono fun _ _ h => ⟨h.1, h.2.symm⟩))
                | (go_at_call 11; exact Calls.quiet_of_same (P := Try.prog) ((limit_r _ _ _ _ hbd0).mono fun _ _ h => ⟨h.1, h.2.symm⟩)))
              go_wp2
              have hmA := HMA.out
              exact TR.next hlt (by omega) (by omega) hc1 (HM.out.step hmA (fun i hi hs => by simp only [just] at hs; omega)) (by have := hmA.size; simp at this; omega) _
            · have g1 : goesOff (hld a0) (hld a1) 0 r = false := by unfold goesOff; simpa using hoff
              have g2 : decide (lim (hld a0) (hld a1) r ≤ 1) = false := by simpa using hoff
              go_wp2_with (fail)
              refine (tick_busy _ _ _ 0 _ _ hcz hbd0 hbd1 (by omega)).mono ?_
              rintro e w1 ⟨rfl, hm1, hz1, hc1⟩
              rw [g1] at hc1
              rw [g1]
              simp only [if_true, Bool.false_eq_true, if_false] at hc1
              have hmA := hmz.trans hm1
              clear x0 x1
              have x0 := hmA.cell (p := ⟨wr.heap.size, 0, none⟩) (by simp) (by simp [just]; omega)
              have x1 := hmA.cell (p := ⟨wr.heap.size, 1, none⟩) (by simp) (by simp [just]; omega)
              simp at x0 x1
              clear hm1 hz1
              have HMA := Lib.hid hmA
              clear hmA
              go_wp2_with (go_at_call 11; refine (limit_r _ _ _ _ hbd0).mono ?_; rintro e w' ⟨rfl, rfl⟩)
              go_quiet (first
                | (go_at_call 12; exact Calls.quiet_of_same (P := Try.prog) ((at_c _ (0 + 1) _ (by simpa using hc1.2.2.1)).mono fun _ _ h => ⟨h.1, h.2.symm⟩))
                | (go_at_call 8; exact Calls.quiet_of_same (P := Try.prog) ((limit_c _ _ _ _ _ hbd0 hbd1 (by simpa using hc1.1) (by simpa using hc1.2.1)).mono fun _ _ h => ⟨h.1, h.2.symm⟩))
                | (go_at_call 11; exact Calls.quiet_of_same (P := Try.prog) ((limit_r _ _ _ _ hbd0).mono fun _ _ h => ⟨h.1, h.2.symm⟩)))
              go_wp2
              have hmA := HMA.out
              exact TR.next hlt (by omega) (by omega) hc1 (HM.out.step hmA (fun i hi hs => by simp only [just] at hs; omega)) (by have := hmA.size; simp at this; omega) _
      · go_wp2
        all_goals go_ret
        all_goals exact ⟨rfl, hmod.belowAll⟩
end Go.Proofs.Ytdmgkgkhdkoojaa
