/- The walk of the reference's Same: have two the same values? -/
import Derived.Test.YtphkfhgeliefcaaKvDo
import Derived.BigQuiet
import Derived.Deep.QuietTactic
set_option linter.unusedVariables false
set_option linter.unusedSimpArgs false
namespace Go.Proofs.Ytphkfhgeliefcaa
open Go.RowKit Go.Ours

def alike (c d : Bool × Int) : Bool := c.1 == d.1 && (!c.1 || c.2 == d.2)
def sameB (D E : List (Bool × Int)) : Bool := (D.zip E).all fun p => alike p.1 p.2

theorem sameB_true {D E : List (Bool × Int)} (h : ∀ (k : Nat) (c d : Bool × Int), D[k]? = some c → E[k]? = some d → alike c d = true) : sameB D E = true := by
  unfold sameB
  rw [List.all_eq_true]
  intro p hp
  obtain ⟨k, hk⟩ := List.getElem?_of_mem hp
  rw [List.getElem?_zip_eq_some] at hk
  exact h k _ _ hk.1 hk.2
theorem sameB_false {D E : List (Bool × Int)} {k : Nat} {c d : Bool × Int} (h1 : D[k]? = some c) (h2 : E[k]? = some d) (h : alike c d = false) : sameB D E = false := by
  unfold sameB
  rw [List.all_eq_false]
  refine ⟨(c, d), ?_, by simp [h]⟩
  exact List.mem_of_getElem? ((List.getElem?_zip_eq_some).2 ⟨h1, h2⟩)
theorem sameB_refl (D : List (Bool × Int)) : sameB D D = true := sameB_true fun k c d h1 h2 => by
  rw [h1] at h2; obtain rfl := Option.some.inj h2; simp [alike]

def SR (w : World) (D E : List (Bool × Int)) (i : Value) (wr : World) : Prop :=
  ∃ k : Nat, k ≤ 16 ∧ i = .int .i64 k ∧ (∀ (j : Nat) (c d : Bool × Int), j < k → D[j]? = some c → E[j]? = some d → alike c d = true) ∧ wr.rangeAt w.heap.size 0 (kvCells D) ∧ wr.rangeAt (w.heap.size + 1) 0 (kvCells E) ∧ Mod none' w wr

set_option maxHeartbeats 1000000 in
theorem same_c (D E : List (Bool × Int)) (w : World) (hD : D.length = 16) (hE : E.length = 16) :
    Calls Try.prog 10 #[kvVal D, kvVal E] w fun e w' => e = .returned (.bool (sameB D E)) ∧ Mod none' w w' := by
  unfold kvVal
  have HD := Lib.hid hD
  have HE := Lib.hid hE
  clear hD hE
  go_enter Try.func10, Try.ntmps10
  go_wp2
  go_loopw [5] (fun i wr => SR w D E i wr) (fun i _ => 16 - (intOf i).toNat)
  case atStart =>
    refine ⟨0, by omega, rfl, by intro j c d h; omega, ?_, ?_, ?_⟩
    · exact (range_of_block (t := 24) (fr := (0, 0)) (heap_alloc2_old _ _ _))
    · exact (range_of_block (t := 24) (fr := (0, 0)) (heap_alloc2_new _ _ _))
    · exact (Mod.alloc _ _ _).trans (Mod.alloc _ _ _)
  case round =>
    obtain ⟨k, hk, rfl, hall, r0, r1, hm⟩ := hrel
    by_cases hlt : k < 16
    · obtain ⟨c, hc⟩ : ∃ c, D[k]? = some c := ⟨D[k]'(by rw [HD.out]; exact hlt), List.getElem?_eq_getElem _⟩
      obtain ⟨d, hd⟩ : ∃ d, E[k]? = some d := ⟨E[k]'(by rw [HE.out]; exact hlt), List.getElem?_eq_getElem _⟩
      obtain ⟨c0, c1⟩ := kvCells_get D k c hc
      obtain ⟨d0, d1⟩ := kvCells_get E k d hd
      have e0 := r0 _ _ c0
      have e1 := r0 _ _ c1
      have g0 := r1 _ _ d0
      have g1 := r1 _ _ d1
      rw [Nat.zero_add, Nat.mul_comm] at e0 e1 g0 g1
      have h0k : (0 : Int) ≤ (k : Int) := by omega
      have h16 : (k : Int) < 16 := by omega
      obtain ⟨ct, cn⟩ := c
      obtain ⟨dt, dn⟩ := d
      simp only at e0 e1 g0 g1
      have R0 := Lib.hid r0
      have R1 := Lib.hid r1
      have HM := Lib.hid hm
      have HA := Lib.hid hall
      have HCk := Lib.hid hc
      have HDk := Lib.hid hd
      clear r0 r1 hm hall hc hd c0 c1 d0 d1
      have HN : alike (ct, cn) (dt, dn) = true → ∀ (j : Nat) (c d : Bool × Int), j < k + 1 → D[j]? = some c → E[j]? = some d → alike c d = true := by
        intro ha j c d hj h1 h2
        by_cases e : j = k
        · subst e
          rw [HCk.out] at h1; rw [HDk.out] at h2
          obtain rfl := Option.some.inj h1; obtain rfl := Option.some.inj h2
          exact ha
        · exact HA.out j c d (by omega) h1 h2
      have HN' := Lib.hid HN
      clear HN
      cases ct <;> cases dt
      · go_wp2_with (fail)
        go_quiet (fail)
        go_wp2
        exact ⟨⟨k + 1, by omega, by go_num, HN'.out rfl, R0.out, R1.out, HM.out.trans (Mod.drewN _ _ _)⟩, by simp [intOf]; omega⟩
      · go_wp2_with (fail)
        go_quiet (fail)
        go_wp2
        go_ret
        exact ⟨by rw [sameB_false HCk.out HDk.out rfl]; rfl, HM.out.trans (Mod.drewN _ _ _)⟩
      · go_wp2_with (fail)
        go_quiet (fail)
        go_wp2
        go_ret
        exact ⟨by rw [sameB_false HCk.out HDk.out rfl]; rfl, HM.out.trans (Mod.drewN _ _ _)⟩
      · by_cases hq : cn = dn
        · subst hq
          go_wp2_with (fail)
          go_quiet (fail)
          go_wp2
          exact ⟨⟨k + 1, by omega, by go_num, HN'.out (by simp [alike]), R0.out, R1.out, HM.out.trans (Mod.drewN _ _ _)⟩, by simp [intOf]; omega⟩
        · have q1 : (cn == dn) = false := by simpa using hq
          have q2 : (cn != dn) = true := by simpa using hq
          have Q := Lib.hid hq
          clear hq
          go_wp2_with (fail)
          go_quiet (fail)
          go_wp2
          go_ret
          exact ⟨by rw [sameB_false HCk.out HDk.out (by simp [alike, q1])]; rfl, HM.out.trans (Mod.drewN _ _ _)⟩
    · have hk16 : k = 16 := by omega
      subst hk16
      have HA := Lib.hid hall
      clear hall r0 r1
      go_wp2
      go_ret
      refine ⟨?_, hm⟩
      rw [sameB_true fun j c d h1 h2 => HA.out j c d ?_ h1 h2]
      · rfl
      · have := HD.out
        by_cases hj : j < 16
        · exact hj
        · rw [List.getElem?_eq_none (by omega)] at h1; cases h1
end Go.Proofs.Ytphkfhgeliefcaa
