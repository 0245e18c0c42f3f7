/- The walk of the reference's Same; nums.New; what a reader holds. -/
import Derived.Test.YtedfbmaghleioaaNumsC
import Derived.Deep.QuietTactic
import Derived.BigQuiet
import Derived.Deep.CutRange
set_option linter.unusedVariables false
set_option linter.unusedSimpArgs false
namespace Go.Proofs.Ytedfbmaghleioaa
open Go.RowKit Go.Ours

def SR (w : World) (l l' : List Nat) (s : Value) (wr : World) : Prop :=
  ∃ k : Nat, k ≤ l.length ∧ s = .int .i64 k ∧ l.take k = l'.take k ∧ Mod none' w wr

theorem take_step {l l' : List Nat} {k : Nat} (h : l.take k = l'.take k) (e : l[k]? = l'[k]?) : l.take (k + 1) = l'.take (k + 1) := by
  rw [List.take_add_one, List.take_add_one, h, e]

set_option maxHeartbeats 400000 in
theorem same_c (A : Option Addr) (n c : Nat) (l : List Nat) (A' : Option Addr) (n' c' : Nat) (l' : List Nat) (w : World) (h : Rd w A n l) (h' : Rd w A' n' l') (hb : l.length ≤ 10000000000) :
    Calls Try.prog 18 #[.slice A n c, .slice A' n' c'] w fun e w' => e = .returned (.bool (decide (l = l'))) ∧ Mod none' w w' := by
  have hl := h.len
  have hl' := h'.len
  by_cases hn : n = n'
  · subst hn
    have q2 : ((n : Int) == (n : Int)) = true := by simp
    have H := Lib.hid h
    have H' := Lib.hid h'
    have HL := Lib.hid hl
    have HL' := Lib.hid hl'
    have HB : (n : Int) ≤ 10000000000 := by omega
    clear h h' hl hl' hb
    go_enter Try.func18, Try.ntmps18
    go_wp2_with (fail)
    go_loopw [5] (fun s wr => SR w l l' s wr) (fun s _ => n - (intOf s).toNat)
    case atStart => exact ⟨0, Nat.zero_le _, rfl, by simp, Mod.refl _ _⟩
    case round =>
      obtain ⟨k, hk, rfl, he, hm⟩ := hrel
      rw [HL.out] at hk
      by_cases hlt : k < n
      · have hlt' : (k : Int) < (n : Int) := by omega
        obtain ⟨b, o, x, rfl, c1, e1⟩ := (H.out.modNone hm).byte hlt
        obtain ⟨b', o', y, rfl, c2, e2⟩ := (H'.out.modNone hm).byte hlt
        have k0 : (0 : Int) ≤ (k : Int) := by omega
        have k1 : (k : Int).toNat = k := by omega
        have HE := Lib.hid he
        have HM := Lib.hid hm
        have HLT := Lib.hid hlt
        have HX := Lib.hid e1
        have HY := Lib.hid e2
        clear he hm hlt e1 e2
        by_cases hq : x = y
        · subst hq
          have q3 : ((x : Int) != (x : Int)) = false := bne_self_eq_false _
          go_wp2_with (fail)
          go_quiet (fail)
          go_wp2
          have := HLT.out
          exact ⟨⟨k + 1, by rw [HL.out]; omega, by go_num, take_step HE.out (by rw [HX.out, HY.out]), HM.out.trans (Mod.drewN _ _ _)⟩, by simp [intOf]; omega⟩
        · have HQ := Lib.hid hq
          have q1 : ((x : Int) == (y : Int)) = false := beq_eq_false_iff_ne.2 (by omega)
          have q2 : ((x : Int) != (y : Int)) = true := bne_iff_ne.2 (by omega)
          clear hq
          go_wp2_with (fail)
          go_quiet (fail)
          go_wp2
          go_ret
          refine ⟨?_, HM.out.trans (Mod.drewN _ _ _)⟩
          rw [decide_eq_false (fun e => HQ.out (Option.some.inj (by rw [← HX.out, ← HY.out, e])))]; rfl
      · have hlt' : ¬ ((k : Int) < (n : Int)) := by omega
        have hkn : k = n := by omega
        have HE := Lib.hid he
        have HM := Lib.hid hm
        have HK := Lib.hid hkn
        clear he hm hlt hkn
        go_wp2_with (fail)
        go_ret
        refine ⟨?_, HM.out⟩
        have := HE.out
        rw [HK.out, List.take_of_length_le (by rw [HL.out]; omega), List.take_of_length_le (by rw [HL'.out]; omega)] at this
        rw [decide_eq_true this]; rfl
  · have q1 : ((n : Int) == (n' : Int)) = false := by simp; omega
    have q2 : ((n : Int) != (n' : Int)) = true := by simp; omega
    have HN : Hid (¬ l = l') := fun e => hn (by rw [← hl, ← hl', e])
    clear h h' hl hl' hn hb
    go_enter Try.func18, Try.ntmps18
    go_wp2_with (fail)
    go_ret
    exact ⟨by rw [decide_eq_false HN.out]; rfl, Mod.refl _ _⟩
end Go.Proofs.Ytedfbmaghleioaa
