/- The walk of a reader's Text, where a text is known to lie. -/
import Derived.Test.YtedfbmaghleioaaNumsJ
import Derived.IntWalk
import Derived.Deep.RegionWith
import Derived.RegionTactic
set_option linter.unusedVariables false
set_option linter.unusedSimpArgs false
namespace Go.Proofs.Ytedfbmaghleioaa
open Go.RowKit Go.Ours

def TextR (w : World) (b : Nat) (t : List Nat) (e : Ending) (w' : World) : Prop :=
  ∃ v, e = .returned (.tuple #[v, .int .i64 0]) ∧ (∃ A n c, v = .slice A n c ∧ Rd w' A n t) ∧ Mod (just b) w w'

theorem text_at {l p t r : List Nat} {at_ : Nat} (he : l.drop at_ = p ++ (t ++ r)) : (l.drop (at_ + p.length)).take t.length = t ∧ (at_ ≤ l.length → at_ + p.length + t.length ≤ l.length) := by
  have h1 : l.drop (at_ + p.length) = t ++ r := by
    rw [← List.drop_drop, he, List.drop_left]
  refine ⟨by rw [h1, List.take_left], fun hle => ?_⟩
  have := congrArg List.length he
  simp at this
  omega

set_option maxRecDepth 8000 in
set_option maxHeartbeats 1000000 in
theorem textKnown_c (b : Nat) (A : Option Addr) (n c : Nat) (l t r : List Nat) (at_ k : Nat) (w : World) (h : RdAt w b A n c l at_) (he : l.drop at_ = packed t.length ++ (t ++ r)) (hy : t.length ≤ k) (hk : k ≤ 1000000000) :
    Calls Try.prog 29 #[rptr b, .int .i64 (k : Nat)] w (TextR w b t) := by
  have H1 := countKnown_c b l (t ++ r) at_ t.length k w ⟨_, _, _, h⟩ he hy hk
  have hL := left_c b l (at_ + (packed t.length).length)
  have c1 := h.c1
  obtain ⟨ht, hle⟩ := text_at he
  have hle' := hle (by rw [h.rd.len]; exact h.le)
  have hp := packed_pos t.length
  obtain ⟨s, hs⟩ : ∃ s, s = at_ + (packed t.length).length := ⟨_, rfl⟩
  obtain ⟨T, hT⟩ : ∃ T, T = t.length := ⟨_, rfl⟩
  obtain ⟨L, hLL⟩ : ∃ L, L = l.length := ⟨_, rfl⟩
  obtain ⟨e, hee⟩ : ∃ e, e = s + T := ⟨_, rfl⟩
  rw [← hs] at H1 hL ht hle'
  rw [← hT] at H1 ht hle'
  rw [← hLL] at hL hle'
  have HT := Lib.hid hT
  have HLL := Lib.hid hLL
  have HTT := Lib.hid ht
  have HE := Lib.hid hee
  have HS := Lib.hid hs
  have HSP : Hid (1 ≤ s) := by show _ ≤ _; omega
  have q1 : ¬ ((L : Int) - (s : Int) < (T : Int)) := by omega
  have q2 : (e : Int) ≤ (L : Int) := by omega
  have q3 : (s : Int) + (T : Int) = (e : Int) := by omega
  have q4 : (L : Int) ≤ 1000000000 := by have := h.small; have := h.rd.len; omega
  have q5 : (0 : Int) ≤ (s : Int) := by omega
  have q6 : (0 : Int) ≤ (T : Int) := by omega
  have q7 : (s : Int) ≤ (e : Int) := by omega
  have q8 : (e : Int) - (T : Int) = (s : Int) := by omega
  clear h he hy hk ht hle hle' hp hT hLL hee hs
  unfold rptr at *
  go_enter Try.func29, Try.ntmps29
  go_wp2_with (first
    | (go_at_call 30; refine H1.mono ?_; rintro e0 w2 ⟨rfl, ⟨A2, n2, c2, hR2⟩, hm2⟩)
    | (go_at_call 32; refine (hL w2 ⟨_, _, _, hR2⟩).mono ?_; rintro e0 w3 ⟨rfl, hm3⟩; have hR3 := hR2.mod hm3; have d0 := hR3.c0; have d1 := hR3.c1; have d2 := hR3.fr; have HR3 := Lib.hid hR3; clear hR3))
  have hn2 : n2 = L := by rw [← HR3.out.rd.len, HLL.out]
  subst hn2
  have R4 : RdAt (w3.setCell ⟨b, 1, none⟩ (.int .i64 (e : Int))) b A2 n2 c2 l e := HR3.out.set e e rfl (by omega)
  have m4 : Mod (just b) w (w3.setCell ⟨b, 1, none⟩ (.int .i64 (e : Int))) := (hm2.trans hm3.any).trans (Mod.setIn (S := just b) rfl _ _)
  obtain ⟨W, hW⟩ : ∃ W, W = w3.setCell ⟨b, 1, none⟩ (.int .i64 (e : Int)) := ⟨_, rfl⟩
  rw [← hW] at R4 m4 ⊢
  clear hW
  obtain ⟨bb, oo, rfl, -⟩ := R4.rd.rng (by have := HSP.out; omega)
  have R5 := ((R4.rd.drop (k := s) (by omega)).take (k := T) (by have := HE.out; omega))
  rw [HTT.out] at R5
  have f0 := R4.c0
  have f1 := R4.c1
  have q9 : (n2 : Int) ≤ (c2 : Int) := by have := R4.cap; omega
  have q10 : (e : Int) ≤ (c2 : Int) := by omega
  have q11 : (s : Int) ≤ (c2 : Int) := by omega
  have q12 : (c2 : Int) ≤ 9223372036854775807 := by have := R4.most; unfold maxLen at this; omega
  have q13 : (0 : Int) ≤ (e : Int) := by omega
  have q14 : e - s = T := by have := HE.out; omega
  have q15 : IntKind.i64.wrap (s : Int) = (s : Int) := IntWalk.i64_in _ (by omega)
  have q16 : (e : Int).toNat = e := by omega
  have q17 : (s : Int).toNat = s := by omega
  by_cases hc : c2 = s
  · subst hc
    have hT0 : T = 0 := by have := HE.out; omega
    have ht0 : t = [] := List.eq_nil_of_length_eq_zero (by rw [← HT.out]; exact hT0)
    have hes : e = c2 := by have := HE.out; omega
    subst hes ht0
    subst hT0
    clear d0 d1 d2 hR2
    have R6 := Rd.nil W (some ⟨bb, oo, none⟩)
    go_region_held3 (fun w' => w'.cell? ⟨b, 0, none⟩ = some (.slice (some ⟨bb, oo, none⟩) n2 e) ∧ w'.cell? ⟨b, 1, none⟩ = some (.int .i64 (e : Int))) ((refine ⟨?_, ?_⟩ <;> go_simp))
      (first | (go_at_call 33; refine (clone_c _ _ _ [] _ (Rd.nil _ _) (fun h => by cases h) (by decide)).mono ?_; rintro e0 w5 ⟨v5, rfl, ho5, hm5⟩; have g0 := hm5.keepsNone f0; have g1 := hm5.keepsNone f1))
    all_goals go_wp2
    all_goals go_ret2
    all_goals (obtain ⟨A6, c6, rfl, hr6, -⟩ := ho5.form; exact ⟨_, rfl, ⟨_, _, _, rfl, hr6⟩, (m4.trans (Mod.drew _ _)).trans hm5.any⟩)
  · clear d0 d1 d2 hR2
    go_region_held3 (fun w' => w'.cell? ⟨b, 0, none⟩ = some (.slice (some ⟨bb, oo, none⟩) n2 c2) ∧ w'.cell? ⟨b, 1, none⟩ = some (.int .i64 (e : Int))) ((refine ⟨?_, ?_⟩ <;> go_simp))
      (first | (go_at_call 33; refine (clone_c _ _ _ _ _ (R5.modNone (Mod.drew none' W)) (fun h => by cases h) (by rw [← HT.out]; omega)).mono ?_; rintro e0 w5 ⟨v5, rfl, ho5, hm5⟩; have g0 := hm5.keepsNone f0; have g1 := hm5.keepsNone f1))
    all_goals go_wp2
    all_goals go_ret2
    all_goals (obtain ⟨A6, c6, rfl, hr6, -⟩ := ho5.form; exact ⟨_, rfl, ⟨_, _, _, rfl, hr6⟩, (m4.trans (Mod.drew _ _)).trans hm5.any⟩)
end Go.Proofs.Ytedfbmaghleioaa
