/- The walks of PutFolded, PutText, the reference's Text; of a reader's Folded, Count, Text. -/
import Derived.Test.YtedfbmaghleioaaNumsI
import Derived.Test.YtedfbmaghleioaaLibArgs
import Derived.Deep.RegionHeld3
set_option linter.unusedVariables false
set_option linter.unusedSimpArgs false
namespace Go.Proofs.Ytedfbmaghleioaa
open Go.RowKit Go.Ours

theorem foldN_lt' (x : Int) (hx : -9223372036854775808 ≤ x ∧ x ≤ 9223372036854775807) : foldN x < 18446744073709551616 := by unfold foldN; split <;> omega
theorem wrap_u64 {n : Nat} (h : n < 18446744073709551616) : IntKind.u64.wrap (n : Int) = (n : Int) := by simp [IntKind.wrap, IntKind.bits, IntKind.signed]; omega

attribute [local irreducible] foldN unfoldN in
set_option maxHeartbeats 400000 in
theorem putFolded_c (A : Option Addr) (m c : Nat) (l : List Nat) (x : Int) (w : World) (h : Rd w A m l) (hn : A = none → m = 0 ∧ c = 0) (hb : l.length ≤ 1000000000) (hx : Hid (-9223372036854775808 ≤ x ∧ x ≤ 9223372036854775807)) :
    Calls Try.prog 24 #[.slice A m c, .int .i64 x] w (RetOw w (l ++ packed (foldN x))) := by
  go_enter Try.func24, Try.ntmps24
  go_wp2_with (first
    | (go_at_call 11; refine (fold_c _ _ hx.out).mono ?_; rintro e w' ⟨rfl, rfl⟩)
    | (go_at_call 10; refine (putPacked_c _ _ _ _ _ _ h hn hb (foldN_lt' x hx.out)).mono ?_; rintro e w1 ⟨v1, rfl, ho, hm⟩))
  go_ret
  exact ⟨_, rfl, ho, hm⟩

set_option maxHeartbeats 400000 in
theorem putText_c (A : Option Addr) (m c : Nat) (l : List Nat) (A' : Option Addr) (m' c' : Nat) (l' : List Nat) (w : World) (h : Rd w A m l) (h' : Rd w A' m' l') (hn : A = none → m = 0 ∧ c = 0) (hb : l.length ≤ 1000000000) (hb' : l'.length ≤ 1000000000) :
    Calls Try.prog 25 #[.slice A m c, .slice A' m' c'] w (RetOw w (l ++ packed l'.length ++ l')) := by
  have q1 : (m' : Int) ≤ 1000000000 := by have := h'.len; omega
  have q0 : (0 : Int) ≤ (m' : Int) := by omega
  have HE := Lib.hid h'.len
  have H64 : Hid (m' < 18446744073709551616) := by show _ < _; omega
  have H10 := Lib.hid (packed_len64 m' H64.out)
  rw [HE.out]
  have HB : Hid (l.length ≤ 1000000000 ∧ l'.length ≤ 1000000000) := ⟨hb, hb'⟩
  go_enter Try.func25, Try.ntmps25
  go_wp2_with (first
    | (go_at_call 10; refine (putPacked_c _ _ _ _ _ _ h hn hb H64.out).mono ?_; rintro e w1 ⟨v1, rfl, ho, hm⟩)
    | (at_builtin; refine wpList_app byte_slice byte_info rfl _ _ rfl ho (h'.modNone hm) rfl rfl (by have := HB.out; have := H10.out; rw [List.length_append]; omega) hm.size ?_; intro v2 w2 h2))
  go_ret
  exact ⟨_, rfl, h2.own, h2.still ho (Nat.le_refl _) hm⟩

set_option maxHeartbeats 400000 in
theorem refText_c (A' : Option Addr) (m' c' : Nat) (l' : List Nat) (w : World) (h' : Rd w A' m' l') (hb' : l'.length ≤ 1000000000) :
    Calls Try.prog 27 #[.slice A' m' c'] w (RetOw w (packed l'.length ++ l')) := by
  have q1 : (m' : Int) ≤ 1000000000 := by have := h'.len; omega
  have q0 : (0 : Int) ≤ (m' : Int) := by omega
  have HE := Lib.hid h'.len
  have H64 : Hid (m' < 18446744073709551616) := by show _ < _; omega
  have H10 := Lib.hid (packed_len64 m' H64.out)
  rw [HE.out]
  have HB : Hid (l'.length ≤ 1000000000) := hb'
  go_enter Try.func27, Try.ntmps27
  go_wp2_with (first
    | (go_at_call 26; refine (refPacked_c _ _ H64.out).mono ?_; rintro e w1 ⟨v1, rfl, ho, hm⟩)
    | (at_builtin; refine wpList_app byte_slice byte_info rfl _ _ rfl ho (h'.modNone hm) rfl rfl (by have := HB.out; have := H10.out; omega) hm.size ?_; intro v2 w2 h2))
  go_ret
  exact ⟨_, rfl, h2.own, h2.still ho (Nat.le_refl _) hm⟩

attribute [local irreducible] foldN unfoldN in
set_option maxHeartbeats 400000 in
theorem foldedKnown_c (b : Nat) (l r : List Nat) (at_ y : Nat) (w : World) (h : Rdr w b l at_) (he : l.drop at_ = packed y ++ r) (hy : Hid (y < 18446744073709551616)) :
    Calls Try.prog 28 #[rptr b] w fun e w' => e = .returned (.tuple #[.int .i64 (unfoldN y), .int .i64 0]) ∧ Rdr w' b l (at_ + (packed y).length) ∧ Mod (just b) w w' := by
  obtain ⟨A, n, c, H⟩ := h
  have H1 := packedAt_c b A n c l at_ w H
  unfold rptr at *
  go_enter Try.func28, Try.ntmps28
  go_wp2_with (first
    | (go_at_call 16; refine H1.mono ?_; intro e w2 h2; obtain ⟨rfl, hR2, hm2⟩ := h2.known he hy.out; clear h2)
    | (go_at_call 13; refine (unfold_c _ _ hy.out).mono ?_; rintro e w' ⟨rfl, rfl⟩))
  go_ret2
  exact ⟨rfl, hR2, hm2⟩

set_option maxHeartbeats 400000 in
theorem countKnown_c (b : Nat) (l r : List Nat) (at_ y k : Nat) (w : World) (h : Rdr w b l at_) (he : l.drop at_ = packed y ++ r) (hy : y ≤ k) (hk : k ≤ 1000000000) :
    Calls Try.prog 30 #[rptr b, .int .i64 (k : Nat)] w fun e w' => e = .returned (.tuple #[.int .i64 (y : Nat), .int .i64 0]) ∧ Rdr w' b l (at_ + (packed y).length) ∧ Mod (just b) w w' := by
  obtain ⟨A, n, c, H⟩ := h
  have H1 := packedAt_c b A n c l at_ w H
  have c1 := H.c1
  have H64 : Hid (y < 18446744073709551616) := by show _ < _; omega
  have q1 : ¬ ((k : Int) < 0) := by omega
  have q2 : ¬ ((k : Int) < (y : Int)) := by omega
  have q3 : (k : Int) ≤ 1000000000 := by omega
  have q4 : (y : Int) ≤ 1000000000 := by omega
  have q5 : (0 : Int) ≤ (k : Int) := by omega
  have q6 : (0 : Int) ≤ (y : Int) := by omega
  clear hy hk
  unfold rptr at *
  go_enter Try.func30, Try.ntmps30
  go_wp2_with (go_at_call 16; refine H1.mono ?_; intro e w2 h2; obtain ⟨rfl, hR2, hm2⟩ := h2.known he H64.out; clear h2)
  go_ret2
  exact ⟨rfl, hR2, hm2⟩
end Go.Proofs.Ytedfbmaghleioaa
