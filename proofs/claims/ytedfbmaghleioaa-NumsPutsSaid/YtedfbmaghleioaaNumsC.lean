/- The walk of the reference's Packed, of Fold and Unfold and the reference's, of the fixed numbers. -/
import Derived.Test.YtedfbmaghleioaaNumsB
set_option linter.unusedVariables false
set_option linter.unusedSimpArgs false
namespace Go.Proofs.Ytedfbmaghleioaa
open Go.RowKit Go.Ours

def PR2 (w : World) (x : Nat) (s v : Value) (wr : World) : Prop :=
  ∃ y : Nat, y < 18446744073709551616 ∧ s = .int .u64 y ∧ ∃ l', Ow 5 w.heap.size wr v l' ∧ l' ++ packed y = packed x ∧ Mod none' w wr

set_option maxHeartbeats 400000 in
theorem refPacked_c (x : Nat) (w : World) (hx : x < 18446744073709551616) :
    Calls Try.prog 26 #[.int .u64 x] w (RetOw w (packed x)) := by
  have HX := packed_len64 x hx
  go_enter Try.func26, Try.ntmps26
  go_wp2_with (fail)
  go_loopw [0, 3] (fun s v wr => PR2 w x s v wr) (fun s _ _ => (intOf s).toNat)
  case atStart => exact ⟨x, hx, rfl, [], Ow.nil _ _ _, rfl, Mod.refl _ _⟩
  case round =>
    obtain ⟨y, hy, rfl, l', ho', he, hm'⟩ := hrel
    have hlen : l'.length + (packed y).length = (packed x).length := by
      have := congrArg List.length he
      simpa using this
    have hp := packed_pos y
    have HE := Lib.hid he
    have HO := Lib.hid ho'
    have HL := Lib.hid hlen
    by_cases hlt : 128 ≤ y
    · have h1 : (127 : Int) < (y : Int) := by omega
      clear he ho' hlen
      go_wp2_with (at_builtin; refine wpList_app byte_slice byte_info rfl _ _ rfl (HO.out.modNone (Mod.alloc none' _ _)) (Rd.one _ _ (y % 128 + 128) _ (by omega)) rfl rfl (by have := HL.out; simp; omega) (by have := hm'.size; simp; omega) ?_; intro v2 w2 h2)
      refine ⟨⟨y / 128, Nat.lt_of_le_of_lt (Nat.div_le_self _ _) hy, div_cast y, l' ++ [y % 128 + 128], h2.own, ?_, h2.still (HO.out.modNone (Mod.alloc none' _ _)) (Nat.le_refl _) (hm'.trans (Mod.alloc _ _ _))⟩, ?_⟩
      · rw [List.append_assoc, ← HE.out, packed_big hlt]; rfl
      · exact less_div y hlt
    · have h0 : (0 : Int) ≤ (y : Int) := by omega
      have HPS := Lib.hid (packed_small (x := y) (by omega))
      have H1 : Hid ((y : Int) < 128) := by show _ < _; omega
      have hd2 : ¬ ((127 : Int) < (y : Int)) := by omega
      clear hy hlt hx he ho' hlen
      go_wp2_with (at_builtin; refine wpList_app byte_slice byte_info rfl _ _ rfl (HO.out.modNone (Mod.alloc none' _ _)) (Rd.one _ _ y _ (by have := H1.out; omega)) rfl rfl (by have := HL.out; simp; omega) (by have := hm'.size; simp; omega) ?_; intro v2 w2 h2)
      go_ret
      refine ⟨_, rfl, ?_, h2.still (HO.out.modNone (Mod.alloc none' _ _)) (Nat.le_refl _) (hm'.trans (Mod.alloc _ _ _))⟩
      have := HE.out
      rw [HPS.out] at this
      rw [← this]
      exact h2.own

def foldN (x : Int) : Nat := if x < 0 then (-2 * x - 1).toNat else (2 * x).toNat
def unfoldN (x : Nat) : Int := if x % 2 = 1 then - ((x / 2 : Nat) : Int) - 1 else ((x / 2 : Nat) : Int)

theorem ret_int {k : IntKind} {a b : Int} (h : a = b) : Ending.returned (.int k a) = .returned (.int k b) := by rw [h]

theorem xor_ones (a : Nat) (ha : a < 18446744073709551616) : a ^^^ 18446744073709551615 = 18446744073709551615 - a := by
  have h := BitVec.xor_allOnes (x := BitVec.ofNat 64 a)
  have h2 := congrArg BitVec.toNat h
  simp only [BitVec.toNat_xor, BitVec.toNat_ofNat, BitVec.toNat_not, BitVec.toNat_allOnes] at h2
  rw [Nat.mod_eq_of_lt (by omega)] at h2
  simpa using h2

theorem fold_bits (x : Int) (hx : -9223372036854775808 ≤ x ∧ x ≤ 9223372036854775807) :
    bits BinOp.xor IntKind.u64 (IntKind.u64.wrap (IntKind.u64.wrap x * 2)) (IntKind.u64.wrap (x / 9223372036854775808)) = ((foldN x : Nat) : Int) := by
  have hw : ∀ n : Int, IntKind.u64.wrap n = n % 18446744073709551616 := fun n => by simp [IntKind.wrap, IntKind.bits, IntKind.signed]
  rw [hw, hw, hw]
  unfold foldN
  by_cases h : x < 0
  · have e1 : ((x % 18446744073709551616 * 2) % 18446744073709551616) = (((2 * x + 18446744073709551616).toNat : Nat) : Int) := by omega
    have e2 : (x / 9223372036854775808) % 18446744073709551616 = ((18446744073709551615 : Nat) : Int) := by omega
    rw [e1, e2, u64_xor_nat _ _ (by omega) (by omega), xor_ones _ (by omega), if_pos h]
    omega
  · have e1 : ((x % 18446744073709551616 * 2) % 18446744073709551616) = (((2 * x).toNat : Nat) : Int) := by omega
    have e2 : (x / 9223372036854775808) % 18446744073709551616 = ((0 : Nat) : Int) := by omega
    rw [e1, e2, u64_xor_nat _ _ (by omega) (by omega), Nat.xor_zero, if_neg h]

theorem and_1 (x : Nat) (hx : x < 18446744073709551616) : bits BinOp.and IntKind.u64 (x : Int) 1 = ((x % 2 : Nat) : Int) := by
  have := u64_and_nat x 1 hx (by omega)
  rw [Nat.and_one_is_mod] at this
  exact this

theorem xor_neg1 (a : Nat) (ha : a < 9223372036854775808) : bits BinOp.xor IntKind.i64 ((a : Nat) : Int) (-((1 : Nat) : Int)) = -((a : Nat) : Int) - 1 := by
  show IntKind.i64.wrap ((BitVec.ofInt 64 (a : Int) ^^^ BitVec.ofInt 64 (-1)).toNat : Int) = _
  have h1 : BitVec.ofInt 64 (-1) = BitVec.allOnes 64 := by decide
  rw [h1, BitVec.xor_allOnes, BitVec.toNat_not, ofInt_u64 a (by omega)]
  simp [IntKind.wrap, IntKind.bits, IntKind.signed]
  omega
theorem xor_zero64 (a : Nat) (ha : a < 9223372036854775808) : bits BinOp.xor IntKind.i64 ((a : Nat) : Int) (-((0 : Nat) : Int)) = ((a : Nat) : Int) := by
  show IntKind.i64.wrap ((BitVec.ofInt 64 (a : Int) ^^^ BitVec.ofInt 64 0).toNat : Int) = _
  have h1 : BitVec.ofInt 64 0 = 0#64 := by decide
  rw [h1, BitVec.xor_zero, ofInt_u64 a (by omega)]
  simp [IntKind.wrap, IntKind.bits, IntKind.signed]
  omega

theorem unfold_bits (x : Nat) (hx : x < 18446744073709551616) :
    bits BinOp.xor IntKind.i64 ((x : Int) / 2) (wrap64 (-wrap64 (bits BinOp.and IntKind.u64 (x : Int) 1))) = unfoldN x := by
  rw [and_1 x hx]
  unfold unfoldN
  have hw : ∀ n : Int, -2 ≤ n → n ≤ 2 → wrap64 n = n := fun n h1 h2 => by unfold wrap64; omega
  by_cases h : x % 2 = 1
  · rw [if_pos h, h, hw ((1 : Nat) : Int) (by omega) (by omega), hw _ (by omega) (by omega)]
    have := xor_neg1 (x / 2) (by omega)
    rw [show ((x : Int) / 2) = ((x / 2 : Nat) : Int) by omega]
    exact this
  · rw [if_neg h, show x % 2 = 0 by omega, hw ((0 : Nat) : Int) (by omega) (by omega), hw _ (by omega) (by omega)]
    rw [show ((x : Int) / 2) = ((x / 2 : Nat) : Int) by omega]
    exact xor_zero64 (x / 2) (by omega)

set_option maxHeartbeats 400000 in
theorem fold_c (x : Int) (w : World) (hx : -9223372036854775808 ≤ x ∧ x ≤ 9223372036854775807) :
    Calls Try.prog 11 #[.int .i64 x] w fun e w' => e = .returned (.int .u64 (foldN x : Nat)) ∧ w = w' := by
  have HX := Lib.hid (fold_bits x hx)
  go_enter Try.func11, Try.ntmps11
  go_wp2
  go_ret
  exact ⟨by show Ending.returned (Value.int .u64 _) = _; rw [HX.out], rfl⟩
set_option maxHeartbeats 400000 in
theorem unfold_c (x : Nat) (w : World) (hx : x < 18446744073709551616) :
    Calls Try.prog 13 #[.int .u64 x] w fun e w' => e = .returned (.int .i64 (unfoldN x)) ∧ w = w' := by
  have HX := Lib.hid (unfold_bits x hx)
  go_enter Try.func13, Try.ntmps13
  go_wp2
  go_ret
  exact ⟨by show Ending.returned (Value.int .i64 _) = _; rw [HX.out], rfl⟩
set_option maxHeartbeats 400000 in
theorem refFold_c (x : Int) (w : World) (hx : -9223372036854775808 ≤ x ∧ x ≤ 9223372036854775807) :
    Calls Try.prog 12 #[.int .i64 x] w fun e w' => e = .returned (.int .u64 (foldN x : Nat)) ∧ w = w' := by
  by_cases h : x < 0
  · have HF : Hid (((foldN x : Nat) : Int) = -2 * x - 1) := by show _ = _; unfold foldN; rw [if_pos h]; omega
    go_enter Try.func12, Try.ntmps12
    go_wp2
    go_ret
    exact ⟨ret_int (by have := HF.out; omega), rfl⟩
  · have HF : Hid (((foldN x : Nat) : Int) = 2 * x) := by show _ = _; unfold foldN; rw [if_neg h]; omega
    have h' : (0 : Int) ≤ x := by omega
    go_enter Try.func12, Try.ntmps12
    go_wp2
    go_ret
    exact ⟨ret_int (by have := HF.out; omega), rfl⟩
set_option maxHeartbeats 400000 in
theorem refUnfold_c (x : Nat) (w : World) (hx : x < 18446744073709551616) :
    Calls Try.prog 14 #[.int .u64 x] w fun e w' => e = .returned (.int .i64 (unfoldN x)) ∧ w = w' := by
  by_cases h : x % 2 = 1
  · have HF : Hid (unfoldN x = - ((x / 2 : Nat) : Int) - 1) := by show _ = _; unfold unfoldN; rw [if_pos h]
    have hq : ((x : Int) % 2 == 1) = true := by simp; omega
    go_enter Try.func14, Try.ntmps14
    go_wp2
    go_ret
    exact ⟨ret_int (by have := HF.out; omega), rfl⟩
  · have HF : Hid (unfoldN x = ((x / 2 : Nat) : Int)) := by show _ = _; unfold unfoldN; rw [if_neg h]
    have hq : ((x : Int) % 2 == 1) = false := by simp; omega
    go_enter Try.func14, Try.ntmps14
    go_wp2
    go_ret
    exact ⟨ret_int (by have := HF.out; omega), rfl⟩
end Go.Proofs.Ytedfbmaghleioaa
