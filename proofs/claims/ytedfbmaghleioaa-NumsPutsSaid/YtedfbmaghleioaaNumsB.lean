/- The walk of nums.PutPacked, and of the reference's Packed. -/
import Derived.Test.YtedfbmaghleioaaNumsA
import Derived.Test.YtedfbmaghleioaaPlainNums
set_option linter.unusedVariables false
set_option linter.unusedSimpArgs false
namespace Go.Proofs.Ytedfbmaghleioaa
open Go.RowKit Go.Ours

theorem or_128 (y : Nat) : bits BinOp.or IntKind.u8 ((y : Int) % 256) 128 = ((y % 128 + 128 : Nat) : Int) := by
  have h : ∀ a : Fin 256, bits BinOp.or IntKind.u8 ((a.val : Nat) : Int) 128 = ((a.val % 128 + 128 : Nat) : Int) := by decide +kernel
  have := h ⟨y % 256, by omega⟩
  simp only at this
  rw [show ((y : Int) % 256) = ((y % 256 : Nat) : Int) by omega, this]
  omega

theorem less_div (y : Nat) (h : 128 ≤ y) : ((y : Int) / 128).toNat < ((y : Int)).toNat := by omega
theorem div_cast (y : Nat) : Value.int .u64 ((y : Int) / 128) = .int .u64 ((y / 128 : Nat) : Int) := congrArg (Value.int .u64) (by omega)

/-- What holds at the head of each round. -/
def PR (w : World) (l : List Nat) (x : Nat) (s v : Value) (wr : World) : Prop :=
  ∃ y : Nat, y < 18446744073709551616 ∧ s = .int .u64 y ∧ ∃ l', Ow 5 w.heap.size wr v l' ∧ l' ++ packed y = l ++ packed x ∧ Mod none' w wr

set_option maxHeartbeats 400000 in
theorem putPacked_c (A : Option Addr) (n c : Nat) (l : List Nat) (x : Nat) (w : World) (h : Rd w A n l) (hn : A = none → n = 0 ∧ c = 0) (hb : l.length ≤ 1000000000) (hx : x < 18446744073709551616) :
    Calls Try.prog 10 #[.slice A n c, .int .u64 x] w (RetOw w (l ++ packed x)) := by
  have HX := packed_len64 x hx
  go_enter Try.func10, Try.ntmps10
  go_wp2_with (go_at_call 33; refine (clone_c _ _ _ _ _ h hn (by omega)).mono ?_; rintro e w1 ⟨v1, rfl, ho, hm⟩)
  clear h hn
  go_loopw [1, 5] (fun s v wr => PR w l x s v wr) (fun s _ _ => (intOf s).toNat)
  case atStart => exact ⟨x, hx, rfl, l, ho, rfl, hm⟩
  case round =>
    obtain ⟨y, hy, rfl, l', ho', he, hm'⟩ := hrel
    have hlen : l'.length + (packed y).length = l.length + (packed x).length := by
      have := congrArg List.length he
      simpa using this
    have hp := packed_pos y
    by_cases hlt : 128 ≤ y
    · have h1 : (128 : Int) ≤ (y : Int) := by omega
      have HE := Lib.hid he
      have HO := Lib.hid ho'
      have HL := Lib.hid hlen
      clear he ho' hlen ho hm
      go_wp2_with (at_builtin; refine wpList_app byte_slice byte_info rfl _ _ rfl (HO.out.modNone (Mod.alloc none' _ _)) (Rd.one _ _ _ _ (or_128 y)) rfl rfl (by have := HL.out; simp; omega) (by have := hm'.size; simp; omega) ?_; intro v2 w2 h2)
      refine ⟨⟨y / 128, Nat.lt_of_le_of_lt (Nat.div_le_self _ _) hy, div_cast y, l' ++ [y % 128 + 128], h2.own, ?_, h2.still (HO.out.modNone (Mod.alloc none' _ _)) (Nat.le_refl _) (hm'.trans (Mod.alloc _ _ _))⟩, ?_⟩
      · rw [List.append_assoc, ← HE.out, packed_big hlt]; rfl
      · exact less_div y hlt
    · have h1 : (y : Int) < 128 := by omega
      have h0 : (0 : Int) ≤ (y : Int) := by omega
      have hps := packed_small (x := y) (by omega)
      have HPS := Lib.hid hps
      clear hps hy hlt hx
      have HE := Lib.hid he
      have HO := Lib.hid ho'
      have HL := Lib.hid hlen
      have hd : decide ((128 : Int) ≤ (y : Int)) = false := by simpa using h1
      have hd2 : ¬ ((128 : Int) ≤ (y : Int)) := by omega
      have H1 := Lib.hid h1
      clear he ho' hlen ho hm h1 hd
      go_wp2_with (at_builtin; refine wpList_app byte_slice byte_info rfl _ _ rfl (HO.out.modNone (Mod.alloc none' _ _)) (Rd.one _ _ y _ (by have := H1.out; omega)) rfl rfl (by have := HL.out; simp; omega) (by have := hm'.size; simp; omega) ?_; intro v2 w2 h2)
      go_ret
      refine ⟨_, rfl, ?_, h2.still (HO.out.modNone (Mod.alloc none' _ _)) (Nat.le_refl _) (hm'.trans (Mod.alloc _ _ _))⟩
      have := HE.out
      rw [HPS.out] at this
      rw [← this]
      exact h2.own
end Go.Proofs.Ytedfbmaghleioaa
