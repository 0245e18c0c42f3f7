/- The walks of the reference's Fixed, and of a reader's Fixed. -/
import Derived.Test.YtedfbmaghleioaaNumsH
set_option linter.unusedVariables false
set_option linter.unusedSimpArgs false
namespace Go.Proofs.Ytedfbmaghleioaa
open Go.RowKit Go.Ours

def FR2 (w : World) (x n : Nat) (s v : Value) (wr : World) : Prop :=
  ∃ k : Nat, k ≤ n ∧ v = .int .i64 k ∧ Ow 5 w.heap.size wr s ((fixedB x n).take k) ∧ Mod none' w wr
def GR (x j k : Nat) (s v : Value) : Prop :=
  ∃ t : Nat, k + t ≤ j - 1 ∧ v = .int .i64 ((k + t : Nat) : Int) ∧ s = .int .u64 ((x / 256 ^ t : Nat) : Int)
theorem wrap256 {y : Nat} (hy : y < 18446744073709551616) : IntKind.u64.wrap ((y : Int) / 256) = ((y / 256 : Nat) : Int) := by
  simp [IntKind.wrap, IntKind.bits, IntKind.signed]; omega
theorem GR.next {x y j k t kt : Nat} (hy : y < 18446744073709551616) (hkt : kt = k + t) (h : kt < j - 1) (he : y = x / 256 ^ t) : GR x j k (.int .u64 (IntKind.u64.wrap (y / 256))) (.int .i64 ((kt : Int) + 1)) := by
  subst hkt
  refine ⟨t + 1, by omega, rfl, ?_⟩
  rw [wrap256 hy, he, Nat.pow_succ, ← Nat.div_div_eq_div_mul]

set_option maxHeartbeats 1000000 in
theorem refFixed_c (x : Nat) (n : Int) (w : World) (hx : Hid (x < 18446744073709551616)) :
    Calls Try.prog 21 #[.int .u64 (x : Nat), .int .i64 n] w (RetOw w (fixedL x n)) := by
  by_cases hw : wideB n = true
  · obtain ⟨j, rfl, hj, hj1⟩ : ∃ j : Nat, n = (j : Int) ∧ j ≤ 8 ∧ 1 ≤ j := by
      rcases wideB_true hw with rfl | rfl | rfl | rfl
      · exact ⟨1, rfl, by omega, by omega⟩
      · exact ⟨2, rfl, by omega, by omega⟩
      · exact ⟨4, rfl, by omega, by omega⟩
      · exact ⟨8, rfl, by omega, by omega⟩
    have e : fixedL x (j : Int) = fixedB x j := by unfold fixedL; rw [if_pos hw]; rfl
    rw [e]
    have j1 : (j : Int) ≤ 8 := by omega
    have j2 : (1 : Int) ≤ (j : Int) := by omega
    clear e
    go_enter Try.func21, Try.ntmps21
    go_wp2_with (go_at_call 22; refine (refWide_c _ _).mono ?_; rintro e w2 ⟨rfl, rfl⟩)
    go_loopw [5, 6] (fun s v wr => FR2 w2 x j s v wr) (fun _ s _ => j - (intOf s).toNat)
    case atStart => exact ⟨0, Nat.zero_le _, rfl, Ow.nil _ _ _, Mod.refl _ _⟩
    case round =>
      obtain ⟨k, hk, rfl, ho', hm'⟩ := hrel
      by_cases hlt : k < j
      · have k1 : (k : Int) < (j : Int) := by omega
        have k0 : (0 : Int) ≤ (k : Int) := by omega
        have x0 : (0 : Int) ≤ (x : Int) := by omega
        have HK := Lib.hid hlt
        have HO := Lib.hid ho'
        have HM := Lib.hid hm'
        clear hlt hk ho' hm'
        go_wp2_with (fail)
        go_loopw [7, 8] (fun s v wi => GR x j k s v ∧ wi = wr) (fun _ s _ => j - (intOf s).toNat)
        case atStart => exact ⟨⟨0, by have := HK.out; omega, rfl, by simp⟩, rfl⟩
        case round =>
          obtain ⟨⟨t, ht, rfl, rfl⟩, rfl⟩ := hrel
          obtain ⟨kt, hkt⟩ : ∃ kt, kt = k + t := ⟨_, rfl⟩
          rw [← hkt]
          have y0 : (0 : Int) ≤ ((x / 256 ^ t : Nat) : Int) := Int.natCast_nonneg _
          obtain ⟨y, hy⟩ : ∃ y, y = x / 256 ^ t := ⟨_, rfl⟩
          rw [← hy] at y0 ⊢
          have hyx : y < 18446744073709551616 := by rw [hy]; exact Nat.lt_of_le_of_lt (Nat.div_le_self _ _) hx.out
          by_cases hq : kt < j - 1
          · have g1 : (kt : Int) < (j : Int) - 1 := by omega
            have g0 : (0 : Int) ≤ (kt : Int) := by omega
            have HY := Lib.hid hyx
            have HQ := Lib.hid hq
            have HKT := Lib.hid hkt
            have HYE := Lib.hid hy
            clear hq hyx hkt hy ht
            go_wp2_with (fail)
            have a1 := HQ.out
            exact ⟨⟨GR.next HY.out HKT.out HQ.out HYE.out, trivial⟩, by simp [intOf]; omega⟩
          · have g1 : ¬ ((kt : Int) < (j : Int) - 1) := by omega
            have HT : Hid (t = j - 1 - k) := by show _ = _; omega
            have HYE := Lib.hid hy
            clear hq hyx hkt hy ht
            go_wp2_with (at_builtin; refine wpList_app byte_slice byte_info rfl _ _ rfl (HO.out.modNone (Mod.alloc none' _ _)) (Rd.one _ _ (x / 256 ^ (j - 1 - k) % 256) _ (by rw [HYE.out, HT.out]; rfl)) rfl rfl (by have := HK.out; simp [fixed_len]; omega) (by have := HM.out.size; simp; omega) ?_; intro v2 w2 h2)
            have a1 := HK.out
            exact ⟨⟨k + 1, by omega, by go_num, by rw [fixed_step x j k a1]; exact h2.own, h2.still (HO.out.modNone (Mod.alloc none' _ _)) (Nat.le_refl _) (HM.out.trans (Mod.alloc _ _ _))⟩, by simp [intOf]; omega⟩
      · have k1 : ¬ ((k : Int) < (j : Int)) := by omega
        have HK : Hid (k = j) := by show _ = _; omega
        have HO := Lib.hid ho'
        clear hlt hk ho'
        go_wp2
        go_ret
        refine ⟨_, rfl, ?_, hm'⟩
        have := HO.out
        rw [HK.out, List.take_of_length_le (by rw [fixed_len]; exact Nat.le_refl _)] at this
        exact this
  · have hw' : wideB n = false := by simpa using hw
    have e : fixedL x n = [] := by unfold fixedL; rw [hw']; rfl
    rw [e]
    clear hw e hx
    go_enter Try.func21, Try.ntmps21
    go_wp2_with (go_at_call 22; refine (refWide_c _ _).mono ?_; rintro e w2 ⟨rfl, rfl⟩)
    go_ret
    exact ⟨_, rfl, Ow.nil _ _ _, Mod.refl _ _⟩
theorem or_add_256 (c v : Nat) (hc : c < 256) : c ||| (v * 256) = c + v * 256 := by
  have := Nat.two_pow_add_eq_or_of_lt (i := 8) (b := c) (by omega) v
  rw [Nat.or_comm, Nat.mul_comm, Nat.add_comm]
  exact this.symm
def bev (l : List Nat) : Nat := l.foldl (fun a b => 256 * a + b) 0
theorem bev_snoc (l : List Nat) (c : Nat) : bev (l ++ [c]) = 256 * bev l + c := by simp [bev]
theorem bev_lt (l : List Nat) (h : ∀ x ∈ l, x < 256) : bev l < 256 ^ l.length := by
  induction hn : l.length generalizing l with
  | zero => rw [List.eq_nil_of_length_eq_zero hn]; decide
  | succ n ih =>
    obtain ⟨t, c, rfl⟩ : ∃ t c, l = t ++ [c] := ⟨l.dropLast, l.getLast (by intro e; simp [e] at hn), (List.dropLast_concat_getLast _).symm⟩
    rw [bev_snoc]
    have h1 := ih t (fun x hx => h x (by simp [hx])) (by simpa using hn)
    have h2 := h c (by simp)
    rw [Nat.pow_succ]
    omega
theorem bev_fixed (x n : Nat) : ∀ k, k ≤ n → bev ((fixedB x n).take k) = x / 256 ^ (n - k) % 256 ^ k := by
  intro k
  induction k with
  | zero => intro _; simp [bev, Nat.mod_one]
  | succ k ih =>
    intro hk
    rw [fixed_step x n k (by omega), bev_snoc, ih (by omega)]
    rw [show n - (k + 1) = n - 1 - k by omega, show n - k = (n - 1 - k) + 1 by omega, Nat.pow_succ 256 (n - 1 - k), ← Nat.div_div_eq_div_mul]
    generalize x / 256 ^ (n - 1 - k) = z
    rw [Nat.pow_succ 256 k, Nat.mul_comm (256 ^ k) 256, Nat.mod_mul]
    omega
theorem shl_or {v c : Nat} (hv : v < 72057594037927936) (hc : c < 256) : bits BinOp.or IntKind.u64 (IntKind.u64.wrap ((v : Int) * 256)) (c : Int) = ((256 * v + c : Nat) : Int) := by
  have e : IntKind.u64.wrap ((v : Int) * 256) = ((v * 256 : Nat) : Int) := by simp [IntKind.wrap, IntKind.bits, IntKind.signed]; omega
  rw [e, u64_or_nat _ _ (by omega) (by omega), Nat.or_comm]
  have := or_add_256 c v hc
  rw [this]
  omega

def XR (w : World) (b : Nat) (l : List Nat) (A : Option Addr) (m c at_ n : Nat) (s v : Value) (wr : World) : Prop :=
  ∃ k : Nat, k ≤ n ∧ v = .int .i64 k ∧ s = .int .u64 (bev ((l.drop at_).take k) : Nat) ∧ RdAt wr b A m c l (at_ + k) ∧ Mod (just b) w wr

theorem XR.next {w wr : World} {b : Nat} {l : List Nat} {A : Option Addr} {m c at_ n k j v x nq : Nat} (hk : k < n) (hvn : bev ((l.drop at_).take (k + 1)) = 256 * v + x) (hv : v < 72057594037927936) (hx : x < 256) (hj : j = at_ + k) (hjm : j < m)
    (hR : RdAt wr b A m c l j) (hm : Mod (just b) w wr) : XR w b l A m c at_ n (.int .u64 (bits BinOp.or IntKind.u64 (IntKind.u64.wrap ((v : Int) * 256)) (IntKind.u64.wrap (x : Int)))) (.int .i64 ((k : Int) + 1)) ((wr.drewN nq).setCell ⟨b, 1, none⟩ (.int .i64 ((j : Int) + 1))) :=
  ⟨k + 1, by omega, rfl, by rw [show IntKind.u64.wrap (x : Int) = (x : Int) by simp [IntKind.wrap, IntKind.bits, IntKind.signed]; omega, shl_or hv hx, hvn], by
    have := (hR.mod (Mod.drewN none' wr nq)).set (j + 1) ((j : Int) + 1) rfl (by omega)
    rwa [show j + 1 = at_ + (k + 1) by omega] at this, (hm.trans (Mod.drewN _ _ _)).trans (Mod.setIn (S := just b) rfl _ _)⟩

set_option maxRecDepth 8000 in
set_option maxHeartbeats 1000000 in
theorem fixedAt_c (b : Nat) (A : Option Addr) (m c : Nat) (l : List Nat) (at_ n : Nat) (w : World) (h : RdAt w b A m c l at_) (hw : wideB n = true) (hn : at_ + n ≤ m) :
    Calls Try.prog 23 #[rptr b, .int .i64 n] w fun e w' => e = .returned (.tuple #[.int .u64 (bev ((l.drop at_).take n) : Nat), .int .i64 0]) ∧ RdAt w' b A m c l (at_ + n) ∧ Mod (just b) w w' := by
  have hn8 : n ≤ 8 ∧ 1 ≤ n := by rcases wideB_true hw with h | h | h | h <;> omega
  have H := Lib.hid h
  have hl := left_c b l at_
  have q1 : (m : Int) ≤ 1000000000 := by have := h.small; omega
  have q3 : (0 : Int) ≤ (at_ : Int) := by omega
  have q4 : ¬ ((l.length : Int) - at_ < n) := by have := h.rd.len; omega
  have q5 : (n : Int) ≤ 8 := by omega
  have q6 : (1 : Int) ≤ (n : Int) := by omega
  have HN := Lib.hid hn
  clear h hn hn8
  unfold rptr at *
  go_enter Try.func23, Try.ntmps23
  go_wp2_with (first
    | (go_at_call 34; refine (wide_c _ _).mono ?_; rintro e w2 ⟨rfl, rfl⟩)
    | (go_at_call 32; refine (hl _ ⟨_, _, _, H.out⟩).mono ?_; rintro e w1 ⟨rfl, hm1⟩))
  go_loopw [6, 20] (fun s v wr => XR w2 b l A m c at_ n s v wr) (fun _ s _ => n - (intOf s).toNat)
  case atStart => exact ⟨0, Nat.zero_le _, rfl, rfl, H.out.mod hm1, hm1.any⟩
  case round =>
    obtain ⟨k, hk, rfl, rfl, hR, hm⟩ := hrel
    by_cases hlt : k < n
    · obtain ⟨j, hj⟩ : ∃ j, j = at_ + k := ⟨_, rfl⟩
      have hjm : j < m := by have := HN.out; omega
      rw [← hj] at hR
      obtain ⟨bb, oo, x, rfl, c2, hx⟩ := hR.rd.byte hjm
      have hx256 := hR.bytes x (List.mem_of_getElem? hx)
      obtain ⟨v, hv⟩ : ∃ v, v = bev ((l.drop at_).take k) := ⟨_, rfl⟩
      rw [← hv]
      have hv7 : v < 72057594037927936 := by
        have h1 := bev_lt ((l.drop at_).take k) (fun x hx => hR.bytes x (List.mem_of_mem_drop (List.mem_of_mem_take hx)))
        rw [← hv] at h1
        refine Nat.lt_of_lt_of_le h1 (Nat.le_trans (Nat.pow_le_pow_right (by omega) (show _ ≤ 7 from ?_)) (by decide))
        rw [List.length_take]; omega
      have hvn : bev ((l.drop at_).take (k + 1)) = 256 * v + x := by
        rw [List.take_add_one, List.getElem?_drop, ← hj, hx, hv]
        exact bev_snoc _ _
      have c0 := hR.c0
      have c1 := hR.c1
      have fr := hR.fr
      have k1 : (k : Int) < (n : Int) := by omega
      have k0 : (0 : Int) ≤ (k : Int) := by omega
      have j0 : (0 : Int) ≤ (j : Int) := by omega
      have j1 : (j : Int) < (m : Int) := by omega
      have j2 : (j : Int).toNat = j := by omega
      have v0 : (0 : Int) ≤ (v : Int) := by omega
      have x0 : (0 : Int) ≤ (x : Int) := by omega
      have HJ := Lib.hid hj
      have HJM := Lib.hid hjm
      have HR := Lib.hid hR
      have HM := Lib.hid hm
      have HX := Lib.hid hx256
      have HV := Lib.hid hv7
      have HVN := Lib.hid hvn
      have HK := Lib.hid hlt
      clear hj hjm hR hm hx256 hv7 hvn hlt hk hx hv hl
      go_wp2_with (fail)
      go_quiet (fail)
      go_wp2
      have a1 := HK.out
      exact ⟨XR.next HK.out HVN.out HV.out HX.out HJ.out HJM.out HR.out HM.out, by simp [intOf]; omega⟩
    · have k1 : ¬ ((k : Int) < (n : Int)) := by omega
      obtain rfl : k = n := by omega
      have HR := Lib.hid hR
      clear hlt hk hR hl
      go_wp2
      go_ret2
      exact ⟨rfl, HR.out, hm⟩
end Go.Proofs.Ytedfbmaghleioaa
