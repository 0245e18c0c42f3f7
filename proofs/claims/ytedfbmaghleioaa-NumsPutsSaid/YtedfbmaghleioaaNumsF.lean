/- The walks of a reader's Packed. -/
import Derived.Test.YtedfbmaghleioaaNumsE
import Derived.IntWalk
set_option linter.unusedVariables false
set_option linter.unusedSimpArgs false
namespace Go.Proofs.Ytedfbmaghleioaa
open Go.RowKit Go.Ours

/-- What Packed answers of a reader that lies at b. -/
def PackedR (w : World) (b : Nat) (l : List Nat) (at_ : Nat) (e : Ending) (w' : World) : Prop :=
  (∃ x r, x < 18446744073709551616 ∧ l.drop at_ = packed x ++ r ∧ e = .returned (.tuple #[.int .u64 (x : Nat), .int .i64 0]) ∧ Rdr w' b l (at_ + (packed x).length) ∧ Mod (just b) w w') ∨
  (∃ k : Int, (k = 1 ∨ k = 2) ∧ e = .returned (.tuple #[.int .u64 0, .int .i64 k]) ∧ noPacked (l.drop at_) ∧ Mod none' w w')

/-- What holds at the head of each round. -/
def QR (w : World) (l : List Nat) (at_ : Nat) (s v : Value) (wr : World) : Prop :=
  ∃ (pre : List Nat), pre.length ≤ 9 ∧ bigs pre ∧ (∃ r, l.drop at_ = pre ++ r) ∧ s = .int .u64 (val pre : Nat) ∧ v = .int .i64 pre.length ∧ Mod none' w wr

theorem drop_at {l pre r : List Nat} {a : Nat} (h : l.drop a = pre ++ r) (hl : a + pre.length < l.length) : ∃ c r', l[a + pre.length]? = some c ∧ r = c :: r' := by
  cases r with
  | nil =>
    have := congrArg List.length h
    simp at this
    omega
  | cons c r' =>
    refine ⟨c, r', ?_, rfl⟩
    have := congrArg (fun x => x[pre.length]?) h
    simpa using this
theorem drop_end {l pre r : List Nat} {a : Nat} (h : l.drop a = pre ++ r) (hl : ¬ (a + pre.length < l.length)) : r = [] := by
  have := congrArg List.length h
  simp at this
  exact List.eq_nil_of_length_eq_zero (by omega)

theorem and_127 (x : Nat) (hx : x < 256) : bits BinOp.and IntKind.u8 (x : Int) 127 = ((x % 128 : Nat) : Int) := by
  have h : ∀ a : Fin 256, bits BinOp.and IntKind.u8 ((a.val : Nat) : Int) 127 = ((a.val % 128 : Nat) : Int) := by decide +kernel
  exact h ⟨x, hx⟩
theorem or_val {pre : List Nat} {k x : Nat} (hk : k = pre.length) (hp : pre.length ≤ 9) (hx : x < 256) (h9 : pre.length = 9 → x ≤ 1) :
    bits BinOp.or IntKind.u64 ((val pre : Nat) : Int) (IntKind.u64.wrap (IntKind.u64.wrap (bits BinOp.and IntKind.u8 (x : Int) 127) * 2 ^ (7 * k))) = ((val (pre ++ [x]) : Nat) : Int) := by
  subst hk
  have h64 := val_64 hx hp h9
  have hv := val_lt pre
  have e : (128 : Nat) ^ pre.length = 2 ^ (7 * pre.length) := by rw [show (128 : Nat) = 2 ^ 7 by rfl, ← Nat.pow_mul]
  rw [val_snoc] at h64 ⊢
  rw [and_127 x hx]
  have hw : ∀ n : Nat, n < 18446744073709551616 → IntKind.u64.wrap (n : Int) = (n : Int) := fun n hn => by simp [IntKind.wrap, IntKind.bits, IntKind.signed]; omega
  rw [hw _ (by omega)]
  have e2 : (((x % 128 : Nat) : Int) * 2 ^ (7 * pre.length)) = ((x % 128 * 128 ^ pre.length : Nat) : Int) := by rw [e]; push_cast; rfl
  rw [e2, hw _ (by omega), u64_or_nat _ _ (by omega) (by omega), or_add _ _ _ hv]

theorem PackedR.err {w W : World} {b : Nat} {l : List Nat} {at_ : Nat} {k : Int} (hk : k = 1 ∨ k = 2) (hm : Mod none' w W) {s : List Nat} (he : l.drop at_ = s) (hn : noPacked s) :
    PackedR w b l at_ (.returned (.tuple #[.int .u64 0, .int .i64 k])) W := Or.inr ⟨k, hk, rfl, he ▸ hn, hm⟩
theorem PackedR.ok {w W : World} {b : Nat} {l pre r : List Nat} {at_ k x n c : Nat} {A : Option Addr} {v y : Int} (hR : RdAt w b A n c l at_) (hm : Mod none' w W) (hk : k = pre.length) (hp : pre.length ≤ 9) (h9 : pre.length = 9 → x ≤ 1)
    (he : l.drop at_ = pre ++ x :: r) (hb : bigs pre) (hx : x < 128) (h0 : pre = [] ∨ 1 ≤ x) (hv : v = ((val (pre ++ [x]) : Nat) : Int)) (hy : y = at_ + (k + 1)) :
    PackedR w b l at_ (.returned (.tuple #[.int .u64 v, .int .i64 0])) (W.setCell ⟨b, 1, none⟩ (.int .i64 y)) := by
  have hpk := is_packed hb hx h0
  have hlen : at_ + k + 1 ≤ n := by
    have := congrArg List.length he
    simp at this
    have := hR.rd.len
    omega
  refine Or.inl ⟨val (pre ++ [x]), r, val_64 (by omega) hp h9, ?_, by rw [hv], ⟨A, n, c, (hR.mod hm).set _ _ ?_ ?_⟩, hm.any.trans (Mod.setIn (S := just b) rfl _ _)⟩
  · rw [hpk, he]; simp
  · rw [hpk, hy, hk]; simp
  · rw [hpk, List.length_append, ← hk]; simpa [Nat.add_assoc] using hlen
theorem QR.next {w W : World} {l pre r : List Nat} {at_ k x : Nat} {v : Int} (hm : Mod none' w W) (hk : k = pre.length) (hp : pre.length ≤ 8) (he : l.drop at_ = pre ++ x :: r) (hb : bigs pre) (hx : 128 ≤ x ∧ x < 256) (hv : v = ((val (pre ++ [x]) : Nat) : Int)) {y : Int} (hy : y = k + 1) :
    QR w l at_ (.int .u64 v) (.int .i64 y) W :=
  ⟨pre ++ [x], by simp; omega, bigs_snoc hb hx, ⟨r, by rw [he]; simp⟩, by rw [hv], by rw [hy, hk]; simp, hm⟩

set_option maxRecDepth 8000 in
set_option maxHeartbeats 4000000 in
theorem packedAt_c (b : Nat) (A : Option Addr) (n c : Nat) (l : List Nat) (at_ : Nat) (w : World) (h : RdAt w b A n c l at_) :
    Calls Try.prog 16 #[rptr b] w (PackedR w b l at_) := by
  have H := Lib.hid h
  have HL := Lib.hid h.rd.len
  have q1 : (n : Int) ≤ 1000000000 := by have := h.small; omega
  have q2 : (at_ : Int) ≤ (n : Int) := by have := h.le; omega
  have q3 : (0 : Int) ≤ (at_ : Int) := by omega
  clear h
  unfold rptr
  go_enter Try.func16, Try.ntmps16
  go_wp2_with (fail)
  go_loopw [4, 9] (fun s v wr => QR w l at_ s v wr) (fun _ s _ => 10 - (intOf s).toNat)
  case atStart => exact ⟨[], by simp, (fun _ h => by cases h), ⟨_, rfl⟩, rfl, rfl, Mod.refl _ _⟩
  case round =>
    obtain ⟨pre, hp, hbig, ⟨r, hr⟩, rfl, rfl, hm⟩ := hrel
    obtain ⟨k, hk⟩ : ∃ k, k = pre.length := ⟨_, rfl⟩
    rw [← hk]
    have c0 := (H.out.mod hm).c0
    have c1 := (H.out.mod hm).c1
    have fr := (H.out.mod hm).fr
    have k9 : (k : Int) < 10 := by omega
    have k0 : (0 : Int) ≤ (k : Int) := by omega
    by_cases hlt : at_ + k < n
    · obtain ⟨x, r', hx, rfl⟩ := drop_at hr (by rw [HL.out, ← hk]; exact hlt)
      rw [← hk] at hx
      obtain ⟨bb, oo, x', rfl, c2, hx'⟩ := (H.out.mod hm).rd.byte hlt
      obtain rfl : x = x' := Option.some.inj (hx.symm.trans hx')
      have hx256 := H.out.bytes x (List.mem_of_getElem? hx)
      obtain ⟨j, hj⟩ : ∃ j, j = at_ + k := ⟨_, rfl⟩
      rw [← hj] at c2
      have t1 : ¬ ((n : Int) ≤ (j : Int)) := by omega
      have t5 : (j : Int) < (n : Int) := by omega
      have t0 : (0 : Int) ≤ (j : Int) := by omega
      have t4 : (j : Int).toNat = j := by omega
      have HJ := Lib.hid hj
      have t2 : (at_ : Int) + (k : Int) = (j : Int) := by omega
      have x0 : (0 : Int) ≤ (x : Int) := by omega
      clear hj
      have HR := Lib.hid hr
      have HM := Lib.hid hm
      have HK := Lib.hid hk
      have HX := Lib.hid hx256
      have HP := Lib.hid hp
      have HB := Lib.hid hbig
      clear hr hm hk hlt hp hbig hx hx' hx256
      by_cases hk9 : k = 9
      · have HK9 := Lib.hid hk9
        have g1 : ((k : Int) == 9) = true := beq_iff_eq.2 (by omega)
        by_cases hx1 : 1 < x
        · have g2 : (1 : Int) < (x : Int) := by omega
          have HX1 := Lib.hid hx1
          clear hk9 hx1
          go_wp2_with (fail)
          go_quiet (fail)
          go_wp2_with (fail)
          go_quiet (fail)
          go_wp2
          go_ret2
          exact PackedR.err (Or.inr rfl) ((HM.out.trans (Mod.drewN _ _ _))) HR.out (no_great HB.out (by rw [← HK.out, HK9.out]) HX1.out _)
        · have g2 : ¬ ((1 : Int) < (x : Int)) := by omega
          have g3 : (x : Int) < 128 := by omega
          have HX1 := Lib.hid hx1
          have g5 : (0 : Int) < (k : Int) := by omega
          by_cases hx0 : x = 0
          · have HX0 := Lib.hid hx0
            have g4 : ((x : Int) == 0) = true := beq_iff_eq.2 (by omega)
            clear hk9 hx1 hx0
            go_wp2_with (fail)
            go_quiet (fail)
            go_wp2_with (fail)
            go_quiet (fail)
            go_wp2
            go_ret2
            refine PackedR.err (Or.inr rfl) ((HM.out.trans (Mod.drewN _ _ _))) HR.out ?_
            rw [HX0.out]
            exact no_zero HB.out (by rw [← HK.out, HK9.out]; decide) _
          · have HX0 := Lib.hid hx0
            have g4 : ((x : Int) == 0) = false := beq_eq_false_iff_ne.2 (by omega)
            clear hk9 hx1 hx0
            go_wp2_with (fail)
            go_quiet (fail)
            go_wp2_with (fail)
            go_quiet (fail)
            go_wp2
            go_ret2
            have a1 := HX0.out
            have a2 := HX1.out
            exact PackedR.ok H.out (HM.out.trans (Mod.drewN _ _ _)) HK.out HP.out (fun _ => by omega) HR.out HB.out (by omega) (Or.inr (by omega)) (or_val HK.out HP.out HX.out (fun _ => by omega)) (by omega)
      · have HK9 := Lib.hid hk9
        have g1 : ((k : Int) == 9) = false := beq_eq_false_iff_ne.2 (by omega)
        have HV : Hid (bits BinOp.or IntKind.u64 ((val pre : Nat) : Int) (IntKind.u64.wrap (IntKind.u64.wrap (bits BinOp.and IntKind.u8 (x : Int) 127) * 2 ^ (7 * k))) = ((val (pre ++ [x]) : Nat) : Int)) := Lib.hid (or_val HK.out HP.out HX.out (fun h => by have := HK.out; omega))
        by_cases hx1 : x < 128
        · have g3 : (x : Int) < 128 := by omega
          have HX1 := Lib.hid hx1
          by_cases hx0 : x = 0
          · have HX0 := Lib.hid hx0
            have g4 : ((x : Int) == 0) = true := beq_iff_eq.2 (by omega)
            by_cases hk0 : 0 < k
            · have g5 : (0 : Int) < (k : Int) := by omega
              have HK0 := Lib.hid hk0
              clear hk9 hx1 hx0 hk0
              go_wp2_with (fail)
              go_quiet (fail)
              go_wp2_with (fail)
              go_quiet (fail)
              go_wp2
              go_ret2
              refine PackedR.err (Or.inr rfl) ((HM.out.trans (Mod.drewN _ _ _))) HR.out ?_
              rw [HX0.out]
              exact no_zero HB.out (by rw [← HK.out]; exact HK0.out) _
            · have g5 : ¬ ((0 : Int) < (k : Int)) := by omega
              have HK0 := Lib.hid hk0
              clear hk9 hx1 hx0 hk0
              go_wp2_with (fail)
              go_quiet (fail)
              go_wp2_with (fail)
              go_quiet (fail)
              go_wp2
              go_ret2
              have a1 := HK0.out
              have a2 := HK.out
              exact PackedR.ok H.out (HM.out.trans (Mod.drewN _ _ _)) HK.out HP.out (fun _ => by omega) HR.out HB.out HX1.out (Or.inl (List.eq_nil_of_length_eq_zero (by omega))) HV.out (by omega)
          · have HX0 := Lib.hid hx0
            have g4 : ((x : Int) == 0) = false := beq_eq_false_iff_ne.2 (by omega)
            clear hk9 hx1 hx0
            go_wp2_with (fail)
            go_quiet (fail)
            go_wp2_with (fail)
            go_quiet (fail)
            go_wp2
            go_ret2
            have a1 := HX0.out
            have a2 := HK.out
            have a3 := HK9.out
            exact PackedR.ok H.out (HM.out.trans (Mod.drewN _ _ _)) HK.out HP.out (fun _ => by omega) HR.out HB.out HX1.out (Or.inr (by omega)) HV.out (by omega)
        · have g3 : ¬ ((x : Int) < 128) := by omega
          have HX1 := Lib.hid hx1
          clear hk9 hx1
          go_wp2_with (fail)
          go_quiet (fail)
          go_wp2_with (fail)
          go_quiet (fail)
          go_wp2
          have a1 := HX1.out
          have a2 := HK.out
          have a3 := HK9.out
          have a4 := HP.out
          exact ⟨QR.next (HM.out.trans (Mod.drewN _ _ _)) HK.out (by omega) HR.out HB.out ⟨by omega, HX.out⟩ HV.out rfl, by simp [intOf]; omega⟩
    · have t1 : (n : Int) ≤ (at_ : Int) + (k : Int) := by omega
      have HR := Lib.hid hr
      have HM := Lib.hid hm
      have HK := Lib.hid hk
      have HB := Lib.hid hbig
      clear hr hm hk hbig
      go_wp2_with (fail)
      go_quiet (fail)
      go_wp2
      go_ret2
      refine PackedR.err (Or.inl rfl) (HM.out.trans (Mod.drewN _ _ _)) (s := pre) ?_ (no_short HB.out)
      rw [HR.out, drop_end HR.out (by rw [HL.out, ← HK.out]; exact hlt), List.append_nil]
end Go.Proofs.Ytedfbmaghleioaa
