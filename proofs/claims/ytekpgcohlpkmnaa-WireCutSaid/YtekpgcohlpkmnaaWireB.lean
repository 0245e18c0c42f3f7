/- The document's Long and Bytes; wire.Put of the example; the law WireSize. -/
import Derived.Test.YtekpgcohlpkmnaaWireA
set_option linter.unusedVariables false
set_option linter.unusedSimpArgs false
namespace Go.Proofs.Ytekpgcohlpkmnaa
open Go.Abs Go.RowKit Go.Ours

theorem refFixed1_c (x : Nat) (hx : x < 18446744073709551616) : ACall Try.prog 18 [.pv (.int .u64 (x : Nat)), .pv (.int .i64 1)] [] (.os 5 1 (krows .u8 [x % 256])) [] [] := by
  refine ACall.fn (fn := Try.f18) rfl okRef01Fixed rfl (by simp) ?_
  simp only [argT, irRef01Fixed.eq_1]
  have t2 : (x : Int).tmod 256 = ((x % 256 : Nat) : Int) := rfl
  have w2 : IntKind.u8.wrap ((x % 256 : Nat) : Int) = ((x % 256 : Nat) : Int) := by simp [IntKind.wrap, IntKind.bits, IntKind.signed]
  have k2 : krows .u8 [x % 256] = [[.int .u8 ((x % 256 : Nat) : Int)]] := rfl
  rw [k2]
  generalize x % 256 = y7 at *
  simp
  refine CallG.go (rwide_c 1 (by simp)) ?_
  simp
  refine LoopW.go irRef01Fixed_L1.eq_1 (by simp) ?_
  simp
  refine LoopW.go irRef01Fixed_L2.eq_1 (by simp) ?_
  simp [t2, w2]
  refine LoopW.go irRef01Fixed_L1.eq_1 (by simp) ?_
  simp
def anyLong (T : List (List Nat)) : Bool := T.any fun t => decide (3000 < t.length)
def longF (M : Ms) : Bool := decide (3000 < M.body.length) || decide (20 < M.parts.length) || anyLong M.parts
theorem lgl (P : List (List Nat)) (q : List PV) (h38 : q[38]? = some (.sl 1 (trows P))) (hq : q.length = 39) (hP : P.length ≤ 20) : ∀ (T : List (List Nat)) (k : Nat), P.drop k = T → k ≤ P.length → ∀ (Q : Exit → S → Prop),
   (anyLong T = false → ∀ a b c d e, Q (.exit 0) (mk [(1, .ptr 1 0), (3, a), (14, b), (15, c), (16, d), (17, e), (18, .pv (.bool false))] [(1, .pagg q)])) →
   (anyLong T = true → Q .ret (mk [(2, .pv (.bool true))] [])) →
   LoopW Try.prog [1, 3] [1] irRef08Long_L1 (mk [(1, .ptr 1 0), (3, .pv (.int .i64 (k : Nat)))] [(1, .pagg q)]) Q := by
  intro T
  induction T with
  | nil =>
    intro k hd hk Q h1 h2
    have hk2 : k = P.length := by
      have := congrArg List.length hd
      simp at this
      omega
    subst hk2
    refine LoopW.go irRef08Long_L1.eq_1 (by simp) ?_
    simp [-getElem?_pos, h38, hq, trows_length]
    exact h1 rfl _ _ _ _ _
  | cons t T ih =>
    intro k hd hk Q h1 h2
    have hlt : k < P.length := by
      have := congrArg List.length hd
      simp at this
      omega
    have hx : P[k]? = some t := by
      have := congrArg (·[0]?) hd
      simpa using this
    have hd' : P.drop (k + 1) = T := by
      have := congrArg (List.drop 1) hd
      simpa [List.drop_drop, Nat.add_comm] using this
    have i1 : (k : Int) < (P.length : Int) := by omega
    have wk : IntKind.i64.wrap ((k : Int) + 1) = (k + 1 : Nat) := by rw [wrap_i64] <;> omega
    by_cases hl : 3000 < t.length
    · have hl' : (3000 : Int) < (t.length : Int) := by omega
      refine LoopW.go irRef08Long_L1.eq_1 (by simp) ?_
      simp [-getElem?_pos, h38, hq, trows_length, trows_get, krows_length, i1, hlt, hx, hl, hl']
      exact h2 (by simp [anyLong, hl])
    · have hl' : ¬ (3000 : Int) < (t.length : Int) := by omega
      have e : anyLong (t :: T) = anyLong T := by simp [anyLong, hl]
      rw [e] at h1 h2
      have hn := ih (k + 1) hd' (by omega) Q h1 h2
      refine LoopW.go irRef08Long_L1.eq_1 (by simp) ?_
      simp [-getElem?_pos, h38, hq, trows_length, trows_get, krows_length, i1, hlt, hx, hl, hl', wk]
      exact hn
theorem long_c (M : Ms) (hh : M.hash.length = 32) : ACall Try.prog 7 [.pagg (msP M)] [] (.pv (.bool (longF M))) [] [] := by
  refine ACall.fn (fn := Try.f7) rfl okRef08Long rfl (by simp) ?_
  simp only [argT, irRef08Long.eq_1]
  have hl := msP_len M hh
  have h37 := msP_37 M hh
  have h38 := msP_38 M hh
  unfold longF
  by_cases h1 : 3000 < M.body.length
  · have h1' : (3000 : Int) < (M.body.length : Int) := by omega
    generalize msP M = q at *
    simp [-getElem?_pos, hl, h37, h38, krows_length, trows_length, h1, h1']
  · have h1' : ¬ (3000 : Int) < (M.body.length : Int) := by omega
    by_cases h2 : 20 < M.parts.length
    · have h2' : (20 : Int) < (M.parts.length : Int) := by omega
      generalize msP M = q at *
      simp [-getElem?_pos, hl, h37, h38, krows_length, trows_length, h1, h1', h2, h2']
    · have h2' : ¬ (20 : Int) < (M.parts.length : Int) := by omega
      generalize msP M = q at *
      have hlp := lgl M.parts q h38 hl (by omega) M.parts 0 rfl (Nat.zero_le _)
      simp [-getElem?_pos, hl, h37, h38, krows_length, trows_length, h1, h1', h2, h2']
      refine hlp _ (fun h a b c d e => ?_) fun h => ?_
      · simp [h]
      · simp [h]
theorem ok_of {M : Ms} (hh : M.hash.length = 32) (h : longF M = false) : M.Ok := by
  simp [longF, anyLong] at h
  exact ⟨hh, by omega, by omega, fun p hp => by have := h.2 p hp; omega⟩
def headF (M : Ms) : List Nat := [uw M.kind % 256] ++ [uw M.src % 256] ++ [uw M.view / 256 % 256, uw M.view % 256] ++ [uw M.reg / 256 % 256, uw M.reg % 256] ++ [uw M.slot / 256 % 256, uw M.slot % 256] ++ M.hash
def bytesF (M : Ms) : List Nat := headF M ++ txt M.body ++ packed M.parts.length ++ txts M.parts
theorem bytesF_len (M : Ms) (hh : M.hash.length = 32) : (bytesF M).length = sizeF M := by
  simp [bytesF, headF, sizeF, hh]
  omega
theorem btl (P : List (List Nat)) (q : List PV) (h38 : q[38]? = some (.sl 1 (trows P))) (hq : q.length = 39) (hP : P.length ≤ 20) (hp : ∀ p ∈ P, p.length ≤ 3000) : ∀ (T : List (List Nat)) (k : Nat) (b : List Nat), P.drop k = T → k ≤ P.length → b.length ≤ 100000 + 3010 * k → ∀ (Q : Exit → S → Prop),
   (∀ x a c d e, Q (.exit 0) (mk [(1, .ptr 1 0), (3, .os 5 1 (krows .u8 (b ++ txts T))), (4, x), (52, a), (53, c), (54, d), (55, e), (56, .pv (.bool false))] [(1, .pagg q)])) →
   LoopW Try.prog [1, 3, 4] [1] irRef08Bytes_L1 (mk [(1, .ptr 1 0), (3, .os 5 1 (krows .u8 b)), (4, .pv (.int .i64 (k : Nat)))] [(1, .pagg q)]) Q := by
  intro T
  induction T with
  | nil =>
    intro k b hd hk hb Q hQ
    have hk2 : k = P.length := by
      have := congrArg List.length hd
      simp at this
      omega
    subst hk2
    rw [txts, List.append_nil] at hQ
    refine LoopW.go irRef08Bytes_L1.eq_1 (by simp) ?_
    simp [-getElem?_pos, h38, hq, trows_length]
    exact hQ _ _ _ _ _
  | cons t T ih =>
    intro k b hd hk hb Q hQ
    have hlt : k < P.length := by
      have := congrArg List.length hd
      simp at this
      omega
    have hx : P[k]? = some t := by
      have := congrArg (·[0]?) hd
      simpa using this
    have hd' : P.drop (k + 1) = T := by
      have := congrArg (List.drop 1) hd
      simpa [List.drop_drop, Nat.add_comm] using this
    have ht := hp t (List.mem_of_getElem? hx)
    have i1 : (k : Int) < (P.length : Int) := by omega
    have wk : IntKind.i64.wrap ((k : Int) + 1) = (k + 1 : Nat) := by rw [wrap_i64] <;> omega
    have hl := txt_len t ht
    have c := refText_c t (by omega)
    have hn := ih (k + 1) (b ++ txt t) hd' (by omega) (by simp; omega) Q (by simpa [txts, List.append_assoc] using hQ)
    clear hQ
    generalize txt t = y at *
    refine LoopW.go irRef08Bytes_L1.eq_1 (by simp) ?_
    simp [-getElem?_pos, h38, hq, trows_length, trows_get, i1, hlt, hx]
    refine CallG.go c ?_
    simp [krows_length, krows_app, wk]
    exact ⟨by omega, hn⟩
theorem refBytes_c (M : Ms) (h : M.Ok) : ACall Try.prog 9 [.pagg (msP M)] [] (.os 5 1 (krows .u8 (bytesF M))) [] [] := by
  refine ACall.fn (fn := Try.f9) rfl okRef08Bytes rfl (by simp) ?_
  simp only [argT, irRef08Bytes.eq_1]
  have hl := msP_len M h.hash
  have h0 := msP_0 M
  have h1 := msP_1 M
  have h2 := msP_2 M
  have h3 := msP_3 M
  have h4 := msP_4 M
  have h5 := msP_h M h.hash
  have h37 := msP_37 M h.hash
  have h38 := msP_38 M h.hash
  have u0 := uw_wrap M.kind
  have u1 := uw_wrap M.src
  have u2 := uw_wrap M.view
  have u3 := uw_wrap M.reg
  have u4 := uw_wrap M.slot
  have c0 := refFixed1_c (uw M.kind) (uw_lt _)
  have c1 := refFixed1_c (uw M.src) (uw_lt _)
  have c2 := refFixed2_c (uw M.view) (uw_lt _)
  have c3 := refFixed2_c (uw M.reg) (uw_lt _)
  have c4 := refFixed2_c (uw M.slot) (uw_lt _)
  have c5 := bytes_c M.hash h.hash
  have c6 := refText_c M.body (by have := h.body; omega)
  have hpp := h.parts
  have c7 := refPacked_c M.parts.length (by omega)
  have w1 : IntKind.u64.wrap (M.parts.length : Int) = (M.parts.length : Int) := by simp [IntKind.wrap, IntKind.bits, IntKind.signed]; omega
  have hb2 := txt_len M.body h.body
  have hq := packed_len64 M.parts.length (by omega)
  have hh := h.hash
  have hlp := btl M.parts (msP M) h38 hl hpp h.part M.parts 0
  unfold bytesF headF
  have l0 : [uw M.kind % 256].length = 1 := rfl
  have l1 : [uw M.src % 256].length = 1 := rfl
  have l2 : [uw M.view / 256 % 256, uw M.view % 256].length = 2 := rfl
  have l3 : [uw M.reg / 256 % 256, uw M.reg % 256].length = 2 := rfl
  have l4 : [uw M.slot / 256 % 256, uw M.slot % 256].length = 2 := rfl
  generalize [uw M.kind % 256] = x0 at *
  generalize [uw M.src % 256] = x1 at *
  generalize [uw M.view / 256 % 256, uw M.view % 256] = x2 at *
  generalize [uw M.reg / 256 % 256, uw M.reg % 256] = x3 at *
  generalize [uw M.slot / 256 % 256, uw M.slot % 256] = x4 at *
  generalize uw M.kind = n0 at *
  generalize uw M.src = n1 at *
  generalize uw M.view = n2 at *
  generalize uw M.reg = n3 at *
  generalize uw M.slot = n4 at *
  generalize msP M = q at *
  generalize txt M.body = tb at *
  have hpl : M.parts.length = M.parts.length := rfl
  generalize packed M.parts.length = pp at *
  simp [-getElem?_pos, hl, h0, u0]
  refine CallG.go c0 ?_
  simp [-getElem?_pos, hl, h1, u1, krows_length, krows_app, l0]
  refine CallG.go c1 ?_
  simp [-getElem?_pos, hl, h2, u2, krows_length, krows_app, l0, l1]
  refine CallG.go c2 ?_
  simp [-getElem?_pos, hl, h3, u3, krows_length, krows_app, l0, l1, l2]
  refine CallG.go c3 ?_
  simp [-getElem?_pos, hl, h4, u4, krows_length, krows_app, l0, l1, l2, l3]
  refine CallG.go c4 ?_
  simp [-getElem?_pos, hl, h5, krows_length, krows_app, l0, l1, l2, l3, l4]
  refine CallG.go c5 ?_
  simp [-getElem?_pos, hl, h37, krows_length, krows_app, l0, l1, l2, l3, l4, hh]
  refine CallG.go c6 ?_
  simp [-getElem?_pos, hl, h38, krows_length, krows_app, trows_length, l0, l1, l2, l3, l4, hh, w1]
  refine ⟨by omega, ?_⟩
  refine CallG.go c7 ?_
  simp [-getElem?_pos, hl, h38, krows_length, krows_app, trows_length, l0, l1, l2, l3, l4, hh]
  refine ⟨by omega, ?_⟩
  refine hlp _ rfl (Nat.zero_le _) (by simp; omega) _ fun x a c d e => ?_
  simp
end Go.Proofs.Ytekpgcohlpkmnaa
