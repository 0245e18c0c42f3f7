/- views.Put, views.Get and the document's: contracts; the law ViewsBytes. -/
import Derived.Test.YtdbbbaaopngbcaaNumsIrAll
import Derived.Test.YtdbbbaaopngbcaaIrViewsC
import Derived.Test.YtdbbbaaopngbcaaExecsD
set_option linter.unusedVariables false
set_option linter.unusedSimpArgs false
namespace Go.Proofs.Ytdbbbaaopngbcaa
open Go.Abs Go.RowKit Go.Ours

/-- A view's bytes. -/
def putV (n : Int) (m : Nat) : List Nat := if rightV n m then [n.toNat / 256 % 256, n.toNat % 256, m / 256 % 256, m % 256] else []
theorem right_num {n : Int} {m : Nat} (h : rightV n m = true) : 0 ≤ n ∧ n ≤ 60 := by
  unfold rightV at h
  simp at h
  omega
theorem vput_c (n : Int) (m : Nat) (hm : m < 65536) : ACall Try.prog 29 [.pagg (vwP (n, m))] [] (.os 5 1 (krows .u8 (putV n m))) [] [] := by
  refine ACall.fn (fn := Try.f29) rfl okViewsPut rfl (by simp) ?_
  simp only [argT, irViewsPut.eq_1]
  have c1 := rightV_c n m hm
  unfold putV
  cases h : rightV n m
  · rw [h] at c1
    simp only [vwP] at c1 ⊢
    simp
    refine CallG.go c1 ?_
    simp [krows]
  · rw [h] at c1
    have hr := right_num h
    obtain ⟨a, rfl⟩ : ∃ a : Nat, n = a := ⟨n.toNat, by omega⟩
    rw [Int.toNat_natCast]
    have c2 := put2_c [] a (by simp)
    have c3 := put2_c [a / 256 % 256, a % 256] m (by simp)
    have w1 : IntKind.u64.wrap (a : Int) = (a : Int) := by simp [IntKind.wrap, IntKind.bits, IntKind.signed]; omega
    have w2 : IntKind.u64.wrap (m : Int) = (m : Int) := by simp [IntKind.wrap, IntKind.bits, IntKind.signed]; omega
    simp only [List.nil_append, List.cons_append] at c2 c3
    generalize a / 256 % 256 = x1 at *
    generalize a % 256 = x2 at *
    generalize m / 256 % 256 = x3 at *
    generalize m % 256 = x4 at *
    simp only [vwP] at c1 ⊢
    simp
    refine CallG.go c1 ?_
    simp [w1]
    refine CallG.go c2 ?_
    simp [w2]
    refine CallG.go c3 ?_
    simp
theorem refPutV_c (n : Int) (m : Nat) (hm : m < 65536) : ACall Try.prog 36 [.pagg (vwP (n, m))] [] (.os 5 1 (krows .u8 (putV n m))) [] [] := by
  refine ACall.fn (fn := Try.f36) rfl okRef06Put rfl (by simp) ?_
  simp only [argT, irRef06Put.eq_1]
  have c1 := refRightV_c n m hm
  unfold putV
  cases h : rightV n m
  · rw [h] at c1
    simp only [vwP] at c1 ⊢
    simp
    refine CallG.go c1 ?_
    simp [krows]
  · rw [h] at c1
    have hr := right_num h
    obtain ⟨a, rfl⟩ : ∃ a : Nat, n = a := ⟨n.toNat, by omega⟩
    rw [Int.toNat_natCast]
    have c2 := refFixed2_c a (by omega)
    have c3 := refFixed2_c m (by omega)
    have w1 : IntKind.u64.wrap (a : Int) = (a : Int) := by simp [IntKind.wrap, IntKind.bits, IntKind.signed]; omega
    have w2 : IntKind.u64.wrap (m : Int) = (m : Int) := by simp [IntKind.wrap, IntKind.bits, IntKind.signed]; omega
    generalize a / 256 % 256 = x1 at *
    generalize a % 256 = x2 at *
    generalize m / 256 % 256 = x3 at *
    generalize m % 256 = x4 at *
    have c4 := join_c [x1, x2] [x3, x4] (by simp) (by simp)
    simp only [List.nil_append, List.cons_append] at c4
    simp only [vwP] at c1 ⊢
    simp
    refine CallG.go c1 ?_
    simp [w1]
    refine CallG.go c2 ?_
    simp [w2]
    refine CallG.go c3 ?_
    simp
    refine CallG.go c4 ?_
    simp
/-- The view of bytes. -/
def getV (b : List Nat) : (Int × Nat) × Nat :=
  if b.length < 4 then ((0, 0), 1)
  else if b.length = 4 ∧ rightV ((256 * b[0]?.getD 0 + b[1]?.getD 0 : Nat) : Int) (256 * b[2]?.getD 0 + b[3]?.getD 0) = true then ((((256 * b[0]?.getD 0 + b[1]?.getD 0 : Nat) : Int), 256 * b[2]?.getD 0 + b[3]?.getD 0), 0)
  else ((0, 0), 2)
theorem at_ex {b : List Nat} (hb : ∀ x ∈ b, x < 256) {k : Nat} (h : k < b.length) : ∃ x, b[k]? = some x ∧ x < 256 := ⟨b[k], List.getElem?_eq_getElem h, hb _ (List.getElem_mem h)⟩
theorem vget_c (b : List Nat) (hb : ∀ x ∈ b, x < 256) (hl : b.length ≤ 10000000000) : ACall Try.prog 66 [.pv (.sl 1 (krows .u8 b))] [] (.tup [.pagg (vwP (getV b).1), .pv (.int .i64 ((getV b).2 : Nat))]) [] [] := by
  refine ACall.fn (fn := Try.f66) rfl okViewsGet rfl (by simp) ?_
  simp only [argT, irViewsGet.eq_1]
  have c0 := newr_c b hl
  unfold getV
  by_cases h4 : b.length < 4
  · rw [if_pos h4]
    by_cases h2 : b.length < 2
    · have c1 := fixedS_c b 2 0 (by simp) hl (Nat.zero_le _) (by omega)
      simp [vwP]
      refine CallG.go c0 ?_
      simp
      refine CallG.go c1 ?_
      simp
      refine CallG.go c1 ?_
      simp
    · obtain ⟨x0, e0, b0⟩ := at_ex hb (k := 0) (by omega)
      obtain ⟨x1, e1, b1⟩ := at_ex hb (k := 1) (by omega)
      have c1 := fixed2_c b 0 x0 x1 hl e0 e1 b0 b1
      have c2 := fixedS_c b 2 2 (by simp) hl (by omega) (by omega)
      generalize 256 * x0 + x1 = y at *
      simp [vwP] at c1 ⊢
      refine CallG.go c0 ?_
      simp
      refine CallG.go c1 ?_
      simp
      refine CallG.go c2 ?_
      simp
  · rw [if_neg h4]
    obtain ⟨x0, e0, b0⟩ := at_ex hb (k := 0) (by omega)
    obtain ⟨x1, e1, b1⟩ := at_ex hb (k := 1) (by omega)
    obtain ⟨x2, e2, b2⟩ := at_ex hb (k := 2) (by omega)
    obtain ⟨x3, e3, b3⟩ := at_ex hb (k := 3) (by omega)
    have c1 := fixed2_c b 0 x0 x1 hl e0 e1 b0 b1
    have c2 := fixed2_c b 2 x2 x3 hl e2 e3 b2 b3
    rw [e0, e1, e2, e3]
    simp only [Option.getD_some]
    obtain ⟨y, hy⟩ : ∃ y, y = 256 * x0 + x1 := ⟨_, rfl⟩
    obtain ⟨z, hz⟩ : ∃ z, z = 256 * x2 + x3 := ⟨_, rfl⟩
    rw [← hy] at c1
    rw [← hz] at c2
    rw [← hy, ← hz]
    have w1 : IntKind.i64.wrap (y : Int) = (y : Int) := by rw [wrap_i64] <;> omega
    have w2 : IntKind.u16.wrap (z : Int) = (z : Int) := by simp [IntKind.wrap, IntKind.bits, IntKind.signed]; omega
    have c3 := done_c b 4 hl (by omega)
    have c4 := rightV_c (y : Int) z (by omega)
    by_cases h5 : 4 < b.length
    · rw [if_neg (by omega)]
      rw [if_pos h5] at c3
      simp only [vwP] at c4 ⊢
      simp at c1 ⊢
      refine CallG.go c0 ?_
      simp
      refine CallG.go c1 ?_
      simp
      refine CallG.go c2 ?_
      simp [w1, w2]
      refine CallG.go c3 ?_
      simp
    · rw [if_neg h5] at c3
      have h6 : b.length = 4 := by omega
      cases hr : rightV (y : Int) z
      · rw [hr] at c4
        simp only [vwP] at c4 ⊢
        simp at c1 ⊢
        refine CallG.go c0 ?_
        simp
        refine CallG.go c1 ?_
        simp
        refine CallG.go c2 ?_
        simp [w1, w2]
        refine CallG.go c3 ?_
        simp
        refine CallG.go c4 ?_
        simp
      · rw [hr] at c4
        simp only [vwP] at c4 ⊢
        simp [h6] at c1 ⊢
        refine CallG.go c0 ?_
        simp
        refine CallG.go c1 ?_
        simp
        refine CallG.go c2 ?_
        simp [w1, w2]
        refine CallG.go c3 ?_
        simp
        refine CallG.go c4 ?_
        simp
theorem getV_of (n : Int) (m : Nat) (hm : m < 65536) (h : rightV n m = true) : getV (putV n m) = ((n, m), 0) := by
  have hr := right_num h
  obtain ⟨a, rfl⟩ : ∃ a : Nat, n = a := ⟨n.toNat, by omega⟩
  unfold putV
  rw [h, if_pos rfl, Int.toNat_natCast]
  unfold getV
  have e : ∀ x0 x1 x2 x3 : Nat, ([x0, x1, x2, x3] : List Nat)[0]?.getD 0 = x0 ∧ ([x0, x1, x2, x3] : List Nat)[1]?.getD 0 = x1 ∧ ([x0, x1, x2, x3] : List Nat)[2]?.getD 0 = x2 ∧ ([x0, x1, x2, x3] : List Nat)[3]?.getD 0 = x3 ∧ ([x0, x1, x2, x3] : List Nat).length = 4 := fun _ _ _ _ => ⟨rfl, rfl, rfl, rfl, rfl⟩
  obtain ⟨e0, e1, e2, e3, e4⟩ := e (a / 256 % 256) (a % 256) (m / 256 % 256) (m % 256)
  rw [e0, e1, e2, e3, e4, show 256 * (a / 256 % 256) + a % 256 = a by omega, show 256 * (m / 256 % 256) + m % 256 = m by omega]
  rw [if_neg (by decide), if_pos ⟨rfl, h⟩]
theorem putV_bytes (n : Int) (m : Nat) : ∀ x ∈ putV n m, x < 256 := by
  unfold putV
  split
  · intro x hx
    simp only [List.mem_cons, List.not_mem_nil, or_false] at hx
    omega
  · intro x hx
    cases hx
theorem putV_len (n : Int) (m : Nat) : (putV n m).length ≤ 4 := by
  unfold putV
  split <;> simp
end Go.Proofs.Ytdbbbaaopngbcaa
