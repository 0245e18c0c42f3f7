/- kv.Put: its contract; values of keys have one text just if they are the same. -/
import Derived.Test.YtdbbbaaopngbcaaExecsD
import Derived.Test.YtdbbbaaopngbcaaIrExB
import Derived.Test.YtdbbbaaopngbcaaNumsIrAll
set_option linter.unusedVariables false
set_option linter.unusedSimpArgs false
namespace Go.Proofs.Ytdbbbaaopngbcaa
open Go.Abs Go.RowKit Go.Ours

/-- The bytes of the keys from one on. -/
def putK : Nat → List Cl → List Nat
  | _, [] => []
  | k, x :: l => (if x.1 then k :: packed (foldN x.2) else []) ++ putK (k + 1) l
/-- How many have a value. -/
def cntK : List Cl → Nat
  | [] => 0
  | x :: l => (if x.1 then 1 else 0) + cntK l
def sameK : List Cl → List Cl → Bool
  | x :: l, y :: r => decide (x.1 = y.1 ∧ (x.1 = true → x.2 = y.2)) && sameK l r
  | _, _ => true
theorem putK_first : ∀ (l : List Cl) (k c : Nat) (r : List Nat), putK k l = c :: r → k ≤ c
  | [], _, _, _, h => by simp [putK] at h
  | x :: l, k, c, r, h => by
    rw [putK] at h
    split at h
    · simp at h
      omega
    · have := putK_first l (k + 1) c r h
      omega
theorem putK_same : ∀ (a b : List Cl) (k : Nat), a.length = b.length → (putK k a = putK k b ↔ sameK a b = true)
  | [], [], _, _ => by simp [sameK]
  | x :: l, y :: r, k, h => by
    have ih := putK_same l r (k + 1) (by simpa using h)
    rw [putK, putK, sameK]
    cases hx : x.1 <;> cases hy : y.1
    · simpa using ih
    · simp only [reduceCtorEq, false_and, decide_false, Bool.false_and, iff_false]
      intro e
      have := putK_first l (k + 1) k (packed (foldN y.2) ++ putK (k + 1) r) (by simpa using e)
      omega
    · simp only [reduceCtorEq, false_and, decide_false, Bool.false_and, iff_false]
      intro e
      have := putK_first r (k + 1) k (packed (foldN x.2) ++ putK (k + 1) l) (by simpa using e.symm)
      omega
    · simp only [if_true, List.cons_append, List.cons.injEq, true_and, forall_const]
      constructor
      · intro e
        obtain ⟨e1, e2⟩ := packed_code _ _ _ _ _ (Nat.le_refl _) e
        simp [foldN_inj e1, ih.1 e2]
      · intro e
        simp at e
        rw [e.1, ih.2 e.2]
theorem kvPut_same (a b : List Cl) (h : a.length = b.length) : (packed (cntK a) ++ putK 0 a = packed (cntK b) ++ putK 0 b ↔ sameK a b = true) := by
  constructor
  · intro e
    exact (putK_same a b 0 h).1 (packed_code _ _ _ _ _ (Nat.le_refl _) e).2
  · intro e
    rw [(putK_same a b 0 h).2 e]
    have : ∀ (a b : List Cl), a.length = b.length → sameK a b = true → cntK a = cntK b := by
      intro a
      induction a with
      | nil => intro b h _; rw [List.length_nil] at h; rw [List.eq_nil_of_length_eq_zero h.symm]
      | cons x l ih =>
        intro b h e
        match b, h, e with
        | y :: r, h, e =>
          simp [sameK] at e
          rw [cntK, cntK, e.1.1, ih r (by simpa using h) e.2]
    rw [this a b h e]
theorem putK_len : ∀ (l : List Cl) (k : Nat), (∀ x ∈ l, -9223372036854775808 ≤ x.2 ∧ x.2 < 9223372036854775808) → (putK k l).length ≤ 11 * l.length
  | [], _, _ => by simp [putK]
  | x :: l, k, h => by
    have ih := putK_len l (k + 1) fun y hy => h y (List.mem_cons_of_mem _ hy)
    have h1 := packed_len64 (foldN x.2) (foldN_lt x.2 (h x List.mem_cons_self))
    rw [putK, List.length_append, List.length_cons]
    split
    · rw [List.length_cons]
      omega
    · rw [List.length_nil]
      omega
theorem kpl (L : List Cl) (hL : L.length = 16) (hr : ∀ x ∈ L, -9223372036854775808 ≤ x.2 ∧ x.2 < 9223372036854775808) : ∀ (l : List Cl) (k n : Nat) (b : List Nat), L.drop k = l → k ≤ 16 → n ≤ k → b.length ≤ 11 * k → ∀ (Q : Exit → S → Prop),
   (∀ c d, Q (.exit 0) (mk [(3, .os 5 1 (krows .u8 (b ++ putK k l))), (4, .pv (.int .u64 (n + cntK l : Nat))), (7, c), (8, d), (9, .pv (.bool false))] [])) →
   LoopW Try.prog [3, 4, 7, 8] [] irKvPut_L1 (mk [(3, .os 5 1 (krows .u8 b)), (4, .pv (.int .u64 (n : Nat))), (7, .pagg (cellsP L)), (8, .pv (.int .i64 (k : Nat)))] []) Q := by
  intro l
  have hcl : (cellsP L).length = 32 := by rw [cellsP_len, hL]
  induction l with
  | nil =>
    intro k n b hd hk hn hb Q hQ
    have hk2 : k = 16 := by
      have := congrArg List.length hd
      simp [hL] at this
      omega
    subst hk2
    rw [putK, cntK, List.append_nil, Nat.add_zero] at hQ
    refine LoopW.go irKvPut_L1.eq_1 (by simp) ?_
    simp
    exact hQ _ _
  | cons x l ih =>
    intro k n b hd hk hn hb Q hQ
    have hlt : k < 16 := by
      have := congrArg List.length hd
      simp [hL] at this
      omega
    have hx : L[k]? = some x := by
      have := congrArg (·[0]?) hd
      simpa using this
    have hd' : L.drop (k + 1) = l := by
      have := congrArg (List.drop 1) hd
      simpa [List.drop_drop, Nat.add_comm] using this
    have hxr := hr x (List.mem_of_getElem? hx)
    have i1 : (k : Int) < 16 := by omega
    have wk : IntKind.i64.wrap ((k : Int) + 1) = (k + 1 : Nat) := by rw [wrap_i64] <;> omega
    have wu : IntKind.u64.wrap (k : Int) = (k : Int) := by simp [IntKind.wrap, IntKind.bits, IntKind.signed]; omega
    have wn : IntKind.u64.wrap ((n : Int) + 1) = (n + 1 : Nat) := by simp [IntKind.wrap, IntKind.bits, IntKind.signed]; omega
    have hp := cellsP_part hx
    obtain ⟨t, m⟩ := x
    simp only at hxr
    cases t
    · have hn := ih (k + 1) n b hd' (by omega) (by omega) (by omega) Q (by simpa [putK, cntK] using hQ)
      simp only [clP] at hp
      refine LoopW.go irKvPut_L1.eq_1 (by simp) ?_
      simp [-getElem?_pos, i1, hlt, hcl, hp, wk]
      exact hn
    · have c1 := put1_c b k (by omega)
      rw [Nat.mod_eq_of_lt (by omega)] at c1
      have hl1 := packed_len64 (foldN m) (foldN_lt m hxr)
      have c2 := putFolded_c (b ++ [k]) m (by simp; omega) hxr
      have hn := ih (k + 1) (n + 1) (b ++ [k] ++ packed (foldN m)) hd' (by omega) (by omega) (by simp; omega) Q (by simpa [putK, cntK, Nat.add_assoc] using hQ)
      clear hQ
      generalize b ++ [k] ++ packed (foldN m) = b2 at *
      generalize b ++ [k] = b1 at *
      simp only [clP] at hp
      refine LoopW.go irKvPut_L1.eq_1 (by simp) ?_
      simp [-getElem?_pos, i1, hlt, hcl, hp, wu]
      refine CallG.go c1 ?_
      simp
      refine CallG.go c2 ?_
      simp [wk, wn]
      exact hn
theorem cntK_le : ∀ l : List Cl, cntK l ≤ l.length
  | [] => Nat.le_refl _
  | x :: l => by
    have := cntK_le l
    rw [cntK, List.length_cons]
    split <;> omega
theorem kvPut_c (L : List Cl) (hL : L.length = 16) (hr : ∀ x ∈ L, -9223372036854775808 ≤ x.2 ∧ x.2 < 9223372036854775808) : ACall Try.prog 30 [.pagg (cellsP L)] [] (.os 5 1 (krows .u8 (packed (cntK L) ++ putK 0 L))) [] [] := by
  refine ACall.fn (fn := Try.f30) rfl okKvPut rfl (by simp) ?_
  simp only [argT, irKvPut.eq_1]
  have hcl : (cellsP L).length = 32 := by rw [cellsP_len, hL]
  have hcn := cntK_le L
  have hlen := putK_len L 0 hr
  have hpl := packed_len64 (cntK L) (by omega)
  have c := putPacked_c [] (cntK L) (by simp) (by omega)
  rw [List.nil_append] at c
  have hlp := kpl L hL hr L 0 0 [] rfl (by omega) (by omega) (by simp)
  rw [List.nil_append, Nat.zero_add] at hlp
  generalize putK 0 L = p at *
  generalize cntK L = n at *
  generalize packed n = q at *
  simp [hcl]
  refine hlp _ fun x y => ?_
  simp
  refine CallG.go c ?_
  simp [krows_length, krows_app]
  omega
end Go.Proofs.Ytdbbbaaopngbcaa
