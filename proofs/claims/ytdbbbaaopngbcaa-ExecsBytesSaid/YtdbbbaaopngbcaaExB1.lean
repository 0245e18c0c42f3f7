/- The document's text of the values of keys; what such a text tells: contracts. -/
import Derived.Test.YtdbbbaaopngbcaaKvPutIr
import Derived.Test.YtdbbbaaopngbcaaNumsIrAll
set_option linter.unusedVariables false
set_option linter.unusedSimpArgs false
namespace Go.Proofs.Ytdbbbaaopngbcaa
open Go.Abs Go.RowKit Go.Ours

theorem rkp (L : List Cl) (hL : L.length = 16) (hr : ∀ x ∈ L, I64 x.2) (q : List PV) (hq : q = cellsP L) : ∀ (l : List Cl) (k n : Nat) (b : List Nat), L.drop k = l → k ≤ 16 → n ≤ k → b.length ≤ 11 * k → ∀ (Q : Exit → S → Prop),
   (∀ c d, Q (.exit 0) (mk [(1, .ptr 1 0), (3, .pv (.int .i64 (n + cntK l : Nat))), (4, .os 5 1 (krows .u8 (b ++ putK k l))), (5, c), (6, d), (7, .pv (.bool false))] [(1, .pagg q)])) →
   LoopW Try.prog [1, 3, 4, 5] [1] irRef14Put_L1 (mk [(1, .ptr 1 0), (3, .pv (.int .i64 (n : Nat))), (4, .os 5 1 (krows .u8 b)), (5, .pv (.int .i64 (k : Nat)))] [(1, .pagg q)]) Q := by
  intro l
  have hcl : q.length = 32 := by rw [hq, cellsP_len, hL]
  induction l with
  | nil =>
    intro k n b hd hk hn hb Q hQ
    have hk2 : k = 16 := by
      have := congrArg List.length hd
      simp [hL] at this
      omega
    subst hk2
    rw [putK, cntK, List.append_nil, Nat.add_zero] at hQ
    refine LoopW.go irRef14Put_L1.eq_1 (by simp) ?_
    simp
    exact hQ _ _
  | cons x l ih =>
    intro k n b hd hk hn hb Q hQ
    have hlt : k < 16 := by
      have := congrArg List.length hd
      simp [hL] at this
      omega
    have hx : L[k]? = some x := by
      have := congrArg (·[0]?) hd
      simpa using this
    have hd' : L.drop (k + 1) = l := by
      have := congrArg (List.drop 1) hd
      simpa [List.drop_drop, Nat.add_comm] using this
    have hxr := hr x (List.mem_of_getElem? hx)
    have i1 : (k : Int) < 16 := by omega
    have k32 : k * 2 < 32 := by omega
    have k33 : k * 2 + 1 < 32 := by omega
    have wk : IntKind.i64.wrap ((k : Int) + 1) = (k + 1 : Nat) := by rw [wrap_i64] <;> omega
    have wu : IntKind.u8.wrap (k : Int) = (k : Int) := by simp [IntKind.wrap, IntKind.bits, IntKind.signed]; omega
    have wn : IntKind.i64.wrap ((n : Int) + 1) = (n + 1 : Nat) := by rw [wrap_i64] <;> omega
    obtain ⟨g1, g2⟩ := cellsP_get hx
    rw [← hq] at g1 g2
    obtain ⟨t, m⟩ := x
    simp only at hxr g1 g2
    cases t
    · have hn := ih (k + 1) n b hd' (by omega) (by omega) (by omega) Q (by simpa [putK, cntK] using hQ)
      refine LoopW.go irRef14Put_L1.eq_1 (by simp) ?_
      simp [-getElem?_pos, i1, hlt, hcl, g1, g2, k32, k33, wk]
      exact hn
    · have hl1 := packed_len64 (foldN m) (foldN_lt m hxr)
      have c1 := refFold_c m hxr
      have c2 := refPacked_c (foldN m) (foldN_lt m hxr)
      have hn := ih (k + 1) (n + 1) (b ++ [k] ++ packed (foldN m)) hd' (by omega) (by omega) (by simp; omega) Q (by simpa [putK, cntK, Nat.add_assoc] using hQ)
      clear hQ
      have e : b ++ [k] ++ packed (foldN m) = b ++ ([k] ++ packed (foldN m)) := List.append_assoc _ _ _
      generalize packed (foldN m) = p at *
      refine LoopW.go irRef14Put_L1.eq_1 (by simp) ?_
      simp [-getElem?_pos, i1, hlt, hcl, g1, g2, k32, k33, wu, wn, krows_length, krows_one]
      refine ⟨by omega, ?_⟩
      refine CallG.go c1 ?_
      simp
      refine CallG.go c2 ?_
      simp [krows_length, krows_app, wk]
      refine ⟨by omega, ?_⟩
      simpa using hn
theorem refKvPut_c (L : List Cl) (hL : L.length = 16) (hr : ∀ x ∈ L, I64 x.2) : ACall Try.prog 37 [.pagg (cellsP L)] [] (.os 5 1 (krows .u8 (packed (cntK L) ++ putK 0 L))) [] [] := by
  refine ACall.fn (fn := Try.f37) rfl okRef14Put rfl (by simp) ?_
  simp only [argT, irRef14Put.eq_1]
  have hcn := cntK_le L
  have hlen := putK_len L 0 hr
  have hpl := packed_len64 (cntK L) (by omega)
  have c := refPacked_c (cntK L) (by omega)
  have c2 := join_c (packed (cntK L)) (putK 0 L) (by omega) (by omega)
  have wn : IntKind.u64.wrap (cntK L : Int) = (cntK L : Int) := by simp [IntKind.wrap, IntKind.bits, IntKind.signed]; omega
  have hlp := rkp L hL hr (cellsP L) rfl L 0 0 [] rfl (by omega) (by omega) (by simp)
  rw [List.nil_append, Nat.zero_add] at hlp
  generalize cellsP L = z at *
  generalize putK 0 L = p at *
  generalize cntK L = n at *
  generalize packed n = q at *
  simp
  refine hlp _ fun x y => ?_
  simp [wn]
  refine CallG.go c ?_
  simp
  refine CallG.go c2 ?_
  simp
/-- A cell without a value has none. -/
def nz (x : Cl) : Cl := if x.1 then x else (false, 0)
def upto (L : List Cl) (k : Nat) : List Cl := (L.take k).map nz ++ List.replicate (16 - k) (false, 0)
theorem upto_len {L : List Cl} (hL : L.length = 16) {k : Nat} (hk : k ≤ 16) : (upto L k).length = 16 := by
  simp [upto, hL]
  omega
theorem upto_next {L : List Cl} {k : Nat} {x : Cl} (hk : k < 16) (h : L[k]? = some x) (hL : L.length = 16) : upto L (k + 1) = (upto L k).set k (nz x) := by
  unfold upto
  rw [List.take_add_one, h]
  have e : 16 - k = (16 - (k + 1)) + 1 := by omega
  rw [e, List.replicate_succ]
  have hl : ((L.take k).map nz).length = k := by simp [hL]; omega
  rw [List.set_append_right _ _ (by omega), hl, Nat.sub_self]
  simp
theorem upto_skip {L : List Cl} {k : Nat} {n : Int} (hk : k < 16) (h : L[k]? = some (false, n)) (hL : L.length = 16) : upto L (k + 1) = upto L k := by
  unfold upto
  rw [List.take_add_one, h]
  have e : 16 - k = (16 - (k + 1)) + 1 := by omega
  rw [e, List.replicate_succ]
  simp [nz]
theorem upto_all {L : List Cl} (hL : L.length = 16) : upto L 16 = L.map nz := by
  unfold upto
  rw [List.take_of_length_le (by omega)]
  simp
theorem kgl (L : List Cl) (hL : L.length = 16) (hr : ∀ x ∈ L, I64 x.2) (b : List Nat) (hb : b.length ≤ 1000) (N : Nat) (hN : N ≤ 16) (z2 : AV) : ∀ (l : List Cl) (k i p : Nat) (la : Int), L.drop k = l → k ≤ 16 → i + cntK l = N → b.drop p = putK k l → p ≤ b.length → -1 ≤ la → la < (k : Int) → ∀ (Q : Exit → S → Prop),
   (∀ c d e, Q (.exit 0) (mk [(2, .ptr 2 0), (4, .ptr 13 0), (7, .ptr 7 0), (8, c), (23, d), (24, e), (25, .pv (.bool false))] [(2, z2), (7, .pagg (cellsP (L.map nz))), (13, .pagg (rdP b b.length))])) →
   LoopW Try.prog [2, 4, 7, 8, 23, 24] [2, 7, 13] irKvGet_L1 (mk [(2, .ptr 2 0), (4, .ptr 13 0), (7, .ptr 7 0), (8, .pv (.int .i64 la)), (23, .pv (.int .i64 (N : Nat))), (24, .pv (.int .i64 (i : Nat)))] [(2, z2), (7, .pagg (cellsP (upto L k))), (13, .pagg (rdP b p))]) Q := by
  intro l
  induction l with
  | nil =>
    intro k i p la hd hk hi hp hpl h1 h2 Q hQ
    have hk2 : k = 16 := by
      have := congrArg List.length hd
      simp [hL] at this
      omega
    subst hk2
    rw [cntK, Nat.add_zero] at hi
    subst hi
    have hp2 : p = b.length := by
      have := congrArg List.length hp
      simp [putK] at this
      omega
    subst hp2
    rw [upto_all hL]
    generalize cellsP (L.map nz) = z at *
    generalize rdP b b.length = rd at *
    refine LoopW.go irKvGet_L1.eq_1 (by simp) ?_
    simp
    exact hQ _ _ _
  | cons x l ih =>
    intro k i p la hd hk hi hp hpl h1 h2 Q hQ
    have hlt : k < 16 := by
      have := congrArg List.length hd
      simp [hL] at this
      omega
    have hx : L[k]? = some x := by
      have := congrArg (·[0]?) hd
      simpa using this
    have hd' : L.drop (k + 1) = l := by
      have := congrArg (List.drop 1) hd
      simpa [List.drop_drop, Nat.add_comm] using this
    have hxr := hr x (List.mem_of_getElem? hx)
    obtain ⟨t, m⟩ := x
    cases t
    · rw [← upto_skip hlt hx hL]
      refine ih (k + 1) i p la hd' (by omega) (by simpa [cntK] using hi) (by simpa [putK] using hp) hpl h1 (by omega) Q hQ
    · simp only [putK, if_true, List.cons_append] at hp
      simp only [cntK, if_true] at hi
      have g0 : b[p]? = some k := by
        have := congrArg (·[0]?) hp
        simpa using this
      have hplt := (List.getElem?_eq_some_iff.1 g0).1
      have hp1 : b.drop (p + 1) = packed (foldN m) ++ putK (k + 1) l := by
        have := congrArg (List.drop 1) hp
        rw [List.drop_drop] at this
        simpa using this
      have hlen := congrArg List.length hp1
      rw [List.length_drop, List.length_append] at hlen
      have f1 := fixed1_c b p k (by omega) g0 (by omega)
      have f2 := folded_c b _ (p + 1) m (by omega) hxr hp1
      have hp2 : b.drop (p + 1 + (packed (foldN m)).length) = putK (k + 1) l := by rw [← List.drop_drop, hp1, List.drop_left]
      have hn := ih (k + 1) (i + 1) (p + 1 + (packed (foldN m)).length) (k : Int) hd' (by omega) (by omega) hp2 (by omega) (by omega) (by omega) Q hQ
      clear hQ
      rw [upto_next hlt hx hL] at hn
      have hul := upto_len hL hk
      have hcl : (cellsP (upto L k)).length = 32 := by rw [cellsP_len, hul]
      have hput := cellsP_put (l := upto L k) (k := k) (by omega) (true, m)
      simp only at hput
      have c3 := some_c m
      simp only [clP] at c3
      have hnz : nz (true, m) = (true, m) := rfl
      rw [hnz, ← hput] at hn
      generalize cellsP (upto L k) = z at *
      generalize p + 1 + (packed (foldN m)).length = p2 at *
      generalize rdP b p2 = r2 at *
      generalize rdP b (p + 1) = r1 at *
      generalize rdP b p = r0 at *
      have i1 : (i : Int) < (N : Int) := by omega
      have i1' : i < N := by omega
      have wk : IntKind.i64.wrap (k : Int) = (k : Int) := by rw [wrap_i64] <;> omega
      have wi : IntKind.i64.wrap ((i : Int) + 1) = (i + 1 : Nat) := by rw [wrap_i64] <;> omega
      have j1 : ¬ (16 : Int) ≤ (k : Int) := by omega
      have j1' : ¬ 16 ≤ k := by omega
      have j2 : ¬ (k : Int) ≤ la := by omega
      have j3 : (k : Int) < 16 := by omega
      refine LoopW.go irKvGet_L1.eq_1 (by simp) ?_
      simp [i1, i1']
      refine CallG.go f1 ?_
      simp
      refine CallG.go f2 ?_
      simp [wk, j1, j1', j2]
      refine CallG.go c3 ?_
      simp [j3, hlt, hcl, wi]
      exact ⟨by omega, hn⟩
theorem kvGet_c (L : List Cl) (hL : L.length = 16) (hr : ∀ x ∈ L, I64 x.2) : ACall Try.prog 45 [.pv (.sl 1 (krows .u8 (packed (cntK L) ++ putK 0 L)))] [] (.tup [.pagg (cellsP (L.map nz)), .pv (.int .i64 0)]) [] [] := by
  refine ACall.fn (fn := Try.f45) rfl okKvGet rfl (by simp) ?_
  simp only [argT, irKvGet.eq_1]
  have hcn := cntK_le L
  have hlen := putK_len L 0 hr
  have hpl := packed_len64 (cntK L) (by omega)
  have hbl : (packed (cntK L) ++ putK 0 L).length ≤ 1000 := by rw [List.length_append]; omega
  have n0 := newr_c (packed (cntK L) ++ putK 0 L) (by omega)
  have f0 := countAt_c (packed (cntK L) ++ putK 0 L) (putK 0 L) 0 (cntK L) 16 (by omega) (by omega) (by omega) rfl
  have hlp := kgl L hL hr (packed (cntK L) ++ putK 0 L) hbl (cntK L) (by omega) (.pagg (cellsP (upto L 0))) L 0 0 (0 + (packed (cntK L)).length) (-1) rfl (by omega) (Nat.zero_add _) (by rw [Nat.zero_add, List.drop_left]) (by rw [List.length_append]; omega) (by omega) (by omega)
  have f1 := done0_c (packed (cntK L) ++ putK 0 L) _ (by omega) rfl
  have e : cellsP (upto L 0) = [.bool false, .int .i64 0, .bool false, .int .i64 0, .bool false, .int .i64 0, .bool false, .int .i64 0, .bool false, .int .i64 0, .bool false, .int .i64 0, .bool false, .int .i64 0, .bool false, .int .i64 0, .bool false, .int .i64 0, .bool false, .int .i64 0, .bool false, .int .i64 0, .bool false, .int .i64 0, .bool false, .int .i64 0, .bool false, .int .i64 0, .bool false, .int .i64 0, .bool false, .int .i64 0] := by simp [upto, cellsP, clP]
  have hcl : (cellsP (L.map nz)).length = 32 := by rw [cellsP_len, List.length_map, hL]
  rw [e] at hlp
  generalize cellsP (L.map nz) = z at *
  generalize packed (cntK L) ++ putK 0 L = b at *
  generalize 0 + (packed (cntK L)).length = p1 at *
  generalize rdP b b.length = r2 at *
  generalize rdP b p1 = r1 at *
  generalize rdP b 0 = r0 at *
  generalize cntK L = n at *
  simp
  refine CallG.go n0 ?_
  simp
  refine CallG.go f0 ?_
  simp
  refine hlp _ fun c d e => ?_
  simp
  refine CallG.go f1 ?_
  simp [hcl]
end Go.Proofs.Ytdbbbaaopngbcaa
