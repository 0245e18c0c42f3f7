/- The reader of messages, its parts: what fits is read, what is cut off gives up: contracts. No condition. -/
import Derived.Test.YtekpgcohlpkmnaaWireSizeW
import Derived.Test.YtekpgcohlpkmnaaNumsIrRd
import Derived.Test.YtekpgcohlpkmnaaNumsIrX
import Derived.Test.YtekpgcohlpkmnaaIrWire2
import Derived.Test.YtekpgcohlpkmnaaWireN
set_option linter.unusedVariables false
set_option linter.unusedSimpArgs false
namespace Go.Proofs.Ytekpgcohlpkmnaa
open Go.Abs Go.RowKit Go.Ours

theorem fixed1_c (b : List Nat) (k x : Nat) (hl : b.length ≤ 10000000000) (hx : b[k]? = some x) (hx2 : x < 256) : ACall Try.prog 41 [.ptr 1000 0, .pv (.int .i64 1)] [.pagg (rdP b k)] (.tup [.pv (.int .u64 (x : Nat)), .pv (.int .i64 0)]) [.pagg (rdP b (k + 1))] [] := by
  refine ACall.fn (fn := Try.f41) rfl okNumsReaderFixed rfl (by simp) ?_
  simp only [argT, irNumsReaderFixed.eq_1]
  have hk : k < b.length := (List.getElem?_eq_some_iff.1 hx).1
  have c := left_c b k hl (by omega)
  have h1 : ¬ ((b.length - k : Nat) : Int) < 1 := by omega
  have h2 : ¬ (b.length - k : Nat) < 1 := by omega
  generalize b.length - k = z at *
  obtain ⟨k1, hk1⟩ : ∃ k1, k1 = k + 1 := ⟨_, rfl⟩
  rw [← hk1]
  have i1 : (k : Int) < (b.length : Int) := by omega
  have w1 : IntKind.i64.wrap ((k : Int) + 1) = (k1 : Int) := by rw [wrap_i64] <;> omega
  have o1 := or_byte 0 x (by omega) hx2
  rw [show ((256 * 0 + x : Nat) : Int) = x by omega] at o1
  simp [rdP] at c ⊢
  refine CallG.go (nwide_c 1 (by simp)) ?_
  simp
  refine CallG.go c ?_
  simp [h1, h2]
  simp at o1
  refine LoopW.go irNumsReaderFixed_L1.eq_1 (by simp) ?_
  simp [-getElem?_pos, krows_length, krows_get, i1, hk, hx, o1, w1]
  refine LoopW.go irNumsReaderFixed_L1.eq_1 (by simp) ?_
  simp
theorem packed_bigs (y : Nat) : ∀ j, j < (packed y).length → bigs ((packed y).take j) := by
  induction y using Nat.strongRecOn with
  | _ y ih =>
    intro j hj
    by_cases h : y < 128
    · rw [packed_small h] at hj
      simp at hj
      subst hj
      intro b hb
      simp at hb
    · rw [packed_big (by omega)] at hj ⊢
      cases j with
      | zero => intro b hb; simp at hb
      | succ j =>
        intro b hb
        rw [List.take_succ_cons, List.mem_cons] at hb
        rcases hb with rfl | hb
        · omega
        · exact ih (y / 128) (by omega) j (by simpa using hj) b hb
theorem rklS (b : List Nat) (k : Nat) (hl : b.length ≤ 10000000000) : ∀ (l : List Nat) (i : Nat) (x : Int), b.drop (k + i) = l → bigs l → i + l.length ≤ 9 → k + i ≤ b.length → ∀ (Q : Exit → S → Prop),
   (∀ c, Q .ret (mk [(0, c), (2, .pv (.int .u64 0)), (3, .pv (.int .i64 1))] [(1000, .pagg (rdP b k))])) →
   LoopW Try.prog [0, 4, 9] [1000] irNumsReaderPacked_L1 (mk [(0, .ptr 1000 0), (4, .pv (.int .u64 x)), (9, .pv (.int .i64 (i : Nat)))] [(1000, .pagg (rdP b k))]) Q := by
  intro l
  induction l with
  | nil =>
    intro i x hd hb hi hki Q hQ
    rw [List.drop_eq_nil_iff] at hd
    obtain ⟨k1, hk1⟩ : ∃ k1, k1 = k + i := ⟨_, rfl⟩
    have hi' : i ≤ 9 := by simpa using hi
    have i10 : (i : Int) < 10 := by omega
    have i10' : i < 10 := by omega
    have i1 : (b.length : Int) ≤ (k1 : Int) := by omega
    have i1' : b.length ≤ k1 := by omega
    have w1 : IntKind.i64.wrap ((k : Int) + (i : Int)) = (k1 : Int) := by rw [wrap_i64] <;> omega
    simp only [rdP] at hQ ⊢
    refine LoopW.go irNumsReaderPacked_L1.eq_1 (by simp) ?_
    simp [-getElem?_pos, krows_length, krows_get, i10, i10', w1, i1, i1']
    exact hQ _
  | cons c l ih =>
    intro i x hd hb hi hki Q hQ
    have hcb := hb c List.mem_cons_self
    have hlt : k + i < b.length := by
      have := congrArg List.length hd
      simp at this
      omega
    have hc : b[k + i]? = some c := by
      have := congrArg (·[0]?) hd
      simpa using this
    have hd' : b.drop (k + (i + 1)) = l := by
      have := congrArg (List.drop 1) hd
      rw [List.drop_drop] at this
      simpa [Nat.add_assoc] using this
    rw [List.length_cons] at hi
    obtain ⟨j, hj⟩ : ∃ j, j = 7 * i := ⟨_, rfl⟩
    obtain ⟨k1, hk1⟩ : ∃ k1, k1 = k + i := ⟨_, rfl⟩
    have hi9 : ¬ (i : Int) = 9 := by omega
    have hi9' : ¬ i = 9 := by omega
    have i10 : (i : Int) < 10 := by omega
    have i10' : i < 10 := by omega
    have w7 : IntKind.i64.wrap (7 * (i : Int)) = (j : Int) := by rw [wrap_i64] <;> omega
    have hn := fun x' => ih (i + 1) x' hd' (bigs_tail hb) (by omega) (by omega) Q hQ
    clear hQ ih
    rw [← hk1] at hc hlt
    have i1 : ¬ (b.length : Int) ≤ (k1 : Int) := by omega
    have i1' : ¬ b.length ≤ k1 := by omega
    have i3 : (k1 : Int) < (b.length : Int) := by omega
    have w1 : IntKind.i64.wrap ((k : Int) + (i : Int)) = (k1 : Int) := by rw [wrap_i64] <;> omega
    have w2 : IntKind.i64.wrap ((i : Int) + 1) = (i + 1 : Nat) := by rw [wrap_i64] <;> omega
    have h' : ¬ (c : Int) < 128 := by omega
    have h'' : ¬ c < 128 := by omega
    have j0 : (0 : Int) ≤ (j : Int) := by omega
    simp only [rdP] at hn ⊢
    refine LoopW.go irNumsReaderPacked_L1.eq_1 (by simp) ?_
    simp [-getElem?_pos, krows_length, krows_get, i10, i10', hi9, hi9', w7, w1, w2, i1, i1', i3, hlt, hc, h', h'', j0]
    exact hn _
theorem packedS_c (b : List Nat) (k : Nat) (hl : b.length ≤ 10000000000) (hk : k ≤ b.length) (hb : bigs (b.drop k)) (h9 : (b.drop k).length ≤ 9) : ACall Try.prog 45 [.ptr 1000 0] [.pagg (rdP b k)] (.tup [.pv (.int .u64 0), .pv (.int .i64 1)]) [.pagg (rdP b k)] [] := by
  refine ACall.fn (fn := Try.f45) rfl okNumsReaderPacked rfl (by simp) ?_
  simp only [argT, irNumsReaderPacked.eq_1]
  have hlp := rklS b k hl (b.drop k) 0 0 rfl hb (by omega) (by omega)
  generalize rdP b k = q at *
  simp
  refine hlp _ fun c => ?_
  simp
theorem countS_c (b : List Nat) (k n : Nat) (hl : b.length ≤ 10000000000) (hk : k ≤ b.length) (hb : bigs (b.drop k)) (h9 : (b.drop k).length ≤ 9) : ACall Try.prog 43 [.ptr 1000 0, .pv (.int .i64 (n : Nat))] [.pagg (rdP b k)] (.tup [.pv (.int .i64 0), .pv (.int .i64 1)]) [.pagg (rdP b k)] [] := by
  refine ACall.fn (fn := Try.f43) rfl okNumsReaderCount rfl (by simp) ?_
  simp only [argT, irNumsReaderCount.eq_1]
  have c := packedS_c b k hl hk hb h9
  simp only [rdP] at c ⊢
  simp
  refine CallG.go c ?_
  simp
theorem textS1_c (b : List Nat) (k n : Nat) (hl : b.length ≤ 10000000000) (hk : k ≤ b.length) (hb : bigs (b.drop k)) (h9 : (b.drop k).length ≤ 9) : ACall Try.prog 42 [.ptr 1000 0, .pv (.int .i64 (n : Nat))] [.pagg (rdP b k)] (.tup [.os 5 1 [], .pv (.int .i64 1)]) [.pagg (rdP b k)] [] := by
  refine ACall.fn (fn := Try.f42) rfl okNumsReaderText rfl (by simp) ?_
  simp only [argT, irNumsReaderText.eq_1]
  have c := countS_c b k n hl hk hb h9
  simp only [rdP] at c ⊢
  simp
  refine CallG.go c ?_
  simp
theorem textS2_c (b r : List Nat) (k y n : Nat) (hl : b.length ≤ 10000000000) (hn : n ≤ 10000000000) (hy : y ≤ n) (hk : k ≤ b.length) (hd : b.drop k = packed y ++ r) (hr : r.length < y) : ACall Try.prog 42 [.ptr 1000 0, .pv (.int .i64 (n : Nat))] [.pagg (rdP b k)] (.tup [.os 5 1 [], .pv (.int .i64 1)]) [.pagg (rdP b k)] [] := by
  refine ACall.fn (fn := Try.f42) rfl okNumsReaderText rfl (by simp) ?_
  simp only [argT, irNumsReaderText.eq_1]
  have hlen := congrArg List.length hd
  rw [List.length_drop, List.length_append] at hlen
  have c1 := countAt_c b r k y n hl hn hy hd
  have c2 := left_c b (k + (packed y).length) hl (by omega)
  obtain ⟨k2, hk2⟩ : ∃ k2, k2 = k + (packed y).length := ⟨_, rfl⟩
  rw [← hk2] at c1 c2
  have i1 : ((b.length - k2 : Nat) : Int) < (y : Int) := by omega
  have i1' : (b.length - k2 : Nat) < y := by omega
  generalize b.length - k2 = z at *
  simp only [rdP] at c1 c2 ⊢
  simp
  refine CallG.go c1 ?_
  simp
  refine CallG.go c2 ?_
  simp [i1, i1']
theorem number1_c (b : List Nat) (k x : Nat) (hl : b.length ≤ 10000000000) (hx : b[k]? = some x) (hx2 : x < 256) : ACall Try.prog 36 [.agg [.ptr 1000 0], .pv (.int .i64 1)] [.pagg (rdP b k)] (.pv (.int .i64 (x : Nat))) [.pagg (rdP b (k + 1))] [] := by
  refine ACall.fn (fn := Try.f36) rfl okWireReaderNumber rfl (by simp) ?_
  simp only [argT, irWireReaderNumber.eq_1]
  have c := fixed1_c b k x hl hx hx2
  have w : IntKind.i64.wrap (x : Int) = (x : Int) := by rw [wrap_i64] <;> omega
  generalize rdP b k = q at *
  generalize rdP b (k + 1) = q2 at *
  simp
  refine CallG.go c ?_
  simp
  refine RegE.n ?_
  simp
  refine CallG.go need0_c ?_
  simp [w]
theorem number2_c (b : List Nat) (k x y : Nat) (hl : b.length ≤ 10000000000) (hx : b[k]? = some x) (hy : b[k + 1]? = some y) (hx2 : x < 256) (hy2 : y < 256) : ACall Try.prog 36 [.agg [.ptr 1000 0], .pv (.int .i64 2)] [.pagg (rdP b k)] (.pv (.int .i64 (256 * x + y : Nat))) [.pagg (rdP b (k + 2))] [] := by
  refine ACall.fn (fn := Try.f36) rfl okWireReaderNumber rfl (by simp) ?_
  simp only [argT, irWireReaderNumber.eq_1]
  have c := fixed2_c b k x y hl hx hy hx2 hy2
  obtain ⟨z, hz⟩ : ∃ z, z = 256 * x + y := ⟨_, rfl⟩
  rw [← hz] at c ⊢
  have w : IntKind.i64.wrap (z : Int) = (z : Int) := by rw [wrap_i64] <;> omega
  generalize rdP b k = q at *
  generalize rdP b (k + 2) = q2 at *
  simp
  refine CallG.go c ?_
  simp
  refine RegE.n ?_
  simp
  refine CallG.go need0_c ?_
  simp [w]
theorem numberS_c (b : List Nat) (n k : Nat) (hn : n = 1 ∨ n = 2) (hl : b.length ≤ 10000000000) (hk : k ≤ b.length) (hs : b.length < k + n) : APan Try.prog 36 [.agg [.ptr 1000 0], .pv (.int .i64 (n : Nat))] [.pagg (rdP b k)] (chE 1) := by
  refine APan.fn (fn := Try.f36) rfl okWireReaderNumber rfl ?_
  simp only [argT, irWireReaderNumber.eq_1]
  have c := fixedS_c b n k (by omega) hl hk hs
  generalize rdP b k = q at *
  simp
  refine CallG.go c ?_
  simp
  refine RegE.x ?_
  simp
  refine WX.here (needX_c 1 (by decide)) ?_
  simp
end Go.Proofs.Ytekpgcohlpkmnaa
