/- consistoryref02.Sum's third loop and its contract. -/
import Derived.Test.YtlbfpnckoblppaaShaL
set_option linter.unusedVariables false
set_option linter.unusedSimpArgs false
namespace Go.Proofs.Ytlbfpnckoblppaa
open Go.Abs Go.RowKit Go.Ours

/-- Words are below 2^32. -/
def U32 (s : List Int) : Prop := ∀ x ∈ s, 0 ≤ x ∧ x < 4294967296
theorem u32_rng (y : Int) : 0 ≤ IntKind.u32.wrap y ∧ IntKind.u32.wrap y < 4294967296 := by
  have : IntKind.u32.wrap y = y % 4294967296 := by simp [IntKind.wrap, IntKind.bits, IntKind.signed]
  omega
theorem blk_rng (K s : List Int) (b : List Nat) : U32 (blk K s b) := by
  intro x hx
  unfold blk at hx
  rw [List.zipWith_eq_zipWith_take_min] at hx
  obtain ⟨i, hi, rfl⟩ := List.getElem_of_mem hx
  rw [List.getElem_zipWith]
  exact u32_rng _
theorem run_rng : ∀ (n : Nat) (s : List Int) (t : List Nat), U32 s → U32 (run n s t)
  | 0, _, _, h => h
  | n + 1, s, t, _ => run_rng n _ _ (blk_rng KW s _)
theorem s0_rng : U32 s0W := by
  intro x hx
  simp only [s0W, List.mem_cons, List.not_mem_nil, or_false] at hx
  omega
theorem u32_nats {s : List Int} (h : U32 s) : ∃ S : List Nat, s = S.map (fun n : Nat => (n : Int)) ∧ ∀ n ∈ S, n < 4294967296 := by
  refine ⟨s.map Int.toNat, ?_, ?_⟩
  · rw [List.map_map]
    symm
    refine (List.map_congr_left fun x hx => ?_).trans (List.map_id _)
    have := h x hx
    simp only [Function.comp, id]
    omega
  · intro n hn
    obtain ⟨x, hx, rfl⟩ := List.mem_map.1 hn
    have := h x hx
    omega
theorem byt_nat (m x : Nat) : byt m (x : Int) = x / 2 ^ m % 256 := by
  unfold byt
  rw [shr_nat]
  have : IntKind.u8.wrap ((x / 2 ^ m : Nat) : Int) = ((x / 2 ^ m % 256 : Nat) : Int) := by
    simp [IntKind.wrap, IntKind.bits, IntKind.signed]
  rw [this, Int.toNat_natCast]
theorem told_nat (S : List Nat) : told (S.map fun n : Nat => (n : Int)) = S.flatMap (fx 4) := by
  unfold told
  rw [List.flatMap_map]
  congr 1
  funext x
  rw [byt_nat, byt_nat, byt_nat, byt_nat]
  simp [fx, List.range, List.range.loop]
theorem told_get : ∀ (S : List Nat) (q r : Nat), r < 4 → (S.flatMap (fx 4))[4 * q + r]? = (S[q]?).bind fun x => (fx 4 x)[r]?
  | [], q, r, _ => by simp
  | a :: S, 0, r, hr => by
    rw [List.flatMap_cons, List.getElem?_append_left (by rw [fx_len]; omega)]
    simp
  | a :: S, q + 1, r, hr => by
    rw [List.flatMap_cons, List.getElem?_append_right (by rw [fx_len]; omega), fx_len, show 4 * (q + 1) + r - 4 = 4 * q + r by omega, told_get S q r hr]
    simp
theorem told_len (S : List Nat) : (S.flatMap (fx 4)).length = 4 * S.length := by
  induction S with
  | nil => rfl
  | cons a S ih => rw [List.flatMap_cons, List.length_append, fx_len, ih, List.length_cons]; omega
theorem set_fill (T : List Nat) (i n v : Nat) (h : T[i]? = some v) : (T.take i ++ List.replicate (n + 1) 0).set i v = T.take (i + 1) ++ List.replicate n 0 := by
  have hi : i < T.length := by
    by_cases c : i < T.length
    · exact c
    · rw [List.getElem?_eq_none (by omega)] at h; cases h
  have hl : (T.take i).length = i := by rw [List.length_take]; omega
  rw [List.set_append_right _ _ (by omega), hl, Nat.sub_self, List.replicate_succ, List.set_cons_zero, List.take_add_one, h]
  simp
theorem kirows_nat (k : IntKind) (S : List Nat) : kirows k (S.map fun n : Nat => (n : Int)) = krows k S := by
  simp [kirows, krows]
theorem ql3 (z : AV) (S : List Nat) (hS : S.length = 8) (hb : ∀ n ∈ S, n < 4294967296) : ∀ (n i : Nat), i + n = 32 → ∀ (Q : Exit → Go.Abs.S → Prop),
   (∀ a b c, Q (.exit 4) (mk [(2, .ptr 2 0), (4, a), (6, .ptr 6 0), (7, b), (45, c), (46, .pv (.bool false))] [(2, z), (6, .pagg (kns .u8 (S.flatMap (fx 4))))])) →
   LoopW Try.prog [2, 4, 6, 7] [2, 6] irRef02Sum_L3 (mk [(2, .ptr 2 0), (4, .os 86 1 (krows .u32 S)), (6, .ptr 6 0), (7, .pv (.int .i64 i))] [(2, z), (6, .pagg (kns .u8 ((S.flatMap (fx 4)).take i ++ List.replicate n 0)))]) Q := by
  intro n
  induction n with
  | zero =>
    intro i hi Q hQ
    obtain rfl : i = 32 := by omega
    rw [List.take_of_length_le (by rw [told_len]; omega), List.replicate_zero, List.append_nil]
    refine LoopW.go irRef02Sum_L3.eq_1 (by simp) ?_
    simp
    exact hQ _ _ _
  | succ n ih =>
    intro i hi Q hQ
    have hn := ih (i + 1) (by omega) Q hQ
    obtain ⟨q, hq⟩ : ∃ q, q = i / 4 := ⟨_, rfl⟩
    obtain ⟨r, hr⟩ : ∃ r, r = i % 4 := ⟨_, rfl⟩
    have e1 : (i : Int).tdiv 4 = (q : Int) := by rw [hq]; rfl
    have e2 : (i : Int).tmod 4 = (r : Int) := by rw [hr]; rfl
    obtain ⟨x, hx⟩ : ∃ x, S[q]? = some x := ⟨_, List.getElem?_eq_getElem (by omega)⟩
    have hxb := hb x (List.mem_of_getElem? hx)
    obtain ⟨y, hy⟩ : ∃ y, (fx 4 x)[r]? = some y := ⟨_, List.getElem?_eq_getElem (by rw [fx_len]; omega)⟩
    have hT : (S.flatMap (fx 4))[i]? = some y := by
      rw [show i = 4 * q + r by omega, told_get S q r (by omega), hx]
      exact hy
    have hyb : y < 256 := fx_lt 4 x y (List.mem_of_getElem? hy)
    rw [← set_fill _ i n y hT] at hn
    have hl : ((S.flatMap (fx 4)).take i ++ List.replicate (n + 1) 0).length = 32 := by
      rw [List.length_append, List.length_take, told_len, List.length_replicate]; omega
    generalize (S.flatMap (fx 4)).take i ++ List.replicate (n + 1) 0 = D at *
    have hc := fixed_c x 4 (by omega) (Or.inl rfl)
    have hfl := fx_len 4 x
    generalize fx 4 x = F at *
    have i1 : (i : Int) < 32 := by omega
    have i2 : i < 32 := by omega
    have w1 : IntKind.i64.wrap (q : Int) = q := by rw [wrap_i64] <;> omega
    have w2 : IntKind.u64.wrap (x : Int) = x := by rw [wrap_u64] <;> omega
    have w3 : IntKind.i64.wrap ((i : Int) + 1) = (i + 1 : Nat) := by rw [wrap_i64] <;> omega
    refine LoopW.go irRef02Sum_L3.eq_1 (by simp) ?_
    simp [-getElem?_pos, i1, i2, e1, e2, w1, w2, krows_get, hx]
    refine CallG.go hc ?_
    simp [-getElem?_pos, i1, i2, e1, e2, w3, krows_get, hy, kns_set, kns_length, hl]
    exact hn
end Go.Proofs.Ytlbfpnckoblppaa
