/- consistoryref03.Tag's, mac.Check's, Derive's contracts. -/
import Derived.Test.YtljjmcnblcklhaaMacA
set_option linter.unusedVariables false
set_option linter.unusedSimpArgs false
namespace Go.Proofs.Ytljjmcnblcklhaa
open Go.Abs Go.RowKit Go.Ours

theorem rt1 (p z : AV) : ∀ (m : Nat) (L : List Nat), L.length + m = 64 → ∀ (Q : Exit → S → Prop),
   (∀ a b, Q (.exit 0) (mk [(1, p), (4, .ptr 4 0), (5, .os 5 1 (krows .u8 (L ++ List.replicate m 0))), (20, a), (21, b), (22, .pv (.bool false))] [(4, z)])) →
   LoopW Try.prog [1, 4, 5] [4] irRef03Tag_L1 (mk [(1, p), (4, .ptr 4 0), (5, .os 5 1 (krows .u8 L))] [(4, z)]) Q := by
  intro m
  induction m with
  | zero =>
    intro L hL Q hQ
    simp only [List.replicate_zero, List.append_nil] at hQ
    have h1 : ¬ ((L.length : Int) < 64) := by omega
    refine LoopW.go irRef03Tag_L1.eq_1 (by simp) ?_
    simp [krows_length, h1]
    exact hQ _ _
  | succ m ih =>
    intro L hL Q hQ
    have h1 : (L.length : Int) < 64 := by omega
    have hn := ih (L ++ [0]) (by simp; omega) Q (fun a b => by
      rw [List.append_assoc]
      exact hQ a b)
    have k0 : krows .u8 L ++ [[.int .u8 0]] = krows .u8 (L ++ [0]) := krows_one .u8 L 0
    refine LoopW.go irRef03Tag_L1.eq_1 (by simp) ?_
    simp [krows_length, h1, k0]
    exact ⟨by omega, hn⟩
theorem rt2 (p z : AV) (b : List Nat) (hl : b.length = 64) (hb : ∀ x ∈ b, x < 256) : ∀ (n k : Nat), k + n = 64 → ∀ (Q : Exit → S → Prop),
   (∀ a c d, Q (.exit 2) (mk [(1, p), (4, .ptr 4 0), (5, a), (6, .os 5 1 (krows .u8 (xr 54 b))), (7, .os 5 1 (krows .u8 (xr 92 b))), (8, c), (26, d), (27, .pv (.bool false))] [(4, z)])) →
   LoopW Try.prog [1, 4, 5, 6, 7, 8] [4] irRef03Tag_L2 (mk [(1, p), (4, .ptr 4 0), (5, .os 5 1 (krows .u8 b)), (6, .os 5 1 (krows .u8 ((xr 54 b).take k))), (7, .os 5 1 (krows .u8 ((xr 92 b).take k))), (8, .pv (.int .i64 (k : Nat)))] [(4, z)]) Q := by
  intro n
  induction n with
  | zero =>
    intro k hk Q hQ
    obtain rfl : k = 64 := by omega
    rw [List.take_of_length_le (by rw [xr_len]; omega), List.take_of_length_le (by rw [xr_len]; omega)]
    refine LoopW.go irRef03Tag_L2.eq_1 (by simp) ?_
    simp
    exact hQ _ _ _
  | succ n ih =>
    intro k hk Q hQ
    have hn := ih (k + 1) (by omega) Q hQ
    obtain ⟨x, hx⟩ : ∃ x, b[k]? = some x := ⟨_, List.getElem?_eq_getElem (by omega)⟩
    have hxb := hb x (List.mem_of_getElem? hx)
    have hx1 : (xr 54 b)[k]? = some (x ^^^ 54) := by simp [xr, hx]
    have hx2 : (xr 92 b)[k]? = some (x ^^^ 92) := by simp [xr, hx]
    have hl1 : ((xr 54 b).take k).length ≤ 64 := by rw [List.length_take]; omega
    have hl2 : ((xr 92 b).take k).length ≤ 64 := by rw [List.length_take]; omega
    rw [List.take_add_one, List.take_add_one, hx1, hx2] at hn
    have e1 : bits BinOp.xor IntKind.u8 (x : Int) 54 = ((x ^^^ 54 : Nat) : Int) := xor8 x 54 hxb (by decide)
    have e2 : bits BinOp.xor IntKind.u8 (x : Int) 92 = ((x ^^^ 92 : Nat) : Int) := xor8 x 92 hxb (by decide)
    generalize (xr 54 b).take k = D1 at *
    generalize (xr 92 b).take k = D2 at *
    generalize x ^^^ 54 = u1 at *
    generalize x ^^^ 92 = u2 at *
    have i1 : (k : Int) < 64 := by omega
    have i2 : k < 64 := by omega
    have w : IntKind.i64.wrap ((k : Int) + 1) = (k + 1 : Nat) := by rw [wrap_i64] <;> omega
    refine LoopW.go irRef03Tag_L2.eq_1 (by simp) ?_
    simp [-getElem?_pos, i1, i2, w, krows_get, hx, e1, e2, krows_length, krows_one]
    exact ⟨by omega, by omega, hn⟩
theorem refTag_c (key t : List Nat) (hk : key.length ≤ 1000000) (ht : t.length ≤ 1000000) (hb : ∀ x ∈ key, x < 256) (htb : ∀ x ∈ t, x < 256) : ACall Try.prog 12 [.pv (.sl 1 (krows .u8 key)), .pv (.sl 1 (krows .u8 t))] [] (.pagg (kns .u8 (tagF key t))) [] [] := by
  refine ACall.fn (fn := Try.f12) rfl okRef03Tag rfl (by simp) ?_
  simp only [argT, irRef03Tag.eq_1]
  have hkl := kblk_len key
  have hkb := kblk_lt key hb
  have hkc := kcut_len key
  have hxl1 := xr_len 54 (kblk key)
  have hxl2 := xr_len 92 (kblk key)
  have c3 := refSum_c (xr 54 (kblk key) ++ t) (by rw [List.length_append, xr_len]; omega) (fun x hx => by rcases List.mem_append.1 hx with h | h; exact xr_lt 54 (by decide) _ hkb x h; exact htb x h)
  have hl3 := shaF_len (xr 54 (kblk key) ++ t)
  have hb3 := shaF_lt (xr 54 (kblk key) ++ t)
  have htg : tagF key t = shaF (xr 92 (kblk key) ++ shaF (xr 54 (kblk key) ++ t)) := rfl
  generalize shaF (xr 54 (kblk key) ++ t) = y at *
  have c5 := refSum_c (xr 92 (kblk key) ++ y) (by rw [List.length_append, xr_len]; omega) (fun x hx => by rcases List.mem_append.1 hx with h | h; exact xr_lt 92 (by decide) _ hkb x h; exact hb3 x h)
  have hl5 := shaF_len (xr 92 (kblk key) ++ y)
  rw [← htg] at c5 hl5
  by_cases h : 64 < key.length
  · have h' : (64 : Int) < (key.length : Int) := by omega
    have hkk : kcut key = shaF key := by unfold kcut; rw [if_pos h]
    have c1 := refSum_c key (by omega) hb
    have hl1 := shaF_len key
    rw [← hkk] at c1 hl1
    simp [-List.reduceReplicate, krows_length, h, h']
    refine CallG.go c1 ?_
    simp [-List.reduceReplicate]
    refine CallG.go (bytes_c (kcut key) hl1) ?_
    simp [-List.reduceReplicate, krows_length]
    refine ⟨by omega, ?_⟩
    refine rt1 _ _ (64 - (kcut key).length) (kcut key) (by omega) _ fun a b => ?_
    simp [-List.reduceReplicate]
    refine rt2 _ _ (kblk key) hkl hkb 64 0 rfl _ fun a c d => ?_
    generalize kblk key = z at *
    generalize xr 54 z = z1 at *
    generalize xr 92 z = z2 at *
    simp [-List.reduceReplicate, krows_length, krows_app]
    refine ⟨by omega, ?_⟩
    refine CallG.go c3 ?_
    simp [-List.reduceReplicate]
    refine CallG.go (bytes_c y hl3) ?_
    simp [-List.reduceReplicate, krows_length, krows_app]
    refine ⟨by omega, ?_⟩
    refine CallG.go c5 ?_
    simp [-List.reduceReplicate, kns_length, hl5]
  · have h' : ¬ (64 : Int) < (key.length : Int) := by omega
    have hkk : kcut key = key := by unfold kcut; rw [if_neg h]
    simp [-List.reduceReplicate, krows_length, h, h']
    have ek : key ++ List.replicate (64 - (kcut key).length) 0 = kblk key := by unfold kblk; rw [hkk]
    refine ⟨by omega, ?_⟩
    refine rt1 _ _ (64 - (kcut key).length) key (by rw [hkk] at hkc ⊢; omega) _ fun a b => ?_
    rw [ek]
    simp [-List.reduceReplicate]
    refine rt2 _ _ (kblk key) hkl hkb 64 0 rfl _ fun a c d => ?_
    generalize kblk key = z at *
    generalize xr 54 z = z1 at *
    generalize xr 92 z = z2 at *
    simp [-List.reduceReplicate, krows_length, krows_app]
    refine ⟨by omega, ?_⟩
    refine CallG.go c3 ?_
    simp [-List.reduceReplicate]
    refine CallG.go (bytes_c y hl3) ?_
    simp [-List.reduceReplicate, krows_length, krows_app]
    refine ⟨by omega, ?_⟩
    refine CallG.go c5 ?_
    simp [-List.reduceReplicate, kns_length, hl5]
theorem xor_zero {x y : Nat} (h : x ^^^ y = 0) : x = y := by
  have : x ^^^ y ^^^ y = y := by rw [h, Nat.zero_xor]
  rwa [Nat.xor_assoc, Nat.xor_self, Nat.xor_zero] at this
theorem mcl (own tag : List Nat) (hl : own.length = 32) (hl2 : tag.length = 32) (hb : ∀ x ∈ own, x < 256) (hb2 : ∀ x ∈ tag, x < 256) : ∀ (n k D : Nat), k + n = 32 → D < 256 → (D = 0 ↔ own.take k = tag.take k) → ∀ (Q : Exit → S → Prop),
   (∀ D : Nat, (D = 0 ↔ own = tag) → ∀ a, Q (.exit 0) (mk [(5, a), (7, .ptr 7 0), (8, .pv (.int .u8 (D : Nat))), (13, .pv (.int .i64 32)), (14, .pv (.bool false))] [(7, .pagg (kns .u8 own))])) →
   LoopW Try.prog [5, 7, 8, 13] [7] irMacCheck_L1 (mk [(5, .rp (kns .u8 tag)), (7, .ptr 7 0), (8, .pv (.int .u8 (D : Nat))), (13, .pv (.int .i64 (k : Nat)))] [(7, .pagg (kns .u8 own))]) Q := by
  intro n
  induction n with
  | zero =>
    intro k D hk hD hi Q hQ
    obtain rfl : k = 32 := by omega
    rw [List.take_of_length_le (by omega), List.take_of_length_le (by omega)] at hi
    refine LoopW.go irMacCheck_L1.eq_1 (by simp) ?_
    simp
    exact hQ D hi _
  | succ n ih =>
    intro k D hk hD hi Q hQ
    obtain ⟨x, hx⟩ : ∃ x, own[k]? = some x := ⟨_, List.getElem?_eq_getElem (by omega)⟩
    obtain ⟨y, hy⟩ : ∃ y, tag[k]? = some y := ⟨_, List.getElem?_eq_getElem (by omega)⟩
    have hxb := hb x (List.mem_of_getElem? hx)
    have hyb := hb2 y (List.mem_of_getElem? hy)
    have hxy := xor_lt hxb hyb
    have e1 := xor8 x y hxb hyb
    have e2 := or8 D (x ^^^ y) hD hxy
    have hn := ih (k + 1) (D ||| (x ^^^ y)) (by omega) (Nat.or_lt_two_pow (n := 8) hD hxy) (by
      rw [List.take_add_one, List.take_add_one, hx, hy, Nat.or_eq_zero_iff, hi]
      constructor
      · rintro ⟨h1, h2⟩
        have : x = y := xor_zero h2
        rw [h1, this]
      · intro h
        have h2 := List.append_inj h (by rw [List.length_take, List.length_take]; omega)
        have : x = y := by simpa using h2.2
        exact ⟨h2.1, by rw [this, Nat.xor_self]⟩) Q hQ
    generalize x ^^^ y = u at *
    generalize D ||| u = v at *
    have i1 : (k : Int) < 32 := by omega
    have i2 : k < 32 := by omega
    have w : IntKind.i64.wrap ((k : Int) + 1) = (k + 1 : Nat) := by rw [wrap_i64] <;> omega
    refine LoopW.go irMacCheck_L1.eq_1 (by simp) ?_
    simp [-getElem?_pos, i1, i2, w, kns_get, hx, hy, e1, e2, kns_length, hl, hl2]
    exact hn
theorem check_c (key t tag : List Nat) (hk : key.length ≤ 1000000) (ht : t.length ≤ 1000000) (hb : ∀ x ∈ key, x < 256) (htb : ∀ x ∈ t, x < 256) (hl : tag.length = 32) (hb2 : ∀ x ∈ tag, x < 256) : ACall Try.prog 14 [.pv (.sl 1 (krows .u8 key)), .pv (.sl 1 (krows .u8 t)), .pagg (kns .u8 tag)] [] (.pv (.bool (decide (tagF key t = tag)))) [] [] := by
  refine ACall.fn (fn := Try.f14) rfl okMacCheck rfl (by simp) ?_
  simp only [argT, irMacCheck.eq_1]
  have c1 := tag_c key t hk ht hb htb
  have hl1 := tagF_len key t
  have hb1 := tagF_lt key t
  generalize tagF key t = own at *
  simp [-List.reduceReplicate]
  refine CallG.go c1 ?_
  simp [-List.reduceReplicate, kns_length, hl1]
  refine mcl own tag hl1 hl hb1 hb2 32 0 0 rfl (by decide) (by simp) _ fun D hD a => ?_
  have e : ((D : Int) == 0) = decide (own = tag) := by
    by_cases h : own = tag
    · have := hD.2 h
      subst this
      simp [h]
    · have : D ≠ 0 := fun h0 => h (hD.1 h0)
      simp [h]
      omega
  simp [e]
end Go.Proofs.Ytljjmcnblcklhaa
