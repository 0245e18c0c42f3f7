/- The digests of many texts, and chains: their contracts. -/
import Derived.Test.YtgnajpfackfcaaaShaQ
import Derived.Test.YtgnajpfackfcaaaArgTxt
set_option linter.unusedVariables false
set_option linter.unusedSimpArgs false
namespace Go.Proofs.Ytgnajpfackfcaaa
open Go.Abs Go.RowKit Go.Ours

theorem txt_len (t : List Nat) (h : t.length ≤ 10000) : (txt t).length ≤ t.length + 10 := by
  have := packed_len64 t.length (by omega)
  simp [txt]; omega
theorem txt_lt (t : List Nat) (h : ∀ x ∈ t, x < 256) : ∀ x ∈ txt t, x < 256 := by
  intro x hx
  rcases List.mem_append.1 hx with hx | hx
  · exact packed_bytes _ x hx
  · exact h x hx
theorem all_len : ∀ (T : List (List Nat)), (∀ t ∈ T, t.length ≤ 1000) → (T.flatMap txt).length ≤ 1010 * T.length
  | [], _ => by simp
  | t :: T, h => by
    have h1 := txt_len t (by have := h t (by simp); omega)
    have h2 := all_len T (fun t ht => h t (by simp [ht]))
    have h3 := h t (by simp)
    rw [List.flatMap_cons, List.length_append, List.length_cons]
    omega
theorem kns_noSl (k : IntKind) (l : List Nat) : ∀ p ∈ kns k l, (match p with
    | .sl _ _ => False
    | _ => True) := by
  intro p hp
  obtain ⟨n, _, rfl⟩ := List.mem_map.1 hp
  trivial
theorem al (T : List (List Nat)) (hTl : T.length ≤ 1000) (hT : ∀ t ∈ T, t.length ≤ 1000) (z : AV) : ∀ (n k : Nat) (B : List Nat), k + n = T.length → B.length + 1010 * n ≤ 900000000 → ∀ (Q : Exit → S → Prop),
   (∀ a b c, Q (.exit 0) (mk [(2, .ptr 2 0), (3, .os 5 1 (krows .u8 (B ++ (T.drop k).flatMap txt))), (6, a), (7, b), (8, c), (9, .pv (.bool false))] [(2, z)])) →
   LoopW Try.prog [2, 3, 6, 7, 8] [2] irShaAll_L1 (mk [(2, .ptr 2 0), (3, .os 5 1 (krows .u8 B)), (6, .pv (.sl 1 (trows T))), (7, .pv (.int .i64 (T.length : Nat))), (8, .pv (.int .i64 (k : Nat)))] [(2, z)]) Q := by
  intro n
  induction n with
  | zero =>
    intro k B hk hB Q hQ
    obtain rfl : k = T.length := by omega
    simp only [List.drop_length, List.flatMap_nil, List.append_nil] at hQ
    refine LoopW.go irShaAll_L1.eq_1 (by simp) ?_
    simp
    exact hQ _ _ _
  | succ n ih =>
    intro k B hk hB Q hQ
    obtain ⟨t, ht⟩ : ∃ t, T[k]? = some t := ⟨_, List.getElem?_eq_getElem (by omega)⟩
    have htl := hT t (List.mem_of_getElem? ht)
    have htx := txt_len t (by omega)
    have hd : T.drop k = t :: T.drop (k + 1) := by
      rw [List.drop_eq_getElem_cons (by omega)]
      congr 1
      rw [List.getElem?_eq_getElem (by omega)] at ht
      exact Option.some.inj ht
    have hc := putText_c B t (by omega) (by omega)
    have hn := ih (k + 1) (B ++ txt t) (by omega) (by rw [List.length_append]; omega) Q (fun a b c => by
      have := hQ a b c
      rwa [hd, List.flatMap_cons, ← List.append_assoc] at this)
    have i1 : (k : Int) < (T.length : Int) := by omega
    have i2 : k < T.length := by omega
    have w : IntKind.i64.wrap ((k : Int) + 1) = (k + 1 : Nat) := by rw [wrap_i64] <;> omega
    refine LoopW.go irShaAll_L1.eq_1 (by simp) ?_
    simp [-getElem?_pos, i1, i2, w, trows_get, ht]
    refine CallG.go hc ?_
    simp [-getElem?_pos, w]
    exact hn
theorem all_c (T : List (List Nat)) (hT : ∀ t ∈ T, t.length ≤ 1000) (hb : ∀ t ∈ T, ∀ x ∈ t, x < 256) (hl : T.length ≤ 1000) : ACall Try.prog 13 [.pv (.sl 1 (trows T))] [] (.pagg (kns .u8 (shaF (T.flatMap txt)))) [] [] := by
  refine ACall.fn (fn := Try.f13) rfl okShaAll rfl (by simp) ?_
  simp only [argT, irShaAll.eq_1]
  have h1 := all_len T hT
  have hs := sum_c (T.flatMap txt) (by omega) (fun x hx => by obtain ⟨t, ht, hx⟩ := List.mem_flatMap.1 hx; exact txt_lt t (hb t ht) x hx)
  have hsl := shaF_len (T.flatMap txt)
  generalize shaF (T.flatMap txt) = y at *
  simp [-List.reduceReplicate, trows_length]
  refine al T hl hT _ T.length 0 [] (by omega) (by simp; omega) _ fun a b c => ?_
  simp [-List.reduceReplicate]
  refine CallG.go hs ?_
  simp [-List.reduceReplicate, kns_length, hsl]
theorem ral (T : List (List Nat)) (hTl : T.length ≤ 1000) (hT : ∀ t ∈ T, t.length ≤ 1000) (z : AV) : ∀ (n k : Nat) (B : List Nat), k + n = T.length → B.length + 1010 * n ≤ 900000000 → ∀ (Q : Exit → S → Prop),
   (∀ a c d e f, Q (.exit 0) (mk [(0, a), (2, .ptr 2 0), (3, .os 5 1 (krows .u8 (B ++ (T.drop k).flatMap txt))), (4, c), (5, d), (6, e), (7, f), (8, .pv (.bool false))] [(2, z)])) →
   LoopW Try.prog [0, 2, 3, 4] [2] irRef02All_L1 (mk [(0, .pv (.sl 1 (trows T))), (2, .ptr 2 0), (3, .os 5 1 (krows .u8 B)), (4, .pv (.int .i64 (k : Nat)))] [(2, z)]) Q := by
  intro n
  induction n with
  | zero =>
    intro k B hk hB Q hQ
    obtain rfl : k = T.length := by omega
    simp only [List.drop_length, List.flatMap_nil, List.append_nil] at hQ
    refine LoopW.go irRef02All_L1.eq_1 (by simp) ?_
    simp [trows_length]
    exact hQ _ _ _ _ _
  | succ n ih =>
    intro k B hk hB Q hQ
    obtain ⟨t, ht⟩ : ∃ t, T[k]? = some t := ⟨_, List.getElem?_eq_getElem (by omega)⟩
    have htl := hT t (List.mem_of_getElem? ht)
    have htx := txt_len t (by omega)
    have hd : T.drop k = t :: T.drop (k + 1) := by
      rw [List.drop_eq_getElem_cons (by omega)]
      congr 1
      rw [List.getElem?_eq_getElem (by omega)] at ht
      exact Option.some.inj ht
    have hc := refText_c t (by omega)
    have hn := ih (k + 1) (B ++ txt t) (by omega) (by rw [List.length_append]; omega) Q (fun a c d e f => by
      have := hQ a c d e f
      rwa [hd, List.flatMap_cons, ← List.append_assoc] at this)
    have i1 : (k : Int) < (T.length : Int) := by omega
    have i2 : k < T.length := by omega
    have w : IntKind.i64.wrap ((k : Int) + 1) = (k + 1 : Nat) := by rw [wrap_i64] <;> omega
    refine LoopW.go irRef02All_L1.eq_1 (by simp) ?_
    simp [-getElem?_pos, i1, i2, w, trows_get, trows_length, ht]
    refine CallG.go hc ?_
    simp [-getElem?_pos, w, krows_length, krows_app]
    exact ⟨by omega, hn⟩
theorem refAll_c (T : List (List Nat)) (hT : ∀ t ∈ T, t.length ≤ 1000) (hb : ∀ t ∈ T, ∀ x ∈ t, x < 256) (hl : T.length ≤ 1000) : ACall Try.prog 14 [.pv (.sl 1 (trows T))] [] (.pagg (kns .u8 (shaF (T.flatMap txt)))) [] [] := by
  refine ACall.fn (fn := Try.f14) rfl okRef02All rfl (by simp) ?_
  simp only [argT, irRef02All.eq_1]
  have h1 := all_len T hT
  have hs := refSum_c (T.flatMap txt) (by omega) (fun x hx => by obtain ⟨t, ht, hx⟩ := List.mem_flatMap.1 hx; exact txt_lt t (hb t ht) x hx)
  have hsl := shaF_len (T.flatMap txt)
  generalize shaF (T.flatMap txt) = y at *
  simp [-List.reduceReplicate]
  refine ral T hl hT _ T.length 0 [] (by omega) (by simp; omega) _ fun a c d e f => ?_
  simp [-List.reduceReplicate]
  refine CallG.go hs ?_
  simp [-List.reduceReplicate, kns_length, hsl]
def chF : Nat → List Nat → List Nat
  | 0, h => h
  | n + 1, h => chF n (shaF h)
theorem chF_add : ∀ (n m : Nat) (h : List Nat), chF (n + m) h = chF m (chF n h)
  | 0, m, h => by simp [chF]
  | n + 1, m, h => by rw [show n + 1 + m = (n + m) + 1 by omega]; exact chF_add n m _
theorem chF_len : ∀ (n : Nat) (h : List Nat), h.length = 32 → (chF n h).length = 32
  | 0, _, h => h
  | n + 1, _, _ => chF_len n _ (shaF_len _)
theorem chF_lt : ∀ (n : Nat) (h : List Nat), (∀ x ∈ h, x < 256) → ∀ x ∈ chF n h, x < 256
  | 0, _, h => h
  | n + 1, _, _ => chF_lt n _ (shaF_lt _)
theorem chl (z : AV) : ∀ (n k N : Nat) (h : List Nat), k + n = N → N ≤ 4096 → h.length = 32 → (∀ x ∈ h, x < 256) → ∀ (Q : Exit → S → Prop),
   (∀ a b, Q (.exit 0) (mk [(2, .ptr 2 0), (4, .ptr 4 0), (7, a), (8, b), (9, .pv (.bool false))] [(2, .pagg (kns .u8 (chF n h))), (4, z)])) →
   LoopW Try.prog [2, 4, 7, 8] [2, 4] irShaChain_L1 (mk [(2, .ptr 2 0), (4, .ptr 4 0), (7, .pv (.int .i64 (N : Nat))), (8, .pv (.int .i64 (k : Nat)))] [(2, .pagg (kns .u8 h)), (4, z)]) Q := by
  intro n
  induction n with
  | zero =>
    intro k N h hk hN hl hb Q hQ
    obtain rfl : k = N := by omega
    refine LoopW.go irShaChain_L1.eq_1 (by simp) ?_
    simp
    exact hQ _ _
  | succ n ih =>
    intro k N h hk hN hl hb Q hQ
    have hs := sum_c h (by omega) hb
    have hsl := shaF_len h
    have hn := ih (k + 1) N (shaF h) (by omega) hN hsl (shaF_lt h) Q hQ
    generalize shaF h = y at *
    have i1 : (k : Int) < (N : Int) := by omega
    have i2 : k < N := by omega
    have w : IntKind.i64.wrap ((k : Int) + 1) = (k + 1 : Nat) := by rw [wrap_i64] <;> omega
    have ea : List.take 32 h = h := List.take_of_length_le (by omega)
    refine LoopW.go irShaChain_L1.eq_1 (by simp) ?_
    simp [i1, i2, kns_length, hl, kns_take, kns_rows, ea]
    refine CallG.go hs ?_
    simp [w, kns_length, hl, hsl]
    exact ⟨kns_noSl _ _, hn⟩
theorem chain_c (h : List Nat) (n : Int) (hn : n ≤ 4096) (hl : h.length = 32) (hb : ∀ x ∈ h, x < 256) : ACall Try.prog 11 [.pagg (kns .u8 h), .pv (.int .i64 n)] [] (.pagg (kns .u8 (chF n.toNat h))) [] [] := by
  refine ACall.fn (fn := Try.f11) rfl okShaChain rfl (by simp) ?_
  simp only [argT, irShaChain.eq_1]
  have h1 : ¬ 4096 < n := by omega
  have hcl := chF_len n.toNat h hl
  rcases Int.lt_or_le 0 n with hp | hp
  · obtain ⟨m, rfl⟩ : ∃ m : Nat, n = m := ⟨n.toNat, by omega⟩
    rw [Int.toNat_natCast] at hcl ⊢
    have hp' : 0 < m := by omega
    have h1' : ¬ 4096 < m := by omega
    simp [-List.reduceReplicate, h1, hp, hp', h1']
    refine chl _ m 0 m h (by omega) (by omega) hl hb _ fun a b => ?_
    simp [-List.reduceReplicate, kns_length, hcl]
  · have hz : n.toNat = 0 := by omega
    have hp' : ¬ 0 < n := by omega
    rw [hz] at hcl ⊢
    simp [-List.reduceReplicate, h1, hp']
    refine chl _ 0 0 0 h (by omega) (by omega) hl hb _ fun a b => ?_
    simp [-List.reduceReplicate, kns_length, hcl]
theorem rchl (z : AV) (N : Int) : ∀ (n k : Nat) (h : List Nat), (N - k).toNat = n → N ≤ 4096 → k ≤ 4096 → h.length = 32 → (∀ x ∈ h, x < 256) → ∀ (Q : Exit → S → Prop),
   (∀ a b c d, Q (.exit 0) (mk [(1, a), (2, .ptr 2 0), (4, .ptr 4 0), (5, b), (8, c), (9, d), (10, .pv (.bool false))] [(2, .pagg (kns .u8 (chF n h))), (4, z)])) →
   LoopW Try.prog [1, 2, 4, 5] [2, 4] irRef02Chain_L1 (mk [(1, .pv (.int .i64 N)), (2, .ptr 2 0), (4, .ptr 4 0), (5, .pv (.int .i64 (k : Nat)))] [(2, .pagg (kns .u8 h)), (4, z)]) Q := by
  intro n
  induction n with
  | zero =>
    intro k h hk hN hk2 hl hb Q hQ
    have i1 : ¬ (k : Int) < N := by omega
    refine LoopW.go irRef02Chain_L1.eq_1 (by simp) ?_
    simp [i1]
    exact hQ _ _ _ _
  | succ n ih =>
    intro k h hk hN hk2 hl hb Q hQ
    have hs := refSum_c h (by omega) hb
    have hsl := shaF_len h
    have hn := ih (k + 1) (shaF h) (by omega) hN (by omega) hsl (shaF_lt h) Q hQ
    generalize shaF h = y at *
    have i1 : (k : Int) < N := by omega
    have w : IntKind.i64.wrap ((k : Int) + 1) = (k + 1 : Nat) := by rw [wrap_i64] <;> omega
    refine LoopW.go irRef02Chain_L1.eq_1 (by simp) ?_
    simp [i1, kns_length, hl]
    refine CallG.go (bytes_c h hl) ?_
    simp
    refine CallG.go hs ?_
    simp [w, kns_length, hl, hsl]
    exact hn
theorem refChain_c (h : List Nat) (n : Int) (hn : n ≤ 4096) (hl : h.length = 32) (hb : ∀ x ∈ h, x < 256) : ACall Try.prog 12 [.pagg (kns .u8 h), .pv (.int .i64 n)] [] (.pagg (kns .u8 (chF n.toNat h))) [] [] := by
  refine ACall.fn (fn := Try.f12) rfl okRef02Chain rfl (by simp) ?_
  simp only [argT, irRef02Chain.eq_1]
  have h1 : ¬ 4096 < n := by omega
  have hcl := chF_len n.toNat h hl
  simp [-List.reduceReplicate, h1]
  refine rchl _ n n.toNat 0 h (by omega) hn (by omega) hl hb _ fun a b c d => ?_
  simp [-List.reduceReplicate, kns_length, hcl]
end Go.Proofs.Ytgnajpfackfcaaa
