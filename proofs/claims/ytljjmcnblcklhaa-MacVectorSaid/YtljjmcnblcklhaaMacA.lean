/- mac.filled's, mac.block.with's, mac.Tag's contracts. -/
import Derived.Test.YtljjmcnblcklhaaPlainMac
import Derived.Test.YtljjmcnblcklhaaShaQ
import Derived.Test.YtljjmcnblcklhaaIrMac
set_option linter.unusedVariables false
set_option linter.unusedSimpArgs false
namespace Go.Proofs.Ytljjmcnblcklhaa
open Go.Abs Go.RowKit Go.Ours

theorem fill64 (l : List Nat) (h : l.length ≤ 64) : kns .u8 l ++ List.replicate (64 - l.length) (PV.int .u8 0) = kns .u8 (l ++ List.replicate (64 - l.length) 0) := by
  rw [kns_rep, kns_app]
theorem filled_c (key : List Nat) (hl : key.length ≤ 1000000) (hb : ∀ x ∈ key, x < 256) : ACall Try.prog 20 [.pv (.sl 1 (krows .u8 key))] [] (.pagg (kns .u8 (kblk key))) [] [] := by
  refine ACall.fn (fn := Try.f20) rfl okMacFilled rfl (by simp) ?_
  simp only [argT, irMacFilled.eq_1]
  have hkl := kblk_len key
  by_cases h : 64 < key.length
  · have h' : (64 : Int) < (key.length : Int) := by omega
    have hk : kblk key = shaF key ++ List.replicate (64 - (shaF key).length) 0 := by unfold kblk kcut; rw [if_pos h]
    have hs := sum_c key (by omega) hb
    have hl2 := shaF_len key
    have hf := fill64 (shaF key) (by omega)
    rw [← hk] at hf
    generalize shaF key = y at *
    generalize kblk key = z at *
    have ey : List.take 32 y = y := List.take_of_length_le (by omega)
    rw [hl2, show 64 - 32 = 32 from rfl] at hf
    have ey2 : List.take 64 y = y := List.take_of_length_le (by omega)
    simp [-List.reduceReplicate, krows_length, h, h']
    refine CallG.go hs ?_
    simp [-List.reduceReplicate, kns_length, kns_take, kns_rows, krows_flat, krows_length, krows_take, hl2, ey, ey2, hf, hkl]
  · have h' : ¬ (64 : Int) < (key.length : Int) := by omega
    have hk : kblk key = key ++ List.replicate (64 - key.length) 0 := by unfold kblk kcut; rw [if_neg h]
    have hf := fill64 key (by omega)
    rw [← hk] at hf
    generalize kblk key = z at *
    have ey : List.take 64 key = key := List.take_of_length_le (by omega)
    have hmin : min key.length 64 = key.length := by omega
    have hsum : key.length + (64 - key.length) = 64 := by omega
    simp [-List.reduceReplicate, hmin, hsum, h, h', kns_length, kns_take, kns_rows, krows_flat, krows_length, krows_take, ey, hf, hkl]
theorem bwl (c : Nat) (hc : c < 256) (b : List Nat) (hl : b.length = 64) (hb : ∀ x ∈ b, x < 256) (p : AV) : ∀ (n k : Nat), k + n = 64 → ∀ (Q : Exit → S → Prop),
   (∀ a, Q (.exit 0) (mk [(1, a), (2, p), (3, .ptr 3 0), (8, .pv (.int .i64 64)), (9, .pv (.bool false))] [(3, .pagg (kns .u8 (xr c b)))])) →
   LoopW Try.prog [1, 2, 3, 8] [3] irMacBlockWith_L1 (mk [(1, .pv (.int .u8 (c : Nat))), (2, p), (3, .ptr 3 0), (8, .pv (.int .i64 (k : Nat)))] [(3, .pagg (kns .u8 ((xr c b).take k ++ b.drop k)))]) Q := by
  intro n
  induction n with
  | zero =>
    intro k hk Q hQ
    obtain rfl : k = 64 := by omega
    rw [List.take_of_length_le (by rw [xr_len]; omega), List.drop_of_length_le (by omega), List.append_nil]
    refine LoopW.go irMacBlockWith_L1.eq_1 (by simp) ?_
    simp
    exact hQ _
  | succ n ih =>
    intro k hk Q hQ
    have hn := ih (k + 1) (by omega) Q hQ
    obtain ⟨x, hx⟩ : ∃ x, b[k]? = some x := ⟨_, List.getElem?_eq_getElem (by omega)⟩
    have hxb := hb x (List.mem_of_getElem? hx)
    have hxr : (xr c b)[k]? = some (x ^^^ c) := by simp [xr, hx]
    have htl : ((xr c b).take k).length = k := by rw [List.length_take, xr_len]; omega
    have hd : b.drop k = x :: b.drop (k + 1) := by
      rw [List.drop_eq_getElem_cons (by omega)]
      congr 1
      rw [List.getElem?_eq_getElem (by omega)] at hx
      exact Option.some.inj hx
    have hset : ((xr c b).take k ++ b.drop k).set k (x ^^^ c) = (xr c b).take (k + 1) ++ b.drop (k + 1) := by
      rw [List.set_append_right _ _ (by omega), htl, Nat.sub_self, hd, List.set_cons_zero, List.take_add_one, hxr]
      simp
    have hget : ((xr c b).take k ++ b.drop k)[k]? = some x := by
      rw [List.getElem?_append_right (by omega), htl, Nat.sub_self, hd]
      rfl
    have hlen : ((xr c b).take k ++ b.drop k).length = 64 := by rw [List.length_append, htl, List.length_drop]; omega
    rw [← hset] at hn
    have e1 := xor8 x c hxb hc
    generalize (xr c b).take k ++ b.drop k = D at *
    generalize x ^^^ c = v at *
    have i1 : (k : Int) < 64 := by omega
    have i2 : k < 64 := by omega
    have w : IntKind.i64.wrap ((k : Int) + 1) = (k + 1 : Nat) := by rw [wrap_i64] <;> omega
    refine LoopW.go irMacBlockWith_L1.eq_1 (by simp) ?_
    simp [-getElem?_pos, i1, i2, w, kns_get, hget, e1, kns_set, kns_length, hlen]
    exact hn
theorem with_c (c : Nat) (hc : c < 256) (b t : List Nat) (hl : b.length = 64) (ht : t.length ≤ 1000000) (hb : ∀ x ∈ b, x < 256) : ACall Try.prog 21 [.pagg (kns .u8 b), .pv (.int .u8 (c : Nat)), .pv (.sl 1 (krows .u8 t))] [] (.os 5 1 (krows .u8 (xr c b ++ t))) [] [] := by
  refine ACall.fn (fn := Try.f21) rfl okMacBlockWith rfl (by simp) ?_
  simp only [argT, irMacBlockWith.eq_1]
  have hxl := xr_len c b
  have ey : List.take 64 (xr c b) = xr c b := List.take_of_length_le (by omega)
  simp
  refine bwl c hc b hl hb _ 64 0 rfl _ fun a => ?_
  generalize xr c b = z at *
  simp [kns_length, kns_take, kns_rows, krows_length, krows_app, hxl, hl, ey]
  omega
theorem tag_c (key t : List Nat) (hk : key.length ≤ 1000000) (ht : t.length ≤ 1000000) (hb : ∀ x ∈ key, x < 256) (htb : ∀ x ∈ t, x < 256) : ACall Try.prog 13 [.pv (.sl 1 (krows .u8 key)), .pv (.sl 1 (krows .u8 t))] [] (.pagg (kns .u8 (tagF key t))) [] [] := by
  refine ACall.fn (fn := Try.f13) rfl okMacTag rfl (by simp) ?_
  simp only [argT, irMacTag.eq_1]
  have hkl := kblk_len key
  have hkb := kblk_lt key hb
  have c1 := filled_c key hk hb
  have c2 := with_c 54 (by decide) (kblk key) t hkl ht hkb
  have c3 := sum_c (xr 54 (kblk key) ++ t) (by rw [List.length_append, xr_len]; omega) (fun x hx => by rcases List.mem_append.1 hx with h | h; exact xr_lt 54 (by decide) _ hkb x h; exact htb x h)
  have hl3 := shaF_len (xr 54 (kblk key) ++ t)
  have hb3 := shaF_lt (xr 54 (kblk key) ++ t)
  have htg : tagF key t = shaF (xr 92 (kblk key) ++ shaF (xr 54 (kblk key) ++ t)) := rfl
  generalize shaF (xr 54 (kblk key) ++ t) = y at *
  have c4 := with_c 92 (by decide) (kblk key) y hkl (by omega) hkb
  have c5 := sum_c (xr 92 (kblk key) ++ y) (by rw [List.length_append, xr_len]; omega) (fun x hx => by rcases List.mem_append.1 hx with h | h; exact xr_lt 92 (by decide) _ hkb x h; exact hb3 x h)
  have hl5 := shaF_len (xr 92 (kblk key) ++ y)
  rw [← htg] at c5 hl5
  have ey : List.take 32 y = y := List.take_of_length_le (by omega)
  simp [-List.reduceReplicate]
  refine CallG.go c1 ?_
  simp [-List.reduceReplicate, kns_length, hkl]
  refine CallG.go c2 ?_
  simp [-List.reduceReplicate]
  refine CallG.go c3 ?_
  simp [-List.reduceReplicate, kns_length, hkl, hl3, kns_take, kns_rows, ey]
  refine CallG.go c4 ?_
  simp [-List.reduceReplicate]
  refine CallG.go c5 ?_
  simp [-List.reduceReplicate, kns_length, hl5]
end Go.Proofs.Ytljjmcnblcklhaa
