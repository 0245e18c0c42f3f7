/- Messages; wire.Size, the document's Long and Bytes: contracts. -/
import Derived.Test.YtekpgcohlpkmnaaNumsIrF
import Derived.Test.YtekpgcohlpkmnaaNumsIrT
import Derived.Test.YtekpgcohlpkmnaaNumsIrA
import Derived.Test.YtekpgcohlpkmnaaArgTxt
import Derived.Test.YtekpgcohlpkmnaaIrWire
set_option linter.unusedVariables false
set_option linter.unusedSimpArgs false
namespace Go.Proofs.Ytekpgcohlpkmnaa
open Go.Abs Go.RowKit Go.Ours

/-- A message. -/
structure Ms where
  kind : Int
  src : Int
  view : Int
  reg : Int
  slot : Int
  hash : List Nat
  body : List Nat
  parts : List (List Nat)
def msP (M : Ms) : List PV := .int .i64 M.kind :: .int .i64 M.src :: .int .i64 M.view :: .int .i64 M.reg :: .int .i64 M.slot :: (kns .u8 M.hash ++ [.sl 1 (krows .u8 M.body), .sl 1 (trows M.parts)])
structure Ms.Ok (M : Ms) : Prop where
  hash : M.hash.length = 32
  body : M.body.length ≤ 3000
  parts : M.parts.length ≤ 20
  part : ∀ p ∈ M.parts, p.length ≤ 3000
theorem msP_len (M : Ms) (h : M.hash.length = 32) : (msP M).length = 39 := by simp [msP, kns_length, h]
theorem msP_0 (M : Ms) : (msP M)[0]? = some (.int .i64 M.kind) := rfl
theorem msP_1 (M : Ms) : (msP M)[1]? = some (.int .i64 M.src) := rfl
theorem msP_2 (M : Ms) : (msP M)[2]? = some (.int .i64 M.view) := rfl
theorem msP_3 (M : Ms) : (msP M)[3]? = some (.int .i64 M.reg) := rfl
theorem msP_4 (M : Ms) : (msP M)[4]? = some (.int .i64 M.slot) := rfl
theorem msP_h (M : Ms) (h : M.hash.length = 32) : ((msP M).drop 5).take 32 = kns .u8 M.hash := by
  show (kns .u8 M.hash ++ _).take 32 = _
  rw [List.take_append_of_le_length (by rw [kns_length, h]; omega), List.take_of_length_le (by rw [kns_length, h]; omega)]
theorem msP_37 (M : Ms) (h : M.hash.length = 32) : (msP M)[37]? = some (.sl 1 (krows .u8 M.body)) := by
  show (kns .u8 M.hash ++ _)[32]? = _
  rw [List.getElem?_append_right (by rw [kns_length, h]; omega), kns_length, h]
  rfl
theorem msP_38 (M : Ms) (h : M.hash.length = 32) : (msP M)[38]? = some (.sl 1 (trows M.parts)) := by
  show (kns .u8 M.hash ++ _)[33]? = _
  rw [List.getElem?_append_right (by rw [kns_length, h]; omega), kns_length, h]
  rfl
theorem wpacked_c (n : Nat) (hn : n ≤ 10000000000) : ACall Try.prog 17 [.pv (.int .i64 (n : Nat))] [] (.pv (.int .i64 ((packed n).length : Nat))) [] [] := by
  refine ACall.fn (fn := Try.f17) rfl okWirePacked rfl (by simp) ?_
  simp only [argT, irWirePacked.eq_1]
  have c := putPacked_c [] n (by simp) (by omega)
  rw [List.nil_append] at c
  have w1 : IntKind.u64.wrap (n : Int) = (n : Int) := by simp [IntKind.wrap, IntKind.bits, IntKind.signed]; omega
  simp [w1]
  refine CallG.go c ?_
  simp [krows_length]
theorem wtext_c (t : List Nat) (hl : t.length ≤ 3000) : ACall Try.prog 16 [.pv (.sl 1 (krows .u8 t))] [] (.pv (.int .i64 ((txt t).length : Nat))) [] [] := by
  refine ACall.fn (fn := Try.f16) rfl okWireText rfl (by simp) ?_
  simp only [argT, irWireText.eq_1]
  have c := wpacked_c t.length (by omega)
  have hp := packed_len64 t.length (by omega)
  have e : (txt t).length = (packed t.length).length + t.length := by simp [txt]
  have w1 : IntKind.i64.wrap (((packed t.length).length : Int) + (t.length : Int)) = ((txt t).length : Nat) := by rw [wrap_i64] <;> omega
  generalize (txt t).length = x at *
  generalize (packed t.length).length = y at *
  simp [krows_length]
  refine CallG.go c ?_
  simp [krows_length, w1]
/-- The texts of parts. -/
def txts : List (List Nat) → List Nat
  | [] => []
  | t :: T => txt t ++ txts T
theorem txt_len (t : List Nat) (h : t.length ≤ 3000) : (txt t).length ≤ 3010 := by
  have := packed_len64 t.length (by omega)
  rw [txt, List.length_append]
  omega
theorem txts_len : ∀ (T : List (List Nat)), (∀ p ∈ T, p.length ≤ 3000) → (txts T).length ≤ 3010 * T.length
  | [], _ => by simp [txts]
  | t :: T, h => by
    have ih := txts_len T fun p hp => h p (List.mem_cons_of_mem _ hp)
    have := txt_len t (h t List.mem_cons_self)
    rw [txts, List.length_append, List.length_cons]
    omega
theorem szl (P : List (List Nat)) (hP : P.length ≤ 20) (hp : ∀ p ∈ P, p.length ≤ 3000) : ∀ (T : List (List Nat)) (k n : Nat), P.drop k = T → k ≤ P.length → n ≤ 100000 + 3010 * k → ∀ (Q : Exit → S → Prop),
   (∀ a b c, Q (.exit 0) (mk [(3, .pv (.int .i64 (n + (txts T).length : Nat))), (16, a), (17, b), (18, c), (19, .pv (.bool false))] [])) →
   LoopW Try.prog [3, 16, 17, 18] [] irWireSize_L1 (mk [(3, .pv (.int .i64 (n : Nat))), (16, .pv (.sl 1 (trows P))), (17, .pv (.int .i64 (P.length : Nat))), (18, .pv (.int .i64 (k : Nat)))] []) Q := by
  intro T
  induction T with
  | nil =>
    intro k n hd hk hn Q hQ
    have hk2 : k = P.length := by
      have := congrArg List.length hd
      simp at this
      omega
    subst hk2
    refine LoopW.go irWireSize_L1.eq_1 (by simp) ?_
    simp
    exact hQ _ _ _
  | cons t T ih =>
    intro k n hd hk hn Q hQ
    have hlt : k < P.length := by
      have := congrArg List.length hd
      simp at this
      omega
    have hx : P[k]? = some t := by
      have := congrArg (·[0]?) hd
      simpa using this
    have hd' : P.drop (k + 1) = T := by
      have := congrArg (List.drop 1) hd
      simpa [List.drop_drop, Nat.add_comm] using this
    have ht := hp t (List.mem_of_getElem? hx)
    have i1 : (k : Int) < (P.length : Int) := by omega
    have hl := txt_len t ht
    have wk : IntKind.i64.wrap ((k : Int) + 1) = (k + 1 : Nat) := by rw [wrap_i64] <;> omega
    have wn : IntKind.i64.wrap ((n : Int) + ((txt t).length : Int)) = (n + (txt t).length : Nat) := by rw [wrap_i64] <;> omega
    have hn' := ih (k + 1) (n + (txt t).length) hd' (by omega) (by omega) Q (by simpa [txts, Nat.add_assoc] using hQ)
    have c := wtext_c t ht
    clear hQ
    generalize n + (txt t).length = n' at *
    generalize (txt t).length = x at *
    refine LoopW.go irWireSize_L1.eq_1 (by simp) ?_
    simp [-getElem?_pos, i1, hlt, trows_length, trows_get, hx]
    refine CallG.go c ?_
    simp [wk, wn]
    exact hn'
def sizeF (M : Ms) : Nat := 40 + (txt M.body).length + (packed M.parts.length).length + (txts M.parts).length
theorem size_c (M : Ms) (h : M.Ok) : ACall Try.prog 8 [.pagg (msP M)] [] (.pv (.int .i64 (sizeF M : Nat))) [] [] := by
  refine ACall.fn (fn := Try.f8) rfl okWireSize rfl (by simp) ?_
  simp only [argT, irWireSize.eq_1]
  have hl := msP_len M h.hash
  have h37 := msP_37 M h.hash
  have h38 := msP_38 M h.hash
  have hb := h.body
  have hpp := h.parts
  have hb2 := txt_len M.body hb
  have hq := packed_len64 M.parts.length (by omega)
  have c1 := wtext_c M.body hb
  have c2 := wpacked_c M.parts.length (by omega)
  have hlp := szl M.parts hpp h.part M.parts 0 (40 + (txt M.body).length + (packed M.parts.length).length) rfl (Nat.zero_le _) (by omega)
  have w1 : IntKind.i64.wrap (40 + ((txt M.body).length : Int)) = (40 + (txt M.body).length : Nat) := by rw [wrap_i64] <;> omega
  have w2 : IntKind.i64.wrap (((40 + (txt M.body).length : Nat) : Int) + ((packed M.parts.length).length : Int)) = (40 + (txt M.body).length + (packed M.parts.length).length : Nat) := by rw [wrap_i64] <;> omega
  unfold sizeF
  generalize 40 + (txt M.body).length + (packed M.parts.length).length = z at *
  generalize 40 + (txt M.body).length = y at *
  generalize (txt M.body).length = x at *
  generalize (packed M.parts.length).length = u at *
  generalize msP M = q at *
  simp [-getElem?_pos, hl, h37, h38]
  refine CallG.go c1 ?_
  simp [-getElem?_pos, w1, hl, h37, h38, trows_length]
  refine CallG.go c2 ?_
  simp [-getElem?_pos, w2, hl, h37, h38, trows_length]
  refine hlp _ fun a b c => ?_
  simp
end Go.Proofs.Ytekpgcohlpkmnaa
