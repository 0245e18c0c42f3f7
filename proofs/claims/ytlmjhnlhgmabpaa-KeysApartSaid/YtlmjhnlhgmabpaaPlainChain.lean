/- Chains and keys used once, in plain words. -/
import Derived.Test.YtlmjhnlhgmabpaaShaN
import Derived.Test.YtlmjhnlhgmabpaaPlainOts
import Derived.Test.YtlmjhnlhgmabpaaArgTxt
set_option linter.unusedVariables false
set_option linter.unusedSimpArgs false
namespace Go.Proofs.Ytlmjhnlhgmabpaa
open Go.Abs Go.RowKit Go.Ours

def pieceF (t : List Nat) : List Nat := (shaF t).take 16
def stepF (p : List Nat) (j s : Nat) : List Nat := pieceF (p ++ [j, s])
def walkF : Nat → List Nat → Nat → Nat → List Nat
  | 0, p, _, _ => p
  | n + 1, p, j, s => walkF n (stepF p j s) j (s + 1)
def secF (seed : List Nat) (idx : Int) (j : Nat) : List Nat := pieceF (seed ++ fx 8 (uw idx) ++ [j])
def dgt (t : List Nat) (j : Nat) : Nat := (digs ((shaF t).take 16)).getD j 0
def pubB (seed : List Nat) (idx : Int) (n : Nat) : List Nat := (List.range n).flatMap fun j => walkF 15 (secF seed idx j) j 0
def sigB (seed : List Nat) (idx : Int) (t : List Nat) (n : Nat) : List Nat := (List.range n).flatMap fun j => walkF (dgt t j) (secF seed idx j) j 0
def recB (t sig : List Nat) (n : Nat) : List Nat := (List.range n).flatMap fun j => walkF (15 - dgt t j) ((sig.drop (16 * j)).take 16) j (dgt t j)
def pubF (seed : List Nat) (idx : Int) : List Nat := shaF (pubB seed idx 35)
def recF (t sig : List Nat) : List Nat := shaF (recB t sig 35)

theorem pieceF_len (t : List Nat) : (pieceF t).length = 16 := by simp [pieceF, shaF_len]
theorem pieceF_lt (t : List Nat) : ∀ x ∈ pieceF t, x < 256 := fun x hx => shaF_lt t x (List.mem_of_mem_take hx)
theorem walkF_len : ∀ (n : Nat) (p : List Nat) (j s : Nat), p.length = 16 → (walkF n p j s).length = 16
  | 0, _, _, _, h => h
  | n + 1, _, _, _, _ => walkF_len n _ _ _ (pieceF_len _)
theorem walkF_lt : ∀ (n : Nat) (p : List Nat) (j s : Nat), (∀ x ∈ p, x < 256) → ∀ x ∈ walkF n p j s, x < 256
  | 0, _, _, _, h => h
  | n + 1, _, _, _, _ => walkF_lt n _ _ _ (pieceF_lt _)
theorem walkF_add : ∀ (a b : Nat) (p : List Nat) (j s : Nat), walkF (a + b) p j s = walkF b (walkF a p j s) j (s + a)
  | 0, b, p, j, s => by simp [walkF]
  | a + 1, b, p, j, s => by
    rw [show a + 1 + b = (a + b) + 1 by omega, show s + (a + 1) = s + 1 + a by omega]
    exact walkF_add a b _ j (s + 1)
theorem blocks_len (f : Nat → List Nat) (hf : ∀ j, (f j).length = 16) : ∀ n, ((List.range n).flatMap f).length = 16 * n
  | 0 => rfl
  | n + 1 => by
    rw [List.range_succ, List.flatMap_append, List.length_append, blocks_len f hf n]
    simp [hf]
    omega
theorem blocks_lt (f : Nat → List Nat) (hf : ∀ j, ∀ x ∈ f j, x < 256) (n : Nat) : ∀ x ∈ (List.range n).flatMap f, x < 256 := by
  intro x hx
  obtain ⟨j, _, hx⟩ := List.mem_flatMap.1 hx
  exact hf j x hx
theorem blocks_at (f : Nat → List Nat) (hf : ∀ j, (f j).length = 16) : ∀ (n j : Nat), j < n → ((((List.range n).flatMap f).drop (16 * j)).take 16) = f j
  | n + 1, j, h => by
    rw [List.range_succ, List.flatMap_append]
    by_cases hj : j < n
    · rw [List.drop_append_of_le_length (by rw [blocks_len f hf]; omega), List.take_append_of_le_length (by rw [List.length_drop, blocks_len f hf]; omega)]
      exact blocks_at f hf n j hj
    · obtain rfl : j = n := by omega
      rw [List.drop_append, blocks_len f hf, Nat.sub_self, List.drop_of_length_le (by rw [blocks_len f hf]; omega)]
      simp only [List.flatMap_cons, List.flatMap_nil, List.append_nil, List.nil_append, List.drop_zero]
      rw [List.take_of_length_le (by rw [hf]; omega)]
theorem secF_len (seed : List Nat) (idx : Int) (j : Nat) : (secF seed idx j).length = 16 := pieceF_len _
theorem pub_len (seed : List Nat) (idx : Int) (n : Nat) : (pubB seed idx n).length = 16 * n := blocks_len _ (fun j => walkF_len _ _ _ _ (secF_len _ _ _)) n
theorem sig_len (seed : List Nat) (idx : Int) (t : List Nat) (n : Nat) : (sigB seed idx t n).length = 16 * n := blocks_len _ (fun j => walkF_len _ _ _ _ (secF_len _ _ _)) n
theorem nibs_lt : ∀ (l : List Nat), (∀ x ∈ l, x < 256) → ∀ y ∈ nibs l, y < 16
  | [], _, y, hy => by simp [nibs] at hy
  | a :: l, h, y, hy => by
    have ha := h a (by simp)
    have ih := nibs_lt l (fun x hx => h x (by simp [hx])) y
    simp only [nibs, List.mem_cons] at hy
    rcases hy with rfl | rfl | hy
    · omega
    · omega
    · exact ih hy
theorem digs_lt (l : List Nat) (h : ∀ x ∈ l, x < 256) : ∀ y ∈ digs l, y < 16 := by
  intro y hy
  rcases List.mem_append.1 hy with hy | hy
  · exact nibs_lt l h y hy
  · simp at hy
    omega
theorem dgt_lt (t : List Nat) (j : Nat) : dgt t j < 16 := by
  unfold dgt
  rw [List.getD_eq_getElem?_getD]
  cases hx : (digs ((shaF t).take 16))[j]? with
  | none => simp
  | some x => exact digs_lt _ (fun x hx => shaF_lt t x (List.mem_of_mem_take hx)) x (List.mem_of_getElem? hx)
theorem dgt_get (t : List Nat) (j : Nat) (hj : j < 35) : (digs ((shaF t).take 16))[j]? = some (dgt t j) := by
  have hl : (digs ((shaF t).take 16)).length = 35 := by rw [digs_length, List.length_take, shaF_len]; omega
  unfold dgt
  rw [List.getD_eq_getElem?_getD, List.getElem?_eq_getElem (by omega)]
  rfl
/-- The key comes back from the signature. -/
theorem rec_sig (seed : List Nat) (idx : Int) (t : List Nat) : recF t (sigB seed idx t 35) = pubF seed idx := by
  unfold recF pubF recB pubB
  congr 1
  rw [List.flatMap_def, List.flatMap_def]
  congr 1
  refine List.map_congr_left fun j hj => ?_
  have hj := List.mem_range.1 hj
  have hd := dgt_lt t j
  show walkF (15 - dgt t j) (((sigB seed idx t 35).drop (16 * j)).take 16) j (dgt t j) = _
  unfold sigB
  rw [blocks_at _ (fun j => walkF_len _ _ _ _ (secF_len _ _ _)) 35 j hj]
  have := walkF_add (dgt t j) (15 - dgt t j) (secF seed idx j) j 0
  rw [show dgt t j + (15 - dgt t j) = 15 by omega, Nat.zero_add] at this
  exact this.symm
end Go.Proofs.Ytlmjhnlhgmabpaa
