/- Key trees in plain words. -/
import Derived.Test.YtlmjhnlhgmabpaaPlainChain
set_option linter.unusedVariables false
set_option linter.unusedSimpArgs false
namespace Go.Proofs.Ytlmjhnlhgmabpaa
open Go.Abs Go.RowKit Go.Ours

/-- The level above. -/
def upF : List (List Nat) → List (List Nat)
  | a :: b :: l => shaF (a ++ b) :: upF l
  | _ => []
def leavesF (seed : List Nat) (n : Nat) : List (List Nat) := (List.range n).map fun k : Nat => pubF seed (k : Int)
def lv0 (seed : List Nat) : List (List Nat) := leavesF seed 8
def lv1 (seed : List Nat) : List (List Nat) := upF (lv0 seed)
def lv2 (seed : List Nat) : List (List Nat) := upF (lv1 seed)
def lv3 (seed : List Nat) : List (List Nat) := upF (lv2 seed)
def rootF (seed : List Nat) : List Nat := (lv3 seed).headD []
def treeF (seed : List Nat) : List (List Nat) := lv0 seed ++ lv1 seed ++ lv2 seed ++ lv3 seed
def lvF (seed : List Nat) : Nat → List (List Nat)
  | 0 => lv0 seed
  | n + 1 => upF (lvF seed n)
/-- What stands beside the way up, on a level. -/
def besF (seed : List Nat) (k i : Nat) : List Nat := (lvF seed i).getD ((k / 2 ^ i) ^^^ 1) []
/-- A signature's bytes. -/
def ksigF (seed : List Nat) (k : Nat) (t : List Nat) : List Nat := [k] ++ sigB seed (k : Int) t 35 ++ besF seed k 0 ++ besF seed k 1 ++ besF seed k 2
/-- One step up. -/
def climbF (sig : List Nat) (k i : Nat) (h : List Nat) : List Nat :=
  if k / 2 ^ i % 2 = 0 then shaF (h ++ (sig.drop (561 + 32 * i)).take 32) else shaF ((sig.drop (561 + 32 * i)).take 32 ++ h)
def ktopF (sig : List Nat) (k : Nat) (t : List Nat) : List Nat := climbF sig k 2 (climbF sig k 1 (climbF sig k 0 (recF t ((sig.drop 1).take 560))))
def Dig (l : List Nat) : Prop := l.length = 32 ∧ ∀ x ∈ l, x < 256
theorem dig_sha (t : List Nat) : Dig (shaF t) := ⟨shaF_len t, shaF_lt t⟩
theorem dig_pub (seed : List Nat) (i : Int) : Dig (pubF seed i) := dig_sha _
theorem dig_rec (t sig : List Nat) : Dig (recF t sig) := dig_sha _
theorem leaves_len (seed : List Nat) (n : Nat) : (leavesF seed n).length = n := by simp [leavesF]
theorem leaves_dig (seed : List Nat) (n : Nat) : ∀ l ∈ leavesF seed n, Dig l := by
  intro l hl
  obtain ⟨k, _, rfl⟩ := List.mem_map.1 hl
  exact dig_pub _ _
theorem up_dig : ∀ (l : List (List Nat)), ∀ x ∈ upF l, Dig x
  | [], x, h => by simp [upF] at h
  | [_], x, h => by simp [upF] at h
  | a :: b :: l, x, h => by
    simp only [upF, List.mem_cons] at h
    rcases h with rfl | h
    · exact dig_sha _
    · exact up_dig l x h
theorem up_len : ∀ (l : List (List Nat)), (upF l).length = l.length / 2
  | [] => by simp [upF]
  | [_] => by simp [upF]
  | a :: b :: l => by
    simp only [upF, List.length_cons, up_len l]
    omega
theorem up_at : ∀ (l : List (List Nat)) (i : Nat) (a b : List Nat), l[2 * i]? = some a → l[2 * i + 1]? = some b → (upF l)[i]? = some (shaF (a ++ b))
  | [], i, a, b, h, _ => by simp at h
  | [x], 0, a, b, _, h => by simp at h
  | [x], i + 1, a, b, h, _ => by simp [Nat.mul_add] at h
  | x :: y :: l, 0, a, b, h1, h2 => by
    simp at h1 h2
    subst h1 h2
    rfl
  | x :: y :: l, i + 1, a, b, h1, h2 => by
    rw [show 2 * (i + 1) = 2 * i + 1 + 1 by omega] at h1
    rw [show 2 * (i + 1) + 1 = 2 * i + 1 + 1 + 1 by omega] at h2
    simp only [List.getElem?_cons_succ] at h1 h2
    simp only [upF, List.getElem?_cons_succ]
    exact up_at l i a b h1 h2
theorem lv_len (seed : List Nat) : (lv0 seed).length = 8 ∧ (lv1 seed).length = 4 ∧ (lv2 seed).length = 2 ∧ (lv3 seed).length = 1 := by
  simp [lv3, lv2, lv1, lv0, up_len, leaves_len]
theorem root_dig (seed : List Nat) : Dig (rootF seed) := by
  have h := (lv_len seed).2.2.2
  have d := up_dig (lv2 seed)
  unfold rootF
  change ∀ x ∈ lv3 seed, Dig x at d
  match lv3 seed, h, d with
  | [x], _, d => exact d x (by simp)
theorem lv_dig (seed : List Nat) : ∀ n, ∀ x ∈ lvF seed n, Dig x
  | 0 => leaves_dig seed 8
  | n + 1 => up_dig _
theorem lvF_len (seed : List Nat) : ∀ n, (lvF seed n).length = 8 / 2 ^ n
  | 0 => (lv_len seed).1
  | n + 1 => by rw [lvF, up_len, lvF_len seed n, Nat.div_div_eq_div_mul, Nat.pow_succ]
theorem bes_dig (seed : List Nat) (k i : Nat) (h : (k / 2 ^ i) ^^^ 1 < 8 / 2 ^ i) : Dig (besF seed k i) := by
  have hl := lvF_len seed i
  have hd := lv_dig seed i
  unfold besF
  rw [List.getD_eq_getElem?_getD, List.getElem?_eq_getElem (by omega)]
  exact hd _ (List.getElem_mem _)
theorem bes_at (seed : List Nat) (k i : Nat) (h : (k / 2 ^ i) ^^^ 1 < 8 / 2 ^ i) : (lvF seed i)[(k / 2 ^ i) ^^^ 1]? = some (besF seed k i) := by
  have hl := lvF_len seed i
  unfold besF
  rw [List.getD_eq_getElem?_getD, List.getElem?_eq_getElem (by omega)]
  rfl
theorem beside_lt (k i : Nat) (hk : k < 8) (hi : i < 3) : (k / 2 ^ i) ^^^ 1 < 8 / 2 ^ i := by
  have h : ∀ (k : _root_.Fin 8) (i : _root_.Fin 3), (k.val / 2 ^ i.val) ^^^ 1 < 8 / 2 ^ i.val := by decide
  exact h ⟨k, hk⟩ ⟨i, hi⟩
theorem ksig_len (seed : List Nat) (k : Nat) (t : List Nat) (hk : k < 8) : (ksigF seed k t).length = 657 := by
  have h0 := (bes_dig seed k 0 (beside_lt k 0 hk (by decide))).1
  have h1 := (bes_dig seed k 1 (beside_lt k 1 hk (by decide))).1
  have h2 := (bes_dig seed k 2 (beside_lt k 2 hk (by decide))).1
  simp [ksigF, sig_len, h0, h1, h2]
theorem xor_one (n : Nat) (h : n < 8) : n ^^^ 1 = if n % 2 = 0 then n + 1 else n - 1 := by
  have h' : ∀ n : _root_.Fin 8, n.val ^^^ 1 = if n.val % 2 = 0 then n.val + 1 else n.val - 1 := by decide
  exact h' ⟨n, h⟩
theorem climb_step (seed sig : List Nat) (k i : Nat) (hk : k < 8) (hi : i < 3) (h : List Nat) (hh : (lvF seed i)[k / 2 ^ i]? = some h) (hs : (sig.drop (561 + 32 * i)).take 32 = besF seed k i) :
    (lvF seed (i + 1))[k / 2 ^ (i + 1)]? = some (climbF sig k i h) := by
  have hb := bes_at seed k i (beside_lt k i hk hi)
  rw [lvF, Nat.pow_succ, ← Nat.div_div_eq_div_mul]
  unfold climbF
  rw [hs]
  have hn : k / 2 ^ i < 8 := Nat.lt_of_le_of_lt (Nat.div_le_self _ _) hk
  generalize k / 2 ^ i = n at *
  rw [xor_one n hn] at hb
  by_cases e : n % 2 = 0
  · rw [if_pos e] at hb ⊢
    refine up_at _ (n / 2) h _ ?_ ?_
    · rw [show 2 * (n / 2) = n by omega]; exact hh
    · rw [show 2 * (n / 2) = n by omega]; exact hb
  · rw [if_neg e] at hb ⊢
    refine up_at _ (n / 2) _ h ?_ ?_
    · rw [show 2 * (n / 2) = n - 1 by omega]; exact hb
    · rw [show 2 * (n / 2) + 1 = n by omega]; exact hh
theorem ksig_cut (seed : List Nat) (k : Nat) (t : List Nat) (hk : k < 8) : ((ksigF seed k t).drop 1).take 560 = sigB seed k t 35 ∧ ((ksigF seed k t).drop 561).take 32 = besF seed k 0 ∧ ((ksigF seed k t).drop 593).take 32 = besF seed k 1 ∧ ((ksigF seed k t).drop 625).take 32 = besF seed k 2 := by
  have h0 := (bes_dig seed k 0 (beside_lt k 0 hk (by decide))).1
  have h1 := (bes_dig seed k 1 (beside_lt k 1 hk (by decide))).1
  have h2 := (bes_dig seed k 2 (beside_lt k 2 hk (by decide))).1
  have hs : (sigB seed (k : Int) t 35).length = 560 := sig_len seed k t 35
  have key : ∀ {a b c : List Nat} {n m : Nat}, a.length = n → b.length = m → ((a ++ b ++ c).drop n).take m = b := by
    intro a b c n m ha hb
    rw [List.append_assoc, List.drop_append_of_le_length (by omega), List.drop_of_length_le (by omega), List.nil_append, List.take_append_of_le_length (by omega), List.take_of_length_le (by omega)]
  unfold ksigF
  generalize sigB seed (k : Int) t 35 = s at *
  generalize besF seed k 0 = b0 at *
  generalize besF seed k 1 = b1 at *
  generalize besF seed k 2 = b2 at *
  refine ⟨?_, ?_, ?_, ?_⟩
  · have := key (a := [k]) (b := s) (c := b0 ++ b1 ++ b2) (n := 1) (m := 560) rfl hs
    simpa [List.append_assoc] using this
  · have := key (a := [k] ++ s) (b := b0) (c := b1 ++ b2) (n := 561) (m := 32) (by simp [hs]) h0
    simpa [List.append_assoc] using this
  · have := key (a := [k] ++ s ++ b0) (b := b1) (c := b2) (n := 593) (m := 32) (by simp [hs, h0]) h1
    simpa [List.append_assoc] using this
  · have := key (a := [k] ++ s ++ b0 ++ b1) (b := b2) (c := []) (n := 625) (m := 32) (by simp [hs, h0, h1]) h2
    simpa [List.append_assoc] using this
/-- The signature leads to the root. -/
theorem ktop_sig (seed : List Nat) (k : Nat) (t : List Nat) (hk : k < 8) : ktopF (ksigF seed k t) k t = rootF seed := by
  obtain ⟨c0, c1, c2, c3⟩ := ksig_cut seed k t hk
  have hl := lv_len seed
  have s0 : (lvF seed 0)[k / 2 ^ 0]? = some (pubF seed (k : Int)) := by
    simp [lvF, lv0, leavesF, hk]
  unfold ktopF
  rw [c0, rec_sig]
  have s1 := climb_step seed (ksigF seed k t) k 0 hk (by decide) _ s0 c1
  have s2 := climb_step seed (ksigF seed k t) k 1 hk (by decide) _ s1 c2
  have s3 := climb_step seed (ksigF seed k t) k 2 hk (by decide) _ s2 c3
  have h0 : k / 2 ^ (2 + 1) = 0 := by omega
  rw [h0] at s3
  unfold rootF
  change (lv3 seed)[0]? = _ at s3
  generalize climbF _ k 2 _ = z at *
  match lv3 seed, hl.2.2.2, s3 with
  | [x], _, s3 => simpa using s3.symm
end Go.Proofs.Ytlmjhnlhgmabpaa
