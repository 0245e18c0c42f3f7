/- Views, ops, values of keys in plain words. -/
import Derived.Test.YthpfadbdkkmagaaAbs2
set_option linter.unusedVariables false
set_option linter.unusedSimpArgs false
namespace Go.Proofs.Ythpfadbdkkmagaa
open Go.Abs Go.RowKit Go.Ours

/-- How many of the lowest bits are set. -/
def popF : Nat → Nat → Nat
  | 0, _ => 0
  | n + 1, m => m % 2 + popF n (m / 2)
def pop (m : Nat) : Nat := popF 16 m
/-- Which of the lowest bits are set, counted from a number. -/
def memF : Nat → Nat → Nat → List Nat
  | 0, _, _ => []
  | n + 1, i, m => (if m % 2 = 1 then [i] else []) ++ memF n (i + 1) (m / 2)
theorem memF_len : ∀ (n i m : Nat), (memF n i m).length = popF n m
  | 0, _, _ => rfl
  | n + 1, i, m => by
    rw [memF, popF, List.length_append, memF_len n]
    by_cases h : m % 2 = 1
    · simp [h]
    · rw [if_neg h]
      have : m % 2 = 0 := by omega
      simp [this]
theorem popF_le : ∀ (n m : Nat), popF n m ≤ n
  | 0, _ => Nat.le_refl _
  | n + 1, m => by
    have := popF_le n (m / 2)
    rw [popF]
    omega
theorem pop_le (m : Nat) : pop m ≤ 16 := popF_le 16 m
theorem popF_split : ∀ (a b m : Nat), popF (a + b) m = popF a (m % 2 ^ a) + popF b (m / 2 ^ a)
  | 0, b, m => by simp [popF]
  | a + 1, b, m => by
    rw [show a + 1 + b = (a + b) + 1 by omega, popF, popF, popF_split a b]
    have h1 : m % 2 ^ (a + 1) % 2 = m % 2 := by
      rw [Nat.pow_succ, Nat.mul_comm, Nat.mod_mul_right_mod]
    have h2 : m % 2 ^ (a + 1) / 2 = m / 2 % 2 ^ a := by
      rw [Nat.pow_succ, Nat.mul_comm, Nat.mod_mul_right_div_self]
    have h3 : m / 2 ^ (a + 1) = m / 2 / 2 ^ a := by
      rw [Nat.pow_succ, Nat.mul_comm, Nat.div_div_eq_div_mul]
    rw [h1, h2, h3]
    omega
theorem pop_split (m : Nat) : pop m = popF 8 (m / 256) + popF 8 (m % 256) := by
  have := popF_split 8 8 m
  simp only [Nat.reducePow, Nat.reduceAdd] at this
  unfold pop
  rw [this]
  omega
/-- Is a view right? -/
def rightV (num : Int) (mask : Nat) : Bool := decide (0 ≤ num ∧ num ≤ 60 ∧ 4 ≤ pop mask ∧ pop mask ≤ 7)
/-- The next view, an error's number. -/
def nextF (num : Int) (mask : Nat) (a : Int) : (Int × Nat) × Nat :=
  if rightV num mask = true ∧ 0 ≤ a ∧ a ≤ 65535 ∧ rightV (num + 1) a.toNat = true then ((num + 1, a.toNat), 0) else ((0, 0), 3)
def vwP (v : Int × Nat) : List PV := [.int .i64 v.1, .int .u16 v.2]
/-- Is an op right for a client? -/
def opOk (c kd ky a b : Int) : Bool :=
  if c = 0 then decide (kd = 6 ∧ ky = 0 ∧ b = 0 ∧ 0 ≤ a ∧ a ≤ 65535)
  else decide (0 ≤ ky ∧ ky ≤ 15 ∧ 1 ≤ kd ∧ kd ≤ 5 ∧ ((kd = 1 ∨ kd = 5) → a = 0) ∧ (kd = 4 ∨ b = 0))
def opP (kd ky a b : Int) : List PV := [.int .i64 kd, .int .i64 ky, .int .i64 a, .int .i64 b]
abbrev Cl := Bool × Int
def clP (x : Cl) : List PV := [.bool x.1, .int .i64 x.2]
def cellsP (l : List Cl) : List PV := l.flatMap clP
/-- What an op on a cell comes to. -/
def oneF (x : Cl) (kd a b : Int) : Cl × Cl :=
  if kd = 1 then (x, x)
  else if kd = 2 then ((true, a), (true, x.2))
  else if kd = 3 then ((true, IntKind.i64.wrap (x.2 + a)), (true, IntKind.i64.wrap (x.2 + a)))
  else if kd = 4 then (if x.1 = true ∧ x.2 = a then ((true, b), (true, b)) else (x, (false, x.2)))
  else ((false, 0), x)
def okKv (kd ky : Int) : Bool := decide (0 ≤ ky ∧ ky ≤ 15 ∧ 1 ≤ kd ∧ kd ≤ 5)
def doF (l : List Cl) (kd ky a b : Int) : List Cl × Cl :=
  if okKv kd ky = true then (l.set ky.toNat (oneF (l.getD ky.toNat (false, 0)) kd a b).1, (oneF (l.getD ky.toNat (false, 0)) kd a b).2) else (l, (false, 0))
/-- A cell without a value bears nothing. -/
def nrm (x : Cl) : Prop := x.1 = false → x.2 = 0
theorem oneF_nrm (x : Cl) (kd a b : Int) (h : nrm x) : nrm (oneF x kd a b).1 := by
  unfold oneF nrm at *
  split
  · exact h
  · split
    · simp
    · split
      · simp
      · split
        · split
          · simp
          · exact h
        · simp
theorem doF_nrm (l : List Cl) (kd ky a b : Int) (h : ∀ x ∈ l, nrm x) : ∀ x ∈ (doF l kd ky a b).1, nrm x := by
  unfold doF
  split
  · intro x hx
    rcases List.mem_or_eq_of_mem_set hx with hx | rfl
    · exact h x hx
    · apply oneF_nrm
      rw [List.getD_eq_getElem?_getD]
      cases hg : l[ky.toNat]? with
      | none => simp [nrm]
      | some y => exact h y (List.mem_of_getElem? hg)
  · exact h
theorem doF_len (l : List Cl) (kd ky a b : Int) : (doF l kd ky a b).1.length = l.length := by
  unfold doF
  split <;> simp
theorem cellsP_len (l : List Cl) : (cellsP l).length = 2 * l.length := by
  induction l with
  | nil => rfl
  | cons x l ih => simp only [cellsP, List.flatMap_cons, List.length_append, List.length_cons] at ih ⊢; rw [ih]; simp [clP]; omega
theorem cellsP_cons (x : Cl) (l : List Cl) : cellsP (x :: l) = clP x ++ cellsP l := rfl
theorem cellsP_drop : ∀ (l : List Cl) (k : Nat), (cellsP l).drop (k * 2) = cellsP (l.drop k)
  | _, 0 => by simp
  | [], k + 1 => by simp [cellsP]
  | x :: l, k + 1 => by
    rw [cellsP_cons, show (k + 1) * 2 = k * 2 + 2 by omega]
    simp only [clP, List.cons_append, List.nil_append, List.drop_succ_cons]
    exact cellsP_drop l k
theorem cellsP_take : ∀ (l : List Cl) (k : Nat), (cellsP l).take (k * 2) = cellsP (l.take k)
  | _, 0 => by simp [cellsP]
  | [], k + 1 => by simp [cellsP]
  | x :: l, k + 1 => by
    rw [cellsP_cons, show (k + 1) * 2 = k * 2 + 2 by omega]
    simp only [clP, List.cons_append, List.nil_append, List.take_succ_cons]
    rw [cellsP_take l k]
    rfl
theorem cellsP_part {l : List Cl} {k : Nat} {x : Cl} (h : l[k]? = some x) : ((cellsP l).drop (k * 2)).take 2 = clP x := by
  rw [cellsP_drop, show 2 = 1 * 2 from rfl, cellsP_take, List.take_one, List.head?_drop, h]
  simp [cellsP]
theorem cellsP_get {l : List Cl} {k : Nat} {x : Cl} (h : l[k]? = some x) : (cellsP l)[k * 2]? = some (.bool x.1) ∧ (cellsP l)[k * 2 + 1]? = some (.int .i64 x.2) := by
  have hp := cellsP_part h
  have h0 : ((cellsP l).drop (k * 2))[0]? = some (.bool x.1) := by
    have := congrArg (·[0]?) hp
    simpa [clP] using this
  have h1 : ((cellsP l).drop (k * 2))[1]? = some (.int .i64 x.2) := by
    have := congrArg (·[1]?) hp
    simpa [clP] using this
  rw [List.getElem?_drop] at h0 h1
  exact ⟨by simpa using h0, h1⟩
theorem cellsP_set {l : List Cl} {k : Nat} (hk : k < l.length) (x : Cl) : (cellsP l).take (k * 2) ++ (clP x ++ (cellsP l).drop (k * 2 + 2)) = cellsP (l.set k x) := by
  rw [show k * 2 + 2 = (k + 1) * 2 by omega, cellsP_drop, cellsP_take]
  rw [List.set_eq_take_append_cons_drop, if_pos hk]
  simp only [cellsP, List.flatMap_append, List.flatMap_cons]
end Go.Proofs.Ythpfadbdkkmagaa
