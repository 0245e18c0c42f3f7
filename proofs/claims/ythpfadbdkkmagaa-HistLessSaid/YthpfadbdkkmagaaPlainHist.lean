/- Histories in plain words: what orders explain events; a history is linear just if each key's own is. No condition. -/
import Derived.Test.YthpfadbdkkmagaaPlainExecs
set_option linter.unusedVariables false
set_option linter.unusedSimpArgs false
namespace Go.Proofs.Ythpfadbdkkmagaa
open Go.Abs Go.RowKit Go.Ours

def nz (x : Cl) : Cl := if x.1 = true then x else (false, 0)
def stays (x : Cl) (kd a b : Int) : Bool := decide (kd = 1) || (decide (kd = 4) && !(oneF (nz x) kd a b).2.1)
/-- What an op comes to, whatever the cells hold. -/
def doG (l : List Cl) (kd ky a b : Int) : List Cl × Cl :=
  if okKv kd ky = true then
    (if stays (l.getD ky.toNat (false, 0)) kd a b = true then l else l.set ky.toNat (oneF (nz (l.getD ky.toNat (false, 0))) kd a b).1, (oneF (nz (l.getD ky.toNat (false, 0))) kd a b).2)
  else (l, (false, 0))
theorem doG_len (l : List Cl) (kd ky a b : Int) : (doG l kd ky a b).1.length = l.length := by
  unfold doG
  split
  · split <;> simp
  · rfl

/-- An event. -/
structure Ev where
  kd : Int
  ky : Int
  a : Int
  b : Int
  bg : Int
  en : Int
  dn : Bool
  rs : Cl

def doE (c : List Cl) (e : Ev) : List Cl × Cl := doG c e.kd e.ky e.a e.b
theorem doE_len (c : List Cl) (e : Ev) : (doE c e).1.length = c.length := doG_len _ _ _ _ _
def aheadB (a b : Ev) : Bool := a.dn && decide (a.en < b.bg)
def rightE (e : Ev) : Bool := okKv e.kd e.ky && (!e.dn || decide (e.bg ≤ e.en))
def allD (l : List Ev) (t : Nat) : Prop := ∀ (i : Nat) e, l[i]? = some e → e.dn = true → t.testBit i = true
def mayP (l : List Ev) (t i : Nat) : Prop := t.testBit i = false ∧ ∀ (k : Nat) x e, l[k]? = some x → l[i]? = some e → k ≠ i → t.testBit k = false → aheadB x e = false
def okE (c : List Cl) (e : Ev) : Prop := e.dn = true → (doE c e).2 = e.rs

/-- The rest has an order, behind those that were taken, from some values. -/
inductive Lin (l : List Ev) : Nat → List Cl → Prop
  | done (t : Nat) (c : List Cl) : allD l t → Lin l t c
  | step (t : Nat) (c : List Cl) (i : Nat) (e : Ev) : l[i]? = some e → mayP l t i → okE c e → Lin l (t ||| 2 ^ i) (doE c e).1 → Lin l t c

/-- An order explains. -/
def ExplP (l : List Ev) : List Int → Nat → List Cl → Prop
  | [], t, _ => allD l t
  | i :: r, t, c => 0 ≤ i ∧ ∃ e, l[i.toNat]? = some e ∧ mayP l t i.toNat ∧ okE c e ∧ ExplP l r (t ||| 2 ^ i.toNat) (doE c e).1
theorem ExplP.lin {l : List Ev} : ∀ {o : List Int} {t : Nat} {c : List Cl}, ExplP l o t c → Lin l t c
  | [], _, _, h => .done _ _ h
  | _ :: _, _, _, ⟨_, e, h1, h2, h3, h4⟩ => .step _ _ _ e h1 h2 h3 h4.lin

theorem or_bit (t i j : Nat) : (t ||| 2 ^ i).testBit j = (t.testBit j || decide (i = j)) := by
  rw [Nat.testBit_or, Nat.testBit_two_pow]
theorem or_gt {t i : Nat} (h : t.testBit i = false) : t < t ||| 2 ^ i := by
  have h1 : t ≤ t ||| 2 ^ i := Nat.left_le_or
  rcases Nat.lt_or_ge t (t ||| 2 ^ i) with h2 | h2
  · exact h2
  · have e : t = t ||| 2 ^ i := Nat.le_antisymm h1 h2
    have := or_bit t i i
    rw [← e, h] at this
    simp at this

/-- How many are not taken yet. -/
def freeN (n t : Nat) : Nat := ((List.range n).filter fun i => !t.testBit i).length
theorem freeN_step {n t i : Nat} (hi : i < n) (h : t.testBit i = false) : freeN n (t ||| 2 ^ i) + 1 ≤ freeN n t := by
  have e : (List.range n).filter (fun j => !(t ||| 2 ^ i).testBit j) = ((List.range n).filter fun j => !t.testBit j).filter fun j => !decide (i = j) := by
    rw [List.filter_filter]
    apply List.filter_congr
    intro j _
    rw [or_bit]
    cases t.testBit j <;> simp
  unfold freeN
  rw [e]
  exact List.length_filter_lt_length_iff_exists.2 ⟨i, by simp [hi, h], by simp⟩
theorem ExplP.len {l : List Ev} : ∀ {o : List Int} {t : Nat} {c : List Cl}, ExplP l o t c → o.length ≤ freeN l.length t
  | [], _, _, _ => Nat.zero_le _
  | i :: r, t, c, ⟨_, e, h1, h2, _, h4⟩ => by
    have := freeN_step (List.getElem?_eq_some_iff.1 h1).1 h2.1
    have := h4.len
    simp only [List.length_cons]
    omega
theorem freeN_le (n t : Nat) : freeN n t ≤ n := by
  unfold freeN
  exact Nat.le_trans (List.length_filter_le _ _) (by simp)

/-- A history of which less is asked. -/
theorem Lin.weak {l m : List Ev} (hl : m.length = l.length) (h1 : ∀ (i : Nat) e f, l[i]? = some e → m[i]? = some f → f.kd = e.kd ∧ f.ky = e.ky ∧ f.a = e.a ∧ f.b = e.b ∧ (f.dn = true → e.dn = true ∧ f.rs = e.rs))
    (h2 : ∀ (i j : Nat) e f e' f', l[i]? = some e → m[i]? = some f → l[j]? = some e' → m[j]? = some f' → aheadB f f' = true → aheadB e e' = true) {t : Nat} {c : List Cl} (h : Lin l t c) : Lin m t c := by
  have back : ∀ {i : Nat} {f : Ev}, m[i]? = some f → ∃ e, l[i]? = some e := fun {i f} hf =>
    ⟨l[i]'(by rw [← hl]; exact (List.getElem?_eq_some_iff.1 hf).1), List.getElem?_eq_getElem _⟩
  induction h with
  | done t c h =>
    refine .done t c fun i f hf hd => ?_
    obtain ⟨e, he⟩ := back hf
    exact h i e he ((h1 i e f he hf).2.2.2.2 hd).1
  | step t c i e he hm ho _ ih =>
    have hi : i < m.length := by rw [hl]; exact (List.getElem?_eq_some_iff.1 he).1
    have hf := List.getElem?_eq_getElem hi
    obtain ⟨q1, q2, q3, q4, q5⟩ := h1 i e _ he hf
    have hd : doE c m[i] = doE c e := by unfold doE; rw [q1, q2, q3, q4]
    refine .step t c i m[i] hf ⟨hm.1, fun k x y hx hy hk ht => ?_⟩ (fun hdn => ?_) (by rw [hd]; exact ih)
    · obtain ⟨x', hx'⟩ := back hx
      rw [hf] at hy
      cases hy
      by_cases hh : aheadB x m[i] = true
      · have := h2 k i x' x e _ hx' hx he hf hh
        rw [hm.2 k x' e hx' he hk ht] at this
        cases this
      · simpa using hh
    · rw [hd, (q5 hdn).2]
      exact ho (q5 hdn).1

/-- The rest has an order: the rest as a list. -/
inductive LinL : List Ev → List Cl → Prop
  | done (l : List Ev) (c : List Cl) : (∀ e ∈ l, e.dn = false) → LinL l c
  | step (p : List Ev) (e : Ev) (s : List Ev) (c : List Cl) : (∀ x ∈ p ++ s, aheadB x e = false) → okE c e → LinL (p ++ s) (doE c e).1 → LinL (p ++ e :: s) c

def remL : List Ev → Nat → List Ev
  | [], _ => []
  | e :: l, t => if t.testBit 0 = true then remL l (t / 2) else e :: remL l (t / 2)
theorem half_bit (t i : Nat) : (t / 2).testBit i = t.testBit (i + 1) := (Nat.testBit_succ t i).symm
theorem half_or (t i : Nat) : (t ||| 2 ^ (i + 1)) / 2 = t / 2 ||| 2 ^ i := by
  apply Nat.eq_of_testBit_eq
  intro j
  rw [half_bit, or_bit, or_bit, half_bit]
  simp
theorem remL_zero (l : List Ev) : remL l 0 = l := by
  induction l with
  | nil => rfl
  | cons e l ih => simp [remL, ih]
theorem remL_mem (l : List Ev) : ∀ (t : Nat) x, x ∈ remL l t ↔ ∃ i, l[i]? = some x ∧ t.testBit i = false := by
  induction l with
  | nil => intro t x; simp [remL]
  | cons e l ih =>
    intro t x
    have hz : (∃ i, (e :: l)[i]? = some x ∧ t.testBit i = false) ↔ (e = x ∧ t.testBit 0 = false) ∨ ∃ i, l[i]? = some x ∧ (t / 2).testBit i = false := by
      constructor
      · rintro ⟨i, h1, h2⟩
        cases i with
        | zero => exact Or.inl ⟨by simpa using h1, h2⟩
        | succ i => exact Or.inr ⟨i, by simpa using h1, by rw [half_bit]; exact h2⟩
      · rintro (⟨h1, h2⟩ | ⟨i, h1, h2⟩)
        · exact ⟨0, by simpa using h1, h2⟩
        · exact ⟨i + 1, by simpa using h1, by rw [← half_bit]; exact h2⟩
    rw [hz, ← ih]
    rw [remL]
    cases ht : t.testBit 0 <;> simp [eq_comm (a := x)]
theorem remL_pick (l : List Ev) : ∀ (t i : Nat) e, l[i]? = some e → t.testBit i = false → ∃ p s, remL l t = p ++ e :: s ∧ remL l (t ||| 2 ^ i) = p ++ s ∧ ∀ x, x ∈ p ++ s → ∃ k, k ≠ i ∧ l[k]? = some x ∧ t.testBit k = false := by
  induction l with
  | nil => intro t i e h; simp at h
  | cons y l ih =>
    intro t i e h ht
    cases i with
    | zero =>
      simp at h
      subst h
      refine ⟨[], remL l (t / 2), ?_, ?_, fun x hx => ?_⟩
      · rw [remL, if_neg (by rw [ht]; simp)]; rfl
      · have h2 : (t ||| 2 ^ 0) / 2 = t / 2 := by
          apply Nat.eq_of_testBit_eq
          intro j
          rw [half_bit, half_bit, or_bit]
          simp
        rw [remL, if_pos (by rw [or_bit]; simp), h2]; rfl
      · obtain ⟨k, h1, h2⟩ := (remL_mem l (t / 2) x).1 (by simpa using hx)
        exact ⟨k + 1, by omega, by simpa using h1, by rw [← half_bit]; exact h2⟩
    | succ i =>
      obtain ⟨p, s, h1, h2, h3⟩ := ih (t / 2) i e (by simpa using h) (by rw [half_bit]; exact ht)
      have h0 : (t ||| 2 ^ (i + 1)).testBit 0 = t.testBit 0 := by rw [or_bit]; simp
      have h4 : remL (y :: l) (t ||| 2 ^ (i + 1)) = if t.testBit 0 = true then remL l (t / 2 ||| 2 ^ i) else y :: remL l (t / 2 ||| 2 ^ i) := by
        rw [remL, h0, half_or]
      cases hb : t.testBit 0
      · refine ⟨y :: p, s, ?_, ?_, fun x hx => ?_⟩
        · rw [remL, hb, h1]; rfl
        · rw [h4, hb, h2]; rfl
        · rcases List.mem_cons.1 (by simpa using hx : x ∈ y :: (p ++ s)) with rfl | hx
          · exact ⟨0, by omega, rfl, hb⟩
          · obtain ⟨k, q1, q2, q3⟩ := h3 x hx
            exact ⟨k + 1, by omega, by simpa using q2, by rw [← half_bit]; exact q3⟩
      · refine ⟨p, s, ?_, ?_, fun x hx => ?_⟩
        · rw [remL, hb, h1]; rfl
        · rw [h4, hb, h2]; rfl
        · obtain ⟨k, q1, q2, q3⟩ := h3 x hx
          exact ⟨k + 1, by omega, by simpa using q2, by rw [← half_bit]; exact q3⟩
/-- A decomposition of the rest tells a place. -/
theorem remL_back (l : List Ev) : ∀ (t : Nat) (p : List Ev) (e : Ev) (s : List Ev), remL l t = p ++ e :: s → ∃ i, l[i]? = some e ∧ t.testBit i = false ∧ remL l (t ||| 2 ^ i) = p ++ s ∧ ∀ (k : Nat) x, l[k]? = some x → k ≠ i → t.testBit k = false → x ∈ p ++ s := by
  induction l with
  | nil => intro t p e s h; simp [remL] at h
  | cons y l ih =>
    intro t p e s h
    cases hb : t.testBit 0
    · rw [remL, hb] at h
      simp only [Bool.false_eq_true, if_false] at h
      cases p with
      | nil =>
        simp at h
        obtain ⟨rfl, rfl⟩ := h
        refine ⟨0, rfl, hb, ?_, fun k x hx hk ht => ?_⟩
        · have h2 : (t ||| 2 ^ 0) / 2 = t / 2 := by
            apply Nat.eq_of_testBit_eq
            intro j
            rw [half_bit, half_bit, or_bit]
            simp
          rw [remL, if_pos (by rw [or_bit]; simp), h2]; rfl
        · cases k with
          | zero => exact absurd rfl hk
          | succ k => exact (remL_mem l _ x).2 ⟨k, by simpa using hx, by rw [half_bit]; exact ht⟩
      | cons z p =>
        simp at h
        obtain ⟨rfl, h⟩ := h
        obtain ⟨i, h1, h2, h3, h4⟩ := ih _ p e s h
        refine ⟨i + 1, by simpa using h1, by rw [← half_bit]; exact h2, ?_, fun k x hx hk ht => ?_⟩
        · rw [remL, or_bit, hb, half_or, h3]; simp
        · cases k with
          | zero => simp at hx; subst hx; simp
          | succ k =>
            have := h4 k x (by simpa using hx) (by omega) (by rw [half_bit]; exact ht)
            exact List.mem_cons_of_mem _ this
    · rw [remL, hb] at h
      simp only [if_true] at h
      obtain ⟨i, h1, h2, h3, h4⟩ := ih _ p e s h
      refine ⟨i + 1, by simpa using h1, by rw [← half_bit]; exact h2, ?_, fun k x hx hk ht => ?_⟩
      · rw [remL, or_bit, hb, half_or, h3]; simp
      · cases k with
        | zero => rw [hb] at ht; cases ht
        | succ k => exact h4 k x (by simpa using hx) (by omega) (by rw [half_bit]; exact ht)
theorem Lin.toL {l : List Ev} {t : Nat} {c : List Cl} (h : Lin l t c) : LinL (remL l t) c := by
  induction h with
  | done t c h =>
    refine .done _ _ fun e he => ?_
    obtain ⟨i, h1, h2⟩ := (remL_mem l t e).1 he
    cases hd : e.dn
    · rfl
    · rw [h i e h1 hd] at h2; cases h2
  | step t c i e he hm ho _ ih =>
    obtain ⟨p, s, h1, h2, h3⟩ := remL_pick l t i e he hm.1
    rw [h1]
    rw [h2] at ih
    refine .step p e s c (fun x hx => ?_) ho ih
    obtain ⟨k, q1, q2, q3⟩ := h3 x hx
    exact hm.2 k x e q2 he q1 q3
theorem LinL.toLin {l : List Ev} {r : List Ev} {c : List Cl} (h : LinL r c) : ∀ t, r = remL l t → Lin l t c := by
  induction h with
  | done r c h =>
    intro t hr
    refine .done _ _ fun i e he hd => ?_
    cases hb : t.testBit i
    · have := h e (by rw [hr]; exact (remL_mem l t e).2 ⟨i, he, hb⟩)
      rw [this] at hd; cases hd
    · rfl
  | step p e s c ha ho _ ih =>
    intro t hr
    obtain ⟨i, h1, h2, h3, h4⟩ := remL_back l t p e s hr.symm
    refine .step t c i e h1 ⟨h2, fun k x y hx hy hk ht => ?_⟩ ho (ih _ h3.symm)
    rw [h1] at hy
    cases hy
    exact ha x (h4 k x hx hk ht)
theorem Lin_iff (l : List Ev) (c : List Cl) : Lin l 0 c ↔ LinL l c :=
  ⟨fun h => by have := h.toL; rwa [remL_zero] at this, fun h => h.toLin 0 (remL_zero l).symm⟩

/-- Only the cells of the keys that are asked for count. -/
theorem doE_agree {c d : List Cl} {e : Ev} (he : okKv e.kd e.ky = true) (hc : c.length = 16) (hd : d.length = 16) (h : c.getD e.ky.toNat (false, 0) = d.getD e.ky.toNat (false, 0)) :
    (doE c e).2 = (doE d e).2 ∧ ((doE c e).1.getD e.ky.toNat (false, 0) = (doE d e).1.getD e.ky.toNat (false, 0)) ∧ ∀ j, j ≠ e.ky.toNat → (doE c e).1.getD j (false, 0) = c.getD j (false, 0) := by
  have hk : e.ky.toNat < 16 := by simp [okKv] at he; omega
  refine ⟨?_, ?_, fun j hj => ?_⟩
  · unfold doE doG
    rw [if_pos he, if_pos he, h]
  · unfold doE doG
    rw [if_pos he, if_pos he, h]
    split
    · exact h
    · simp [List.getD_eq_getElem?_getD, List.getElem?_set, hc, hd, hk]
  · unfold doE doG
    rw [if_pos he]
    split
    · rfl
    · simp [List.getD_eq_getElem?_getD, List.getElem?_set, show ¬ e.ky.toNat = j from fun e => hj e.symm]
theorem okKv_nat {e f : Ev} (he : okKv e.kd e.ky = true) (hf : okKv f.kd f.ky = true) (h : e.ky.toNat = f.ky.toNat) : e.ky = f.ky := by
  simp [okKv] at he hf
  omega
theorem LinL.agree {r : List Ev} {c : List Cl} (h : LinL r c) : ∀ d : List Cl, c.length = 16 → d.length = 16 → (∀ e ∈ r, okKv e.kd e.ky = true) → (∀ e ∈ r, c.getD e.ky.toNat (false, 0) = d.getD e.ky.toNat (false, 0)) → LinL r d := by
  induction h with
  | done r c h => intro d _ _ _ _; exact .done _ _ h
  | step p e s c ha ho _ ih =>
    intro d hc hd hk hg
    obtain ⟨q1, q2, q3⟩ := doE_agree (hk e (by simp)) hc hd (hg e (by simp))
    obtain ⟨_, _, q3'⟩ := doE_agree (c := d) (d := d) (hk e (by simp)) hd hd rfl
    refine .step p e s d ha (fun h => by rw [← q1]; exact ho h) (ih _ (by rw [doE_len, hc]) (by rw [doE_len, hd]) (fun f hf => hk f ?_) fun f hf => ?_)
    · simp at hf ⊢; rcases hf with hf | hf <;> simp [hf]
    · have hf' : f ∈ p ++ e :: s := by simp at hf ⊢; rcases hf with hf | hf <;> simp [hf]
      by_cases hj : f.ky.toNat = e.ky.toNat
      · rw [hj]; exact q2
      · rw [q3 _ hj, q3' _ hj]; exact hg f hf'

def fk (k : Int) (l : List Ev) : List Ev := l.filter fun e => decide (e.ky = k)
theorem LinL.key {r : List Ev} {c : List Cl} (h : LinL r c) (k : Int) (hc : c.length = 16) (hk : ∀ e ∈ r, okKv e.kd e.ky = true) : LinL (fk k r) c := by
  induction h with
  | done r c h => exact .done _ _ fun e he => h e (List.mem_filter.1 he).1
  | step p e s c ha ho _ ih =>
    have hk' : ∀ f ∈ p ++ s, okKv f.kd f.ky = true := fun f hf => hk f (by simp at hf ⊢; rcases hf with hf | hf <;> simp [hf])
    have ih := ih (by rw [doE_len, hc]) hk'
    have ec : fk k (p ++ s) = fk k p ++ fk k s := List.filter_append ..
    by_cases he : e.ky = k
    · have e1 : fk k (p ++ e :: s) = fk k p ++ e :: fk k s := by
        unfold fk; rw [List.filter_append, List.filter_cons_of_pos (by simp [he])]
      rw [e1]
      rw [ec] at ih
      refine .step _ e _ c (fun x hx => ha x ?_) ho ih
      rw [← ec] at hx
      exact (List.mem_filter.1 hx).1
    · have e1 : fk k (p ++ e :: s) = fk k (p ++ s) := by
        rw [ec]; unfold fk; rw [List.filter_append, List.filter_cons_of_neg (by simp [he])]
      rw [e1]
      obtain ⟨_, _, q3⟩ := doE_agree (c := c) (d := c) (hk e (by simp)) hc hc rfl
      refine ih.agree c (by rw [doE_len, hc]) hc (fun f hf => hk' f (List.mem_filter.1 hf).1) fun f hf => ?_
      obtain ⟨hf1, hf2⟩ := List.mem_filter.1 hf
      refine q3 _ fun hh => he ?_
      have := okKv_nat (hk' f hf1) (hk e (by simp)) hh
      rw [← this]
      simpa using hf2
theorem min_done : ∀ (l : List Ev), (∃ e ∈ l, e.dn = true) → ∃ z ∈ l, z.dn = true ∧ ∀ x ∈ l, x.dn = true → z.en ≤ x.en
  | [], h => by obtain ⟨e, h, _⟩ := h; simp at h
  | y :: l, h => by
    by_cases hl : ∃ e ∈ l, e.dn = true
    · obtain ⟨z, h1, h2, h3⟩ := min_done l hl
      by_cases hy : y.dn = true ∧ y.en < z.en
      · refine ⟨y, by simp, hy.1, fun x hx hd => ?_⟩
        rcases List.mem_cons.1 hx with rfl | hx
        · exact Int.le_refl _
        · have := h3 x hx hd; omega
      · refine ⟨z, by simp [h1], h2, fun x hx hd => ?_⟩
        rcases List.mem_cons.1 hx with rfl | hx
        · have : ¬ x.en < z.en := fun hh => hy ⟨hd, hh⟩
          omega
        · exact h3 x hx hd
    · obtain ⟨e, he, hd⟩ := h
      rcases List.mem_cons.1 he with rfl | he
      · refine ⟨e, by simp, hd, fun x hx hxd => ?_⟩
        rcases List.mem_cons.1 hx with rfl | hx
        · exact Int.le_refl _
        · exact absurd ⟨x, hx, hxd⟩ hl
      · exact absurd ⟨e, he, hd⟩ hl
theorem LinL.join : ∀ (n : Nat) (r : List Ev) (c : List Cl), r.length = n → c.length = 16 → (∀ e ∈ r, rightE e = true) → (∀ k, 0 ≤ k → k ≤ 15 → LinL (fk k r) c) → LinL r c := by
  intro n
  induction n with
  | zero =>
    intro r c hn _ _ _
    have : r = [] := List.eq_nil_of_length_eq_zero hn
    subst this
    exact .done _ _ (by simp)
  | succ n ih =>
    intro r c hn hc hr hk
    by_cases hd : ∃ e ∈ r, e.dn = true
    · obtain ⟨z, hz, hzd, hmin⟩ := min_done r hd
      have hok : ∀ e ∈ r, okKv e.kd e.ky = true := fun e he => by
        have := hr e he
        simp only [rightE, Bool.and_eq_true] at this
        exact this.1
      have hzk : 0 ≤ z.ky ∧ z.ky ≤ 15 := by have := hok z hz; simp [okKv] at this; omega
      have hlin := hk z.ky hzk.1 hzk.2
      have hzf : z ∈ fk z.ky r := List.mem_filter.2 ⟨hz, by simp⟩
      generalize hq : fk z.ky r = q at hlin hzf
      cases hlin with
      | done _ _ h => rw [h z hzf] at hzd; cases hzd
      | step p e s _ ha ho hrest =>
        have hebg : e.bg ≤ z.en := by
          have : z = e ∨ z ∈ p ++ s := by
            simp at hzf ⊢
            rcases hzf with h | h | h
            · exact Or.inr (Or.inl h)
            · exact Or.inl h
            · exact Or.inr (Or.inr h)
          rcases this with rfl | h
          · have := hr z hz
            simp [rightE, hzd] at this
            exact this.2
          · have := ha z h
            simp [aheadB, hzd] at this
            exact this
        unfold fk at hq
        rw [List.filter_eq_append_iff] at hq
        obtain ⟨A, B, rfl, hA, hB⟩ := hq
        rw [List.filter_eq_cons_iff] at hB
        obtain ⟨B1, B2, rfl, hB1, hpe, hB2⟩ := hB
        have hek : e.ky = z.ky := by simpa using hpe
        have hfB1 : B1.filter (fun e => decide (e.ky = z.ky)) = [] := List.filter_eq_nil_iff.2 hB1
        have hf : fk z.ky ((A ++ B1) ++ B2) = p ++ s := by
          unfold fk
          rw [List.filter_append, List.filter_append, hA, hfB1, hB2]
          simp
        have hmem : ∀ x ∈ (A ++ B1) ++ B2, x ∈ A ++ (B1 ++ e :: B2) := fun x hx => by
          simp at hx ⊢
          rcases hx with h | h | h <;> simp [h]
        have e0 : A ++ (B1 ++ e :: B2) = (A ++ B1) ++ e :: B2 := by simp
        have heok : okKv e.kd e.ky = true := hok e (by simp)
        have key := ih ((A ++ B1) ++ B2) (doE c e).1 (by simp at hn ⊢; omega) (by rw [doE_len, hc]) (fun x hx => hr x (hmem x hx)) (fun k h0 h15 => by
          by_cases hkz : k = z.ky
          · subst hkz
            rw [hf]
            exact hrest
          · have e1 : fk k (A ++ (B1 ++ e :: B2)) = fk k ((A ++ B1) ++ B2) := by
              unfold fk
              simp only [List.filter_append, List.filter_cons]
              rw [if_neg (by simp [hek]; exact fun h => hkz h.symm)]
              simp
            have hl := hk k h0 h15
            rw [e1] at hl
            obtain ⟨_, _, q3⟩ := doE_agree (c := c) (d := c) heok hc hc rfl
            refine hl.agree _ hc (by rw [doE_len, hc]) (fun f hf => hok f (hmem f (List.mem_filter.1 hf).1)) fun f hf => (q3 _ fun hh => hkz ?_).symm
            obtain ⟨hf1, hf2⟩ := List.mem_filter.1 hf
            have := okKv_nat (hok f (hmem f hf1)) heok hh
            rw [← hek, ← this]
            exact (by simpa using hf2 : f.ky = k).symm)
        rw [e0]
        refine .step _ e _ c (fun x hx => ?_) ho key
        have hxr := hmem x hx
        cases hxd : x.dn
        · simp [aheadB, hxd]
        · have := hmin x hxr hxd
          simp [aheadB, hxd]
          omega
    · exact .done _ _ fun e he => by
        cases h : e.dn
        · rfl
        · exact absurd ⟨e, he, h⟩ hd
/-- A history is linear just if each key's own is. -/
theorem local_iff (l : List Ev) (c : List Cl) (hc : c.length = 16) (hr : ∀ e ∈ l, rightE e = true) : Lin l 0 c ↔ ∀ k : Nat, k < 16 → Lin (fk (k : Int) l) 0 c := by
  have hok : ∀ e ∈ l, okKv e.kd e.ky = true := fun e he => by
    have := hr e he
    simp only [rightE, Bool.and_eq_true] at this
    exact this.1
  rw [Lin_iff]
  constructor
  · intro h k _
    rw [Lin_iff]
    exact h.key _ hc hok
  · intro h
    refine LinL.join _ l c rfl hc hr fun k h0 h15 => ?_
    have := (Lin_iff _ _).1 (h k.toNat (by omega))
    rwa [show ((k.toNat : Nat) : Int) = k by omega] at this
end Go.Proofs.Ythpfadbdkkmagaa
