/- What a queue does, in plain words. No condition. -/
import Derived.Test.YtcceiicpploclaaQueueA
set_option linter.unusedVariables false
set_option linter.unusedSimpArgs false
namespace Go.Proofs.Ytcceiicpploclaa
open Go.Abs Go.RowKit Go.Ours

/-- The last numbers of clients, among the replies' cells. -/
structure LastP (ps : List PV) (ls : List Int) : Prop where
  len : ps.length = 30
  ll : ls.length = 6
  cell : ∀ (c : Nat) (z : Int), ls[c]? = some z → ps[c * 5 + 1]? = some (.int .i64 z)
theorem LastP.set {ps : List PV} {ls : List Int} (h : LastP ps ls) {c : Nat} (hc : c < 6) (z : Int) : LastP (ps.set (c * 5 + 1) (.int .i64 z)) (ls.set c z) := by
  refine ⟨by simp [h.len], by simp [h.ll], fun d y hd => ?_⟩
  rw [List.getElem?_set] at hd ⊢
  by_cases he : c = d
  · subst he
    rw [if_pos rfl] at hd ⊢
    have h1 := h.ll
    have h2 := h.len
    rw [if_pos (by omega)] at hd ⊢
    cases hd
    rfl
  · rw [if_neg he] at hd
    rw [if_neg (by omega)]
    exact h.cell d y hd
def lsq (ls : List Int) (c : Int) : Int := (ls[c.toNat]?).getD 0
theorem LastP.get {ps : List PV} {ls : List Int} (h : LastP ps ls) {c : Nat} (hc : c < 6) : ps[c * 5 + 1]? = some (.int .i64 (lsq ls (c : Int))) := by
  have h1 := h.ll
  have hg : ls[c]? = some ls[c] := List.getElem?_eq_getElem (by omega)
  rw [h.cell c _ hg, lsq, Int.toNat_natCast, hg]
  rfl
theorem lsq_set {ls : List Int} {c : Nat} (hc : c < ls.length) (z d : Int) (hd : 0 ≤ d) : lsq (ls.set c z) d = if d = (c : Int) then z else lsq ls d := by
  unfold lsq
  rw [List.getElem?_set]
  by_cases h : d = (c : Int)
  · subst h
    simp [hc]
  · rw [if_neg (by omega), if_neg h]

/-- Add. -/
def addE (x : List Rq) (r : Rq) : Int := if formedF r = false then 15 else if rid r ∈ x.map rid then 7 else if 12 ≤ x.length then 4 else 0
def addL (x : List Rq) (r : Rq) : List Rq := if addE x r = 0 then x ++ [r] else x
def addM (m : List (Int × Int)) (x : List Rq) (r : Rq) : List (Int × Int) := if addE x r = 0 then m ++ [rid r] else m
theorem addE_0 {x : List Rq} {r : Rq} (h : addE x r = 0) : formedF r = true ∧ rid r ∉ x.map rid ∧ x.length < 12 := by
  unfold addE at h
  split at h
  · omega
  · rename_i h1
    split at h
    · omega
    · rename_i h2
      split at h
      · omega
      · exact ⟨by simpa using h1, h2, by omega⟩
theorem QI.add {x : List Rq} {m : List (Int × Int)} (h : QI x m) {r : Rq} (ha : I64 r.a) (hb : I64 r.b) : QI (addL x r) (addM m x r) := by
  unfold addL addM
  split
  · rename_i h0
    obtain ⟨h1, h2, h3⟩ := addE_0 h0
    refine ⟨?_, ?_, fun p => ?_, fun q hq => ?_, fun q hq => ?_, by simp; omega⟩
    · rw [List.nodup_append]
      refine ⟨h.nd, by simp, fun a ha b hb => ?_⟩
      simp at hb
      subst hb
      rintro rfl
      exact h2 ((h.iff _).1 ha)
    · rw [List.map_append, List.nodup_append]
      refine ⟨h.un, by simp, fun a ha b hb => ?_⟩
      simp at hb
      subst hb
      rintro rfl
      exact h2 ha
    · rw [List.map_append, List.mem_append, List.mem_append, h.iff]
      simp
    · rcases List.mem_append.1 hq with hq | hq
      · exact h.fm q hq
      · simp at hq; subst hq; exact h1
    · rcases List.mem_append.1 hq with hq | hq
      · exact h.nb q hq
      · simp at hq; subst hq; exact ⟨ha, hb⟩
  · exact h

/-- Batch, as the queue makes it. -/
def bgo : List Rq → List Int → List Rq → List Rq
  | [], _, out => out
  | r :: l, ls, out => if out.length = 4 then out else if lsq ls r.client < r.seq then bgo l (ls.set r.client.toNat r.seq) (out ++ [r]) else bgo l ls out
/-- Batch, as the document makes it. -/
def okB (ls : List Int) (out : List Rq) (r : Rq) : Bool := decide (lsq ls r.client < r.seq) && out.all fun q => !(decide (q.client = r.client) && decide (r.seq ≤ q.seq))
def rgo (ls : List Int) : List Rq → List Rq → List Rq
  | [], out => out
  | r :: l, out => if out.length < 4 then (if okB ls out r = true then rgo ls l (out ++ [r]) else rgo ls l out) else out
def BI (ls ls' : List Int) (out : List Rq) : Prop := ls'.length = 6 ∧ ∀ c : Int, 0 ≤ c → c < 6 → lsq ls c ≤ lsq ls' c ∧ (∀ q ∈ out, q.client = c → q.seq ≤ lsq ls' c) ∧ (lsq ls' c = lsq ls c ∨ ∃ q ∈ out, q.client = c ∧ q.seq = lsq ls' c)
theorem bgo_rgo (ls : List Int) : ∀ (l : List Rq) (ls' : List Int) (out : List Rq), (∀ r ∈ l, formedF r = true) → BI ls ls' out → out.length ≤ 4 → bgo l ls' out = rgo ls l out
  | [], ls', out, _, _, _ => rfl
  | r :: l, ls', out, hf, hb, ho => by
    have hs := formed_small (hf r (by simp))
    obtain ⟨hl, hb'⟩ := hb
    obtain ⟨h1, h2, h3⟩ := hb' r.client hs.1 hs.2.1
    unfold bgo rgo
    by_cases h4 : out.length = 4
    · rw [if_pos h4, if_neg (show ¬ out.length < 4 by omega)]
    · rw [if_neg h4, if_pos (show out.length < 4 by omega)]
      have key : okB ls out r = decide (lsq ls' r.client < r.seq) := by
        unfold okB
        by_cases hlt : lsq ls' r.client < r.seq
        · rw [decide_eq_true hlt, decide_eq_true (by omega), Bool.true_and, List.all_eq_true]
          intro q hq
          by_cases hc : q.client = r.client
          · have := h2 q hq hc
            simp [hc]
            omega
          · simp [hc]
        · rw [decide_eq_false hlt]
          rcases h3 with h3 | ⟨q, hq, hc, he⟩
          · rw [decide_eq_false (by omega), Bool.false_and]
          · rw [Bool.and_eq_false_iff]
            right
            rw [List.all_eq_false]
            refine ⟨q, hq, ?_⟩
            simp [hc]
            omega
      rw [key]
      by_cases hlt : lsq ls' r.client < r.seq
      · rw [if_pos hlt, decide_eq_true hlt, if_pos rfl]
        refine bgo_rgo ls l _ _ (fun q hq => hf q (by simp [hq])) ⟨by simp [hl], fun c hc0 hc6 => ?_⟩ (by simp; omega)
        have hcl : r.client = ((r.client.toNat : Nat) : Int) := by omega
        rw [lsq_set (by omega) _ _ hc0]
        by_cases hc : c = ((r.client.toNat : Nat) : Int)
        · rw [if_pos hc]
          rw [← hcl] at hc
          subst hc
          refine ⟨by omega, fun q hq hqc => ?_, Or.inr ⟨r, by simp, rfl, rfl⟩⟩
          rcases List.mem_append.1 hq with hq | hq
          · have := h2 q hq hqc
            omega
          · simp at hq
            subst hq
            omega
        · rw [if_neg hc]
          obtain ⟨g1, g2, g3⟩ := hb' c hc0 hc6
          refine ⟨g1, fun q hq hqc => ?_, ?_⟩
          · rcases List.mem_append.1 hq with hq | hq
            · exact g2 q hq hqc
            · simp at hq
              subst hq
              rw [← hcl] at hc
              exact absurd hqc.symm hc
          · rcases g3 with g3 | ⟨q, hq, e1, e2⟩
            · exact Or.inl g3
            · exact Or.inr ⟨q, List.mem_append_left _ hq, e1, e2⟩
      · rw [if_neg hlt, decide_eq_false hlt, if_neg (by simp)]
        exact bgo_rgo ls l _ _ (fun q hq => hf q (by simp [hq])) ⟨hl, hb'⟩ ho
def batchQ (x : List Rq) (ls : List Int) : List Rq := rgo ls x []
theorem bgo_batch {x : List Rq} {ls : List Int} (hf : ∀ r ∈ x, formedF r = true) (hl : ls.length = 6) : bgo x ls [] = batchQ x ls :=
  bgo_rgo ls x ls [] hf ⟨hl, fun c _ _ => ⟨Int.le_refl _, by simp, Or.inl rfl⟩⟩ (by simp)
theorem rgo_len (ls : List Int) : ∀ (l out : List Rq), out.length ≤ 4 → (rgo ls l out).length ≤ 4
  | [], _, h => h
  | r :: l, out, h => by
    unfold rgo
    split
    · split
      · exact rgo_len ls l _ (by simp; omega)
      · exact rgo_len ls l _ h
    · exact h
theorem rgo_mem (ls : List Int) : ∀ (l out : List Rq), ∀ q ∈ rgo ls l out, q ∈ out ∨ (q ∈ l ∧ lsq ls q.client < q.seq)
  | [], _, q, h => Or.inl h
  | r :: l, out, q, h => by
    unfold rgo at h
    split at h
    · split at h
      · rename_i hok
        rcases rgo_mem ls l _ q h with g | g
        · rcases List.mem_append.1 g with g | g
          · exact Or.inl g
          · simp at g
            subst g
            simp only [okB, Bool.and_eq_true, decide_eq_true_eq] at hok
            exact Or.inr ⟨by simp, hok.1⟩
        · exact Or.inr ⟨by simp [g.1], g.2⟩
      · rcases rgo_mem ls l _ q h with g | g
        · exact Or.inl g
        · exact Or.inr ⟨by simp [g.1], g.2⟩
    · exact Or.inl h

theorem nodup_getP {α : Type} {l : List α} (h : l.Nodup) {i j : Nat} {x : α} (hi : l[i]? = some x) (hj : l[j]? = some x) : i = j := by
  induction l generalizing i j with
  | nil => simp at hi
  | cons a l ih =>
    rw [List.nodup_cons] at h
    cases i with
    | zero =>
      simp at hi
      subst hi
      cases j with
      | zero => rfl
      | succ j => exact absurd (List.mem_of_getElem? (by simpa using hj)) h.1
    | succ i =>
      cases j with
      | zero =>
        simp at hj
        subst hj
        exact absurd (List.mem_of_getElem? (by simpa using hi)) h.1
      | succ j => exact congrArg (· + 1) (ih h.2 (by simpa using hi) (by simpa using hj))
/-- Drop. -/
def keepB (ls : List Int) (r : Rq) : Bool := decide (lsq ls r.client < r.seq)
def dropL (x : List Rq) (ls : List Int) : List Rq := x.filter (keepB ls)
def dropM (ls : List Int) : List Rq → List (Int × Int) → List (Int × Int)
  | [], m => m
  | r :: l, m => dropM ls l (if keepB ls r = true then m else idel (rid r) m)
theorem dropM_app (ls : List Int) : ∀ (l l' : List Rq) (m : List (Int × Int)), dropM ls (l ++ l') m = dropM ls l' (dropM ls l m)
  | [], _, _ => rfl
  | r :: l, l', m => by
    rw [List.cons_append, dropM, dropM, dropM_app ls l l']
theorem dropM_spec (ls : List Int) : ∀ (l : List Rq) (m : List (Int × Int)), m.Nodup → (dropM ls l m).Nodup ∧ ∀ p, p ∈ dropM ls l m ↔ p ∈ m ∧ ∀ r ∈ l, keepB ls r = false → rid r ≠ p
  | [], m, h => ⟨h, fun p => by simp [dropM]⟩
  | r :: l, m, h => by
    unfold dropM
    by_cases hk : keepB ls r = true
    · rw [if_pos hk]
      obtain ⟨h1, h2⟩ := dropM_spec ls l m h
      refine ⟨h1, fun p => ?_⟩
      rw [h2]
      constructor
      · rintro ⟨a, b⟩
        refine ⟨a, fun q hq hkq => ?_⟩
        rcases List.mem_cons.1 hq with rfl | hq
        · rw [hk] at hkq; cases hkq
        · exact b q hq hkq
      · rintro ⟨a, b⟩
        exact ⟨a, fun q hq hkq => b q (by simp [hq]) hkq⟩
    · rw [if_neg hk]
      obtain ⟨h1, h2⟩ := dropM_spec ls l (idel (rid r) m) (idel_nodup h)
      refine ⟨h1, fun p => ?_⟩
      rw [h2, idel_mem h]
      constructor
      · rintro ⟨⟨a, c⟩, b⟩
        refine ⟨a, fun q hq hkq => ?_⟩
        rcases List.mem_cons.1 hq with rfl | hq
        · exact fun e => c e.symm
        · exact b q hq hkq
      · rintro ⟨a, b⟩
        exact ⟨⟨a, fun e => b r (by simp) (by simpa using hk) e.symm⟩, fun q hq hkq => b q (by simp [hq]) hkq⟩
theorem QI.drop {x : List Rq} {m : List (Int × Int)} (h : QI x m) (ls : List Int) : QI (dropL x ls) (dropM ls x m) := by
  obtain ⟨h1, h2⟩ := dropM_spec ls x m h.nd
  refine ⟨h1, ?_, fun p => ?_, fun r hr => h.fm r (List.mem_filter.1 hr).1, fun r hr => h.nb r (List.mem_filter.1 hr).1, Nat.le_trans (List.length_filter_le _ _) h.le⟩
  · exact h.un.sublist ((List.filter_sublist).map rid)
  · rw [h2, h.iff, List.mem_map, List.mem_map]
    have uniq : ∀ a ∈ x, ∀ b ∈ x, rid a = rid b → a = b := by
      intro a ha b hb e
      obtain ⟨i, hi⟩ := List.getElem?_of_mem ha
      obtain ⟨j, hj⟩ := List.getElem?_of_mem hb
      have hij := nodup_getP h.un (i := i) (j := j) (x := rid a) (by rw [List.getElem?_map, hi]; rfl) (by rw [List.getElem?_map, hj, e]; rfl)
      subst hij
      rw [hi] at hj
      exact Option.some.inj hj
    constructor
    · rintro ⟨⟨r, hr, rfl⟩, hh⟩
      refine ⟨r, List.mem_filter.2 ⟨hr, ?_⟩, rfl⟩
      cases hk : keepB ls r
      · exact absurd rfl (hh r hr hk)
      · rfl
    · rintro ⟨r, hr, rfl⟩
      obtain ⟨hr1, hr2⟩ := List.mem_filter.1 hr
      refine ⟨⟨r, hr1, rfl⟩, fun q hq hk e => ?_⟩
      have := uniq q hq r hr1 e
      subst this
      rw [hr2] at hk
      cases hk
end Go.Proofs.Ytcceiicpploclaa
