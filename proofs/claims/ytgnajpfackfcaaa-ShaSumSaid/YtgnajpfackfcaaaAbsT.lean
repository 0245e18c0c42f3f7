/- The abstract machine: what a law is given reads as pure values; a law's contract tells what its statement asks. No condition. -/
import Derived.Test.YtgnajpfackfcaaaAbsS
import Derived.Test.YtgnajpfackfcaaaLibOpen
set_option linter.unusedVariables false
set_option linter.unusedSimpArgs false
namespace Go.Abs
open Go.RowKit Go.Ours

/-- A list of pure values of a shape. -/
def OKs : Shp → List PV → Prop
  | .bool, ps => ∃ b, ps = [.bool b]
  | .int k, ps => ∃ n, ps = [.int k n] ∧ (Lit.int k n).wf = true
  | .slice e, ps => ∃ es, ps = [.sl e.size es] ∧ es.length ≤ maxLen ∧ ∀ r ∈ es, OKs e r
  | .arr n e, ps => ps.length = n * e.size ∧ ∀ i, i < n → OKs e ((ps.drop (i * e.size)).take e.size)
  | .unit, ps => ps = []
  | .pair a b, ps => OKs a (ps.take a.size) ∧ OKs b (ps.drop a.size)

def posS : Shp → Bool
  | .bool => true
  | .int _ => true
  | .slice e => decide (0 < e.size) && posS e
  | .arr _ e => posS e
  | .unit => true
  | .pair a b => posS a && posS b

theorem OKs.len : ∀ {s : Shp} {ps : List PV}, OKs s ps → ps.length = s.size ∨ ∃ a b, s = .pair a b
  | .bool, ps, h => by obtain ⟨b, rfl⟩ := h; exact Or.inl rfl
  | .int k, ps, h => by obtain ⟨n, rfl, _⟩ := h; exact Or.inl rfl
  | .slice e, ps, h => by obtain ⟨es, rfl, _⟩ := h; exact Or.inl rfl
  | .arr n e, ps, h => Or.inl h.1
  | .unit, ps, h => by subst h; exact Or.inl rfl
  | .pair a b, ps, h => Or.inr ⟨a, b, rfl⟩

theorem listOf {n : Nat} {α : Type} {Q : Nat → α → Prop} (h : ∀ i, i < n → ∃ x, Q i x) : ∃ l : List α, l.length = n ∧ ∀ (i : Nat) x, l[i]? = some x → Q i x := by
  induction n with
  | zero => exact ⟨[], rfl, fun i x h => by simp at h⟩
  | succ n ih =>
    obtain ⟨l, h1, h2⟩ := ih (fun i hi => h i (by omega))
    obtain ⟨x, hx⟩ := h n (by omega)
    refine ⟨l ++ [x], by simp [h1], fun i y hy => ?_⟩
    by_cases hi : i < n
    · rw [List.getElem?_append_left (by omega)] at hy
      exact h2 i y hy
    · rw [List.getElem?_append_right (by omega)] at hy
      obtain ⟨hlt, _⟩ := List.getElem?_eq_some_iff.1 hy
      simp at hlt
      have : i = n := by omega
      subst this
      rw [h1] at hy
      simp at hy
      subst hy
      exact hx

def fp0 (w : World) (b _o : Nat) : Prop := b < w.heap.size

theorem cell_lt {w : World} {b o : Nat} {v : Value} (h : w.cell? ⟨b, o, none⟩ = some v) : b < w.heap.size := (cell_alloc (ob := .chan 0 #[] false 0 0 false) h).2

/-- What comes in reads as pure values. -/
theorem pvs_of_reads {w : World} : ∀ {s : Shp} {cs : List Value}, posS s = true → Shp.Reads w s cs → ∃ ps, PRs (fp0 w) w cs ps ∧ OKs s ps ∧ ps.length = cs.length := by
  intro s
  induction s with
  | bool =>
    intro cs _ h
    obtain ⟨b, rfl⟩ := h
    refine ⟨[.bool b], ⟨rfl, fun j v p h1 h2 => ?_⟩, ⟨b, rfl⟩, rfl⟩
    cases j with
    | zero => simp at h1 h2; subst h1 h2; exact .bool b
    | succ j => simp at h1
  | int k =>
    intro cs _ h
    obtain ⟨n, rfl, hw⟩ := h
    refine ⟨[.int k n], ⟨rfl, fun j v p h1 h2 => ?_⟩, ⟨n, rfl, hw⟩, rfl⟩
    cases j with
    | zero => simp at h1 h2; subst h1 h2; exact .int k n
    | succ j => simp at h1
  | slice e ih =>
    intro cs hp h
    simp only [posS, Bool.and_eq_true, decide_eq_true_eq] at hp
    have fin : ∀ {v : Value} {es : List (List PV)}, PR (fp0 w) w v (.sl e.size es) → es.length ≤ maxLen → (∀ r ∈ es, OKs e r) → ∃ ps, PRs (fp0 w) w [v] ps ∧ OKs (.slice e) ps ∧ ps.length = [v].length := fun {v es} hpr hl ho => by
      refine ⟨[.sl e.size es], ⟨rfl, fun j u q h1 h2 => ?_⟩, ⟨es, rfl, hl, ho⟩, rfl⟩
      cases j with
      | zero => simp at h1 h2; subst h1 h2; exact hpr
      | succ j => simp at h1
    have hk := h
    rcases h with rfl | ⟨A, len, cap, rfl, h1, h2, h3⟩
    · exact fin (.sl0 _ _ _ (Nat.zero_le _) fun _ => rfl) (Nat.zero_le _) (by simp)
    · by_cases hlen : len = 0
      · subst hlen
        exact fin (.sl0 _ _ _ h2 fun h => by cases h) (Nat.zero_le _) (by simp)
      · obtain ⟨b, o, rfl, _⟩ := elem_of_reads hk hp.1 (i := 0) (by omega)
        obtain ⟨es, hes, hel⟩ := listOf (n := len) (Q := fun i (r : List PV) => OKs e r ∧ r.length = e.size ∧ ∀ (j : Nat) p, r[j]? = some p → ∃ u, w.cell? ⟨b, o + i * e.size + j, none⟩ = some u ∧ PR (fp0 w) w u p) (fun i hi => by
          obtain ⟨b', o', eq, vs, hvl, hg, hr⟩ := elem_of_reads hk hp.1 (i := i) (by omega)
          simp only [Go.Addr.mk.injEq, and_true] at eq
          obtain ⟨rfl, rfl⟩ := eq
          obtain ⟨ps, q1, q2, q3⟩ := ih hp.2 hr
          refine ⟨ps, q2, by omega, fun j p hj => ?_⟩
          obtain ⟨u, hu, hpr⟩ := q1.get hj
          have hjl := (List.getElem?_eq_some_iff.1 hj).1
          exact ⟨u, by rw [hg j (by omega)]; exact hu, hpr⟩)
        have key := PR.mksl (fp := fp0 w) (w := w) (b := b) (o := o) (cap := cap) (sz := e.size) (es := es) (by omega) h2 (fun r hr => by
          obtain ⟨i, hi⟩ := List.getElem?_of_mem hr
          exact (hel i r hi).2.1) (fun i r j p hi hj => by
          obtain ⟨u, hu, hpr⟩ := (hel i r hi).2.2 j p hj
          exact ⟨cell_lt hu, u, hu, hpr⟩)
        rw [hes] at key
        exact fin key (by omega) fun r hr => by
          obtain ⟨i, hi⟩ := List.getElem?_of_mem hr
          exact (hel i r hi).1
  | arr n e ih =>
    intro cs hp h
    obtain ⟨h1, h2⟩ := h
    obtain ⟨rows, hr, hrow⟩ := listOf (n := n) (Q := fun i (r : List PV) => PRs (fp0 w) w ((cs.drop (i * e.size)).take e.size) r ∧ OKs e r ∧ r.length = e.size) (fun i hi => by
      obtain ⟨ps, q1, q2, q3⟩ := ih hp (h2 i hi)
      refine ⟨ps, q1, q2, ?_⟩
      rw [q3, List.length_take, List.length_drop, h1]
      have : i * e.size + e.size ≤ n * e.size := by rw [← Nat.succ_mul]; exact Nat.mul_le_mul_right _ hi
      omega)
    have hl : ∀ r ∈ rows, r.length = e.size := fun r hr => by obtain ⟨i, hi⟩ := List.getElem?_of_mem hr; exact (hrow i r hi).2.2
    have hfl := flat_len hl
    refine ⟨rows.flatten, ⟨by rw [hfl, hr, h1], fun j v p hv hp' => ?_⟩, ⟨by rw [hfl, hr], fun i hi => ?_⟩, by rw [hfl, hr, h1]⟩
    · obtain ⟨i, r, k, g1, g2, rfl⟩ := flat_get hl hp'
      have hk := (List.getElem?_eq_some_iff.1 g2).1
      rw [hl r (List.mem_of_getElem? g1)] at hk
      exact (hrow i r g1).1.2 k v p (by rw [List.getElem?_take, if_pos hk, List.getElem?_drop]; exact hv) g2
    · obtain ⟨r, hri⟩ : ∃ r, rows[i]? = some r := ⟨_, List.getElem?_eq_getElem (by omega)⟩
      have : (rows.flatten.drop (i * e.size)).take e.size = r := by
        apply List.ext_getElem?
        intro k
        rw [List.getElem?_take, List.getElem?_drop]
        split
        · rename_i hk
          have hrl := hl r (List.mem_of_getElem? hri)
          have hke : k < r.length := by omega
          rw [flat_at hl hri (List.getElem?_eq_getElem hke), List.getElem?_eq_getElem hke]
        · rename_i hk
          have hrl := hl r (List.mem_of_getElem? hri)
          rw [List.getElem?_eq_none (by omega)]
      rw [this]
      exact (hrow i r hri).2.1
  | unit =>
    intro cs _ h
    have : cs = [] := h
    subst this
    exact ⟨[], PRs.nil _ _, rfl, rfl⟩
  | pair a b iha ihb =>
    intro cs hp h
    simp only [posS, Bool.and_eq_true] at hp
    obtain ⟨p1, q1, q2, q3⟩ := iha hp.1 h.1
    obtain ⟨p2, r1, r2, r3⟩ := ihb hp.2 h.2
    have key := q1.append r1
    rw [List.take_append_drop] at key
    refine ⟨p1 ++ p2, key, ?_, key.1.symm⟩
    by_cases hle : a.size ≤ cs.length
    · have hl : p1.length = a.size := by rw [q3, List.length_take]; omega
      refine ⟨?_, ?_⟩
      · rw [List.take_append_of_le_length (by omega), List.take_of_length_le (by omega)]; exact q2
      · rw [List.drop_append_of_le_length (by omega), List.drop_of_length_le (by omega), List.nil_append]; exact r2
    · have h1 : cs.take a.size = cs := List.take_of_length_le (by omega)
      have h2 : cs.drop a.size = [] := List.drop_of_length_le (by omega)
      rw [h2] at r3
      have : p2 = [] := List.eq_nil_of_length_eq_zero (by simpa using r3)
      subst this
      rw [h1] at q3
      rw [List.append_nil]
      refine ⟨?_, ?_⟩
      · rw [List.take_of_length_le (by omega)]; exact q2
      · rw [List.drop_of_length_le (by omega)]; exact r2

/-- How an argument of a law reads. -/
def ArgR (w : World) (v : Value) (a : AV) : Prop := V2 (fp0 w) (fun _ => none) w v a
theorem ArgR.agg {w : World} {cs : Array Value} {ps : List PV} (h : PRs (fp0 w) w cs.toList ps) : ArgR w (.agg cs) (.pagg ps) := ⟨⟨cs, rfl, h⟩, fun _ => rfl⟩
theorem ArgR.pv {w : World} {v : Value} {p : PV} (h : PR (fp0 w) w v p) : ArgR w v (.pv p) := ⟨⟨h, rfl⟩, fun _ _ => rfl⟩

theorem lawCalls {P : Program} {f : Nat} {args : List AV} {w : World} {vals : Array Value} (h : ACall P f args [] (.pv (.bool true)) [] []) (hn : vals.size = args.length)
    (hv : ∀ (i : Nat) v av, vals[i]? = some v → args[i]? = some av → ArgR w v av) : Calls P f vals w fun e w' => e = .returned (.bool true) ∧ Below w.heap.size w w' := by
  have hsafe : ∀ b o, Gh.safe ⟨fun _ => none, fun _ _ => none⟩ b o := fun b o => ⟨(fun x hx => by cases hx), (fun k j e he => by cases he)⟩
  have hR : Rel ⟨w, fun b _ => b < w.heap.size, fun _ => False⟩ ⟨fun _ => none, fun _ _ => none⟩ (sinOf args []) ⟨vals, []⟩ w := by
    refine ⟨fun t => ?_, fun x => ?_, (fun _ _ _ _ _ _ _ h => by cases h), (fun _ _ _ _ _ h => by cases h), (fun _ _ _ h => by cases h), (fun _ _ h => by cases h), (fun _ _ _ _ h => by cases h), fun b o _ => hsafe b o, fun b o h => h, ⟨rfl, rfl, rfl, Nat.le_refl _, fun _ _ _ => rfl, fun _ _ _ => rfl⟩, rfl⟩
    · simp only [sinOf, List.getD_eq_getElem?_getD]
      cases ha : args[t]? with
      | none => exact VR2.undef _
      | some av =>
        have ht : t < vals.size := by rw [hn]; exact (List.getElem?_eq_some_iff.1 ha).1
        have q := hv t vals[t] av (Array.getElem?_eq_getElem ht) ha
        have q' : VR2 (fp ⟨w, fun b _ => b < w.heap.size, fun _ => False⟩ ⟨fun _ => none, fun _ _ => none⟩) (fun _ => none) w vals[t] av (fun _ => none) := VR2.mono (fun b o v hf hc => ⟨⟨Or.inl hf, hsafe b o⟩, hc⟩) (fun _ _ h => h) (fun _ _ _ h => by cases h) q
        simpa [Array.getD, ht] using q'
    · simp only [sinOf]
      split
      · simp only [List.getD_nil]; exact fun _ => rfl
      · exact fun _ => rfl
  refine (h _ _ w vals hn rfl hR).mono fun e w' hh => ?_
  obtain ⟨v, G', rfl, hR', _⟩ := hh
  have ht : VR2 _ _ w' v (soutOf (.pv (.bool true)) [] [] (.t 0)) _ := hR'.tmp 0
  have hv : v = .bool true := by obtain ⟨⟨h, _⟩, _⟩ := ht; cases h; rfl
  subst hv
  exact ⟨rfl, ⟨hR'.fr.os, hR'.fr.tape, hR'.fr.output, hR'.fr.size, fun b hb => hR'.fr.block b hb (fun h => h)⟩⟩
end Go.Abs
