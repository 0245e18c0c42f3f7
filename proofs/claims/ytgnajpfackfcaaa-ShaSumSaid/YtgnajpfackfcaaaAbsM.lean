/- The abstract machine: contracts of calls, guarded operations, their footprints and orders. No condition. -/
import Derived.Test.YtgnajpfackfcaaaAbsL
set_option linter.unusedVariables false
set_option linter.unusedSimpArgs false
namespace Go.Abs
open Go.RowKit

/-- Sites, named anew. -/
def ren0 (f : Nat → Option Nat) : AV → AV
  | .ptr x o => match f x with
    | some y => .ptr y o
    | none => .undef
  | .sr x o n sz => match f x with
    | some y => .sr y o n sz
    | none => .undef
  | .agg _ => .undef
  | .tup _ => .undef
  | a => a
def ren1 (f : Nat → Option Nat) : AV → AV
  | .agg l => .agg (l.map (ren0 f))
  | a => ren0 f a
def ren2 (f : Nat → Option Nat) : AV → AV
  | .tup l => .tup (l.map (ren1 f))
  | a => ren1 f a

def sinOf (args lent : List AV) : S
  | .t i => args.getD i .undef
  | .m x => if 1000 ≤ x then lent.getD (x - 1000) .undef else .undef
def soutOf (r : AV) (lent news : List AV) : S
  | .t i => if i = 0 then r else .undef
  | .m x => if 2000 ≤ x then news.getD (x - 2000) .undef else if 1000 ≤ x then lent.getD (x - 1000) .undef else .undef

/-- What a function does with abstract arguments: args, the contents of the variables that it is lent (their sites are 1000, 1001, ..); what it answers, what it leaves of these, and new variables (2000, ..). -/
def ACall (P : Program) (f : Nat) (args lent : List AV) (r : AV) (lent' news : List AV) : Prop :=
  ∀ (X : Ctx) (G : Gh) (w : World) (vals : Array Value), vals.size = args.length → X.w0 = w → Rel X G (sinOf args lent) ⟨vals, []⟩ w →
    Calls P f vals w fun e w' => ∃ v G', e = .returned v ∧ Rel X G' (soutOf r lent' news) ⟨#[v], []⟩ w' ∧ (∀ x, x < 2000 → 1000 ≤ x → G'.site x = G.site x) ∧ ∀ x b, 2000 ≤ x → G'.site x = some b → w.heap.size ≤ b

def AV.flat0 : AV → Prop
  | .pv (.sl _ _) => False
  | .pv _ => True
  | .pagg l => ∀ p ∈ l, match p with
    | .sl _ _ => False
    | _ => True
  | .none => True
  | .undef => True
  | _ => False
def AV.flat : AV → Prop
  | .tup l => ∀ a ∈ l, a.flat0
  | a => a.flat0

/-- An argument: its sites named anew; a slice of a variable of the caller's that stays as it is while the call runs. -/
def argA (s : S) (lent frz : List Nat) (x : Opd) : Option (Prop × AV) :=
  match (ev s x).dem2 with
  | .sr y o n sz => if y ∈ frz ∧ sz = 1 then (match s (.m y) with
    | .pagg l => some (o + n ≤ l.length ∧ 0 < n, .pv (.sl 1 (((l.drop o).take n).map fun p => [p])))
    | _ => none) else none
  | .tup _ => none
  | a => some (True, ren1 (fun x => (lent.idxOf? x).map (1000 + ·)) a)
def argsA (s : S) (lent frz : List Nat) : List Opd → Option (Prop × List AV)
  | [] => some (True, [])
  | x :: r => match argA s lent frz x, argsA s lent frz r with
    | some (c, a), some (c', l) => some (c ∧ c', a :: l)
    | _, _ => none

def backF (lent news : List Nat) (x : Nat) : Option Nat := if 2000 ≤ x then news[x - 2000]? else if 1000 ≤ x then lent[x - 1000]? else none

/-- What a call does. -/
def CallEff (P : Program) (s : S) (d f : Nat) (xs : List Opd) (lent news frz : List Nat) (U : List (Key × AV)) : Prop :=
  ∃ c args r lent' newc, argsA s lent frz xs = some (c, args) ∧ c ∧ (∀ y ∈ lent, (s (.m y)).isAgg) ∧
    ACall P f args (lent.map fun y => ren1 (fun x => (lent.idxOf? x).map (1000 + ·)) (s (.m y))) r lent' newc ∧
    lent'.length = lent.length ∧ newc.length = news.length ∧ (∀ a ∈ lent', a.isAgg) ∧ (∀ a ∈ newc, a.isAgg) ∧
    (frz = [] ∨ (r.flat ∧ (∀ a ∈ lent', a.flat0) ∧ ∀ a ∈ newc, a.flat0)) ∧
    U = (.t d, ren2 (backF lent news) r) :: ((lent.zip lent').map fun (y, a) => (Key.m y, ren1 (backF lent news) a)) ++ ((news.zip newc).map fun (y, a) => (Key.m y, ren1 (backF lent news) a))

def EffR (P : Program) (s : S) (i : IOp) (U : List (Key × AV)) : Prop :=
  match i with
  | .call d f xs lent news frz => CallEff P s d f xs lent news frz U
  | i => ∃ c, eff s i = some (c, U) ∧ c

def IOp.dst : IOp → Option Nat
  | .p d _ _ => some d
  | .mv d _ => some d
  | .alloc d _ => some d
  | .box d _ => some d
  | .mks d _ _ => some d
  | .build d _ _ => some d
  | .bslice d _ _ _ _ _ => some d
  | .load d _ _ _ => some d
  | .loadmv d _ _ => some d
  | .store _ _ _ _ => none
  | .storemv _ _ _ => none
  | .app d _ _ _ _ _ => some d
  | .fzb d _ => some d
  | .copy d _ _ _ _ => some d
  | .call d _ _ _ _ _ => some d

/-- A guarded operation. -/
abbrev GOp := IOp × Option (Nat × Bool)

def skipU (i : IOp) : List (Key × AV) := match i.dst with
  | some d => [(.t d, .none)]
  | none => []

def EffG (P : Program) (s : S) (g : GOp) (U : List (Key × AV)) : Prop :=
  match g.2 with
  | none => EffR P s g.1 U
  | some (t, want) => match s (.t t) with
    | .pv (.bool b) => if b = want then EffR P s g.1 U else U = skipU g.1
    | .none => U = skipU g.1
    | _ => False

def wpI (P : Program) : List GOp → S → (S → Prop) → Prop
  | [], s, K => K s
  | g :: r, s, K => ∃ U, EffG P s g U ∧ wpI P r (s.ups U) K

theorem wpI_mono {P : Program} {K K' : S → Prop} (h : ∀ s, K s → K' s) : ∀ {l : List GOp} {s : S}, wpI P l s K → wpI P l s K' := by
  intro l
  induction l with
  | nil => intro s hk; exact h s hk
  | cons g r ih => intro s hk; obtain ⟨U, h1, h2⟩ := hk; exact ⟨U, h1, ih h2⟩

/-- Footprints: temps, sites (none: any). -/
structure FP where
  ts : List Nat
  ms : Option (List Nat)

def opdT : Opd → List Nat
  | .t n => [n]
  | .c _ => []
def opdsT (xs : List Opd) : List Nat := xs.flatMap opdT
def stM : Option Nat → Option (List Nat)
  | none => none
  | some x => some [x]

def IOp.reads : IOp → FP
  | .p _ _ xs => ⟨opdsT xs, some []⟩
  | .mv _ n => ⟨[n], some []⟩
  | .alloc _ _ => ⟨[], some []⟩
  | .box _ x => ⟨opdT x, some []⟩
  | .mks _ _ x => ⟨opdT x, some []⟩
  | .build _ _ ps => ⟨ps.flatMap fun p => opdT p.2.2, some []⟩
  | .bslice _ _ _ _ _ ps => ⟨ps.flatMap fun p => opdT p.2, some []⟩
  | .load _ _ st x => ⟨opdT x, stM st⟩
  | .loadmv _ st x => ⟨opdT x, stM st⟩
  | .store _ st x v => ⟨opdT x ++ opdT v, stM st⟩
  | .storemv st x n => ⟨opdT x ++ [n], stM st⟩
  | .app _ _ _ n st x => ⟨n :: opdT x, some st.toList⟩
  | .fzb _ n => ⟨[n], some []⟩
  | .copy _ v st x y => ⟨opdT x ++ opdT y, some (v :: st.toList)⟩
  | .call _ _ xs lent _ frz => ⟨opdsT xs, some (lent ++ frz)⟩
def IOp.writes : IOp → FP
  | .p d _ _ => ⟨[d], some []⟩
  | .mv d n => ⟨[d, n], some []⟩
  | .alloc d _ => ⟨[d], some [d]⟩
  | .box d _ => ⟨[d], some [d]⟩
  | .mks d _ _ => ⟨[d], some [d]⟩
  | .build d _ _ => ⟨[d], some []⟩
  | .bslice d _ _ _ _ _ => ⟨[d], some []⟩
  | .load d _ _ _ => ⟨[d], some []⟩
  | .loadmv d st _ => ⟨[d], stM st⟩
  | .store _ st _ _ => ⟨[], stM st⟩
  | .storemv st _ n => ⟨[n], stM st⟩
  | .app d _ _ n _ _ => ⟨[d, n], some []⟩
  | .fzb d n => ⟨[d, n], some []⟩
  | .copy d v _ _ _ => ⟨[d], some [v]⟩
  | .call d _ _ lent news _ => ⟨[d], some (lent ++ news)⟩
def GOp.reads (g : GOp) : FP := ⟨(g.2.map (·.1)).toList ++ g.1.reads.ts, g.1.reads.ms⟩

def FP.has (f : FP) : Key → Prop
  | .t n => n ∈ f.ts
  | .m x => match f.ms with
    | none => True
    | some l => x ∈ l
def disjM : Option (List Nat) → Option (List Nat) → Bool
  | some l, some l' => l.all fun x => !l'.contains x
  | none, some l => l.isEmpty
  | some l, none => l.isEmpty
  | none, none => false
def FP.disj (f g : FP) : Bool := (f.ts.all fun x => !g.ts.contains x) && disjM f.ms g.ms
def indep (g h : GOp) : Bool := g.1.writes.disj h.reads && g.1.writes.disj h.1.writes && h.1.writes.disj g.reads

theorem disj_spec {f g : FP} (h : f.disj g = true) {k : Key} (h1 : f.has k) (h2 : g.has k) : False := by
  simp only [FP.disj, Bool.and_eq_true, List.all_eq_true, Bool.not_eq_true', List.contains_eq_mem, decide_eq_false_iff_not] at h
  obtain ⟨ht, hm⟩ := h
  cases k with
  | t n => exact ht n h1 h2
  | m x =>
    simp only [FP.has] at h1 h2
    cases hf : f.ms with
    | none => cases hg : g.ms with
      | none => simp [disjM, hf, hg] at hm
      | some l => simp [disjM, hf, hg] at hm; subst hm; rw [hg] at h2; simp at h2
    | some l => cases hg : g.ms with
      | none => simp [disjM, hf, hg] at hm; subst hm; rw [hf] at h1; simp at h1
      | some l' =>
        simp only [disjM, hf, hg, List.all_eq_true, Bool.not_eq_true', List.contains_eq_mem, decide_eq_false_iff_not] at hm
        rw [hf] at h1
        rw [hg] at h2
        exact hm x h1 h2

section
variable {P : Program} {s s' : S}

theorem ev_congr {x : Opd} (h : ∀ n ∈ opdT x, s' (.t n) = s (.t n)) : ev s' x = ev s x := by
  cases x with
  | t n => exact h n (by simp [opdT])
  | c v => rfl
theorem evs_congr {xs : List Opd} (h : ∀ n ∈ opdsT xs, s' (.t n) = s (.t n)) : (xs.map fun x => (ev s' x).dem2) = xs.map fun x => (ev s x).dem2 := by
  apply List.map_congr_left
  intro x hx
  rw [ev_congr fun n hn => h n (List.mem_flatMap.2 ⟨x, hx, hn⟩)]

theorem evds_congr {xs : List Opd} (h : ∀ n ∈ opdsT xs, s' (.t n) = s (.t n)) : (xs.map (evd s')) = xs.map (evd s) := by
  apply List.map_congr_left
  intro x hx
  cases x with
  | c v => rfl
  | t n => simp only [evd]; rw [h n (List.mem_flatMap.2 ⟨_, hx, by simp [opdT]⟩)]
theorem fillA_congr : ∀ {ps : List (Nat × Nat × Opd)} {z : AV}, (∀ n ∈ ps.flatMap (fun p => opdT p.2.2), s' (.t n) = s (.t n)) → fillA s' z ps = fillA s z ps := by
  intro ps
  induction ps with
  | nil => intro z _; rfl
  | cons p r ih =>
    intro z h
    obtain ⟨o, n, x⟩ := p
    have e1 : ev s' x = ev s x := ev_congr fun n hn => h n (by simp [hn])
    simp only [fillA, e1]
    split
    · rw [ih fun n hn => h n (by rw [List.flatMap_cons]; exact List.mem_append_right _ hn)]
    · rfl
theorem fillR_congr {sz : Nat} : ∀ {ps : List (Nat × Opd)} {z : List (List PV)}, (∀ n ∈ ps.flatMap (fun p => opdT p.2), s' (.t n) = s (.t n)) → fillR s' sz z ps = fillR s sz z ps := by
  intro ps
  induction ps with
  | nil => intro z _; rfl
  | cons p r ih =>
    intro z h
    obtain ⟨o, x⟩ := p
    have e1 : ev s' x = ev s x := ev_congr fun n hn => h n (by simp [hn])
    simp only [fillR, e1]
    split
    · rw [ih fun n hn => h n (by rw [List.flatMap_cons]; exact List.mem_append_right _ hn)]
    · rfl

theorem stOk_some {st : Option Nat} {y : Nat} (h : stOk st y = true) {fpm : FP} (hm : fpm.ms = stM st) : fpm.has (.m y) := by
  simp only [FP.has, hm]
  cases st with
  | none => trivial
  | some x => simp [stOk] at h; subst h; simp [stM]

theorem argA_congr {lent frz : List Nat} {x : Opd} (h : ∀ n ∈ opdT x, s' (.t n) = s (.t n)) (hm : ∀ y ∈ frz, s' (.m y) = s (.m y)) : argA s' lent frz x = argA s lent frz x := by
  unfold argA
  rw [ev_congr h]
  split
  · rename_i y o n sz _
    by_cases hy : y ∈ frz ∧ sz = 1
    · rw [if_pos hy, if_pos hy, hm y hy.1]
    · rw [if_neg hy, if_neg hy]
  · rfl
  · rfl
theorem argsA_congr {lent frz : List Nat} : ∀ {xs : List Opd}, (∀ n ∈ opdsT xs, s' (.t n) = s (.t n)) → (∀ y ∈ frz, s' (.m y) = s (.m y)) → argsA s' lent frz xs = argsA s lent frz xs := by
  intro xs
  induction xs with
  | nil => intro _ _; rfl
  | cons x r ih =>
    intro h hm
    simp only [argsA]
    rw [argA_congr (fun n hn => h n (by simp [opdsT, hn])) hm, ih (fun n hn => h n (by simp [opdsT] at hn ⊢; exact Or.inr hn)) hm]

theorem eff_congr {i : IOp} {x : Prop × List (Key × AV)} (h : ∀ k, i.reads.has k → s' k = s k) (he : eff s i = some x) : eff s' i = some x := by
  cases i with
  | p d o xs =>
    have e1 := evds_congr (xs := xs) (s := s) (s' := s') fun n hn => h (.t n) hn
    simp only [eff] at he ⊢
    rw [e1]
    exact he
  | mv d n =>
    have e1 : s' (.t n) = s (.t n) := h (.t n) (by simp [IOp.reads, FP.has])
    simp only [eff] at he ⊢
    rw [e1]; exact he
  | alloc d z => exact he
  | box d y =>
    simp only [eff] at he ⊢
    rw [ev_congr fun n hn => h (.t n) hn]
    exact he
  | mks d z y =>
    simp only [eff] at he ⊢
    rw [ev_congr fun n hn => h (.t n) hn]
    exact he
  | build d z ps =>
    simp only [eff] at he ⊢
    rw [fillA_congr fun n hn => h (.t n) hn]
    exact he
  | bslice d e sz n z ps =>
    simp only [eff] at he ⊢
    rw [fillR_congr fun n hn => h (.t n) hn]
    exact he
  | load d n st y =>
    simp only [eff] at he ⊢
    rw [ev_congr fun n hn => h (.t n) hn]
    split at he
    · rename_i yy oo hev
      split at he
      · rename_i hst
        rw [if_pos hst, h (.m yy) (stOk_some hst rfl)]
        exact he
      · cases he
    · exact he
    · cases he
  | loadmv d st y =>
    simp only [eff] at he ⊢
    rw [ev_congr fun n hn => h (.t n) hn]
    split at he
    · rename_i yy oo hev
      split at he
      · rename_i hst
        rw [if_pos hst, h (.m yy) (stOk_some hst rfl)]
        exact he
      · cases he
    · cases he
  | store n st y v =>
    simp only [eff] at he ⊢
    rw [ev_congr fun n hn => h (.t n) (List.mem_append_left _ hn), ev_congr (x := v) fun n hn => h (.t n) (List.mem_append_right _ hn)]
    split at he
    · rename_i yy oo hev
      split at he
      · rename_i hst
        rw [if_pos hst, h (.m yy) (stOk_some hst rfl)]
        exact he
      · cases he
    · cases he
  | storemv st y n =>
    simp only [eff] at he ⊢
    rw [ev_congr fun n hn => h (.t n) (List.mem_append_left _ hn), h (.t n) (by simp [IOp.reads, FP.has])]
    split at he
    · rename_i yy oo hev
      split at he
      · rename_i hst
        rw [if_pos hst, h (.m yy) (stOk_some hst rfl)]
        exact he
      · cases he
    · cases he
  | app d e sz n st y =>
    simp only [eff] at he ⊢
    rw [ev_congr (x := y) fun n hn => h (.t n) (List.mem_cons_of_mem _ hn), h (.t n) (by simp [IOp.reads, FP.has])]
    have e2 : rowsA s' st (ev s y) = rowsA s st (ev s y) := by
      unfold rowsA
      split
      · rfl
      · rfl
      · rename_i yy oo n2 sz2 _
        by_cases hst : sz2 = 1 ∧ st = some yy
        · rw [if_pos hst, if_pos hst, h (.m yy) (by simp [IOp.reads, FP.has, hst.2])]
        · rw [if_neg hst, if_neg hst]
      · rfl
    rw [e2]
    exact he
  | fzb d n =>
    simp only [eff] at he ⊢
    rw [h (.t n) (by simp [IOp.reads, FP.has])]
    exact he
  | copy d v st x y =>
    simp only [eff] at he ⊢
    rw [ev_congr (x := x) fun n hn => h (.t n) (List.mem_append_left _ hn), ev_congr (x := y) fun n hn => h (.t n) (List.mem_append_right _ hn), h (.m v) (by simp [IOp.reads, FP.has])]
    have e2 : rowsA s' st (ev s y) = rowsA s st (ev s y) := by
      unfold rowsA
      split
      · rfl
      · rfl
      · rename_i yy oo n2 sz2 _
        by_cases hst : sz2 = 1 ∧ st = some yy
        · rw [if_pos hst, if_pos hst, h (.m yy) (by simp [IOp.reads, FP.has, hst.2])]
        · rw [if_neg hst, if_neg hst]
      · rfl
    rw [e2]
    exact he
  | call d f xs lent news frz => exact he

theorem EffR_congr {i : IOp} {U : List (Key × AV)} (h : ∀ k, i.reads.has k → s' k = s k) (he : EffR P s i U) : EffR P s' i U := by
  cases i
  case call d f xs lent news frz =>
    obtain ⟨c, args, r, lent', newc, h1, h2, h3, h4, h5⟩ := he
    have hl : ∀ y ∈ lent, s' (.m y) = s (.m y) := fun y hy => h (.m y) (List.mem_append_left _ hy)
    refine ⟨c, args, r, lent', newc, ?_, h2, fun y hy => by rw [hl y hy]; exact h3 y hy, ?_, h5⟩
    · rw [argsA_congr (fun n hn => h (.t n) hn) (fun y hy => h (.m y) (List.mem_append_right _ hy))]
      exact h1
    · rw [List.map_congr_left (g := fun y => ren1 (fun x => (lent.idxOf? x).map (1000 + ·)) (s (.m y))) fun y hy => by rw [hl y hy]]
      exact h4
  all_goals
    obtain ⟨c, h1, h2⟩ := he
    exact ⟨c, eff_congr h h1, h2⟩

theorem EffG_congr {g : GOp} {U : List (Key × AV)} (h : ∀ k, g.reads.has k → s' k = s k) (he : EffG P s g U) : EffG P s' g U := by
  have hr : ∀ k, g.1.reads.has k → s' k = s k := fun k hk => h k (by
    cases k with
    | t n => exact List.mem_append_right _ hk
    | m x => exact hk)
  unfold EffG at he ⊢
  split at he
  · exact EffR_congr hr he
  · rename_i t want hg
    rw [h (.t t) (by simp [GOp.reads, FP.has, hg])]
    split at he
    · rename_i b hb
      split at he
      · rename_i hw
        rw [if_pos hw]
        exact EffR_congr hr he
      · rename_i hw
        rw [if_neg hw]
        exact he
    · exact he
    · exact he.elim

theorem mem_zip_map {α : Type} {l : List Nat} {l' : List α} {f : Nat × α → Key × AV} (hf : ∀ p, (f p).1 = .m p.1) {k : Key} {v : AV} (h : (k, v) ∈ (l.zip l').map f) : ∃ y ∈ l, k = .m y := by
  obtain ⟨p, hp, e⟩ := List.mem_map.1 h
  have := hf p
  rw [e] at this
  exact ⟨p.1, (List.of_mem_zip hp).1, this⟩

theorem EffR_writes {i : IOp} {U : List (Key × AV)} (he : EffR P s i U) {k : Key} {v : AV} (hk : (k, v) ∈ U) : i.writes.has k := by
  cases i
  case call d f xs lent news frz =>
    obtain ⟨c, args, r, lent', newc, _, _, _, _, _, _, _, _, _, rfl⟩ := he
    rcases List.mem_append.1 hk with hk | hk
    · rcases List.mem_cons.1 hk with hk | hk
      · cases hk; simp [IOp.writes, FP.has]
      · obtain ⟨y, hy, rfl⟩ := mem_zip_map (by intro p; rfl) hk
        exact List.mem_append_left _ hy
    · obtain ⟨y, hy, rfl⟩ := mem_zip_map (by intro p; rfl) hk
      exact List.mem_append_right _ hy
  all_goals
    obtain ⟨c, he, _⟩ := he
    simp only [eff] at he
    repeat' split at he
    all_goals first
      | (cases he; done)
      | (simp only [Option.some.injEq, Prod.mk.injEq] at he
         obtain ⟨_, rfl⟩ := he
         simp only [List.mem_cons, Prod.mk.injEq, List.not_mem_nil, or_false] at hk
         first
           | (rcases hk with ⟨rfl, _⟩ | ⟨rfl, _⟩ <;> first | (simp [IOp.writes, FP.has]; done) | (exact stOk_some (by assumption) rfl))
           | (obtain ⟨rfl, _⟩ := hk; first | (simp [IOp.writes, FP.has]; done) | (exact stOk_some (by assumption) rfl)))

theorem EffG_writes {g : GOp} {U : List (Key × AV)} (he : EffG P s g U) {k : Key} {v : AV} (hk : (k, v) ∈ U) : g.1.writes.has k := by
  have hs : U = skipU g.1 → g.1.writes.has k := fun e => by
    subst e
    obtain ⟨i, gg⟩ := g
    unfold skipU at hk
    cases i <;> simp [IOp.dst] at hk <;> obtain ⟨rfl, _⟩ := hk <;> simp [IOp.writes, FP.has]
  unfold EffG at he
  split at he
  · exact EffR_writes he hk
  · split at he
    · split at he
      · exact EffR_writes he hk
      · exact hs he
    · exact hs he
    · exact he.elim

theorem ups_other {U : List (Key × AV)} : ∀ {s : S} {k : Key}, (∀ v, (k, v) ∉ U) → s.ups U k = s k := by
  induction U with
  | nil => intro s k _; rfl
  | cons p r ih =>
    intro s k h
    obtain ⟨k', v'⟩ := p
    simp only [S.ups]
    rw [ih fun v hv => h v (by simp [hv]), S.up_other]
    rintro rfl
    exact h v' (by simp)
theorem ups_congr {U : List (Key × AV)} : ∀ {s s' : S} {k : Key}, (∃ v, (k, v) ∈ U) ∨ s k = s' k → s.ups U k = s'.ups U k := by
  induction U with
  | nil => intro s s' k h; rcases h with ⟨v, hv⟩ | h; · simp at hv
           · exact h
  | cons p r ih =>
    intro s s' k h
    obtain ⟨k', v'⟩ := p
    simp only [S.ups]
    apply ih
    by_cases hk : k = k'
    · subst hk; right; rw [S.up_same, S.up_same]
    · rcases h with ⟨v, hv⟩ | h
      · rcases List.mem_cons.1 hv with hv | hv
        · cases hv; exact absurd rfl hk
        · exact Or.inl ⟨v, hv⟩
      · right; rw [S.up_other _ _ hk, S.up_other _ _ hk]; exact h
theorem ups_comm {U V : List (Key × AV)} {s : S} (h : ∀ k v v', (k, v) ∈ U → (k, v') ∈ V → False) : (s.ups U).ups V = (s.ups V).ups U := by
  funext k
  by_cases hV : ∃ v, (k, v) ∈ V
  · have hU : ∀ v, (k, v) ∉ U := fun v hv => by obtain ⟨v', hv'⟩ := hV; exact h k v v' hv hv'
    rw [ups_other (s := s.ups V) hU]
    exact ups_congr (Or.inl hV)
  · have hV' : ∀ v, (k, v) ∉ V := fun v hv => hV ⟨v, hv⟩
    rw [ups_other (s := s.ups U) hV']
    by_cases hU : ∃ v, (k, v) ∈ U
    · exact ups_congr (Or.inl hU)
    · have hU' : ∀ v, (k, v) ∉ U := fun v hv => hU ⟨v, hv⟩
      rw [ups_other hU', ups_other hU', ups_other hV']

/-- An operation that is independent of all ahead of it may go first. -/
theorem wpI_front {K : S → Prop} {g : GOp} {post : List GOp} : ∀ {pre : List GOp} {s : S}, (∀ h ∈ pre, indep h g = true) → wpI P (pre ++ g :: post) s K → wpI P (g :: (pre ++ post)) s K := by
  intro pre
  induction pre with
  | nil => intro s _ h; exact h
  | cons h0 pre ih =>
    intro s hi h
    obtain ⟨V, hV, h⟩ := h
    obtain ⟨U, hU, h⟩ := ih (fun q hq => hi q (by simp [hq])) h
    have hind := hi h0 (by simp)
    simp only [indep, Bool.and_eq_true] at hind
    obtain ⟨⟨h1, h2⟩, h3⟩ := hind
    have wV : ∀ k v, (k, v) ∈ V → h0.1.writes.has k := fun k v hk => EffG_writes hV hk
    have wU : ∀ k v, (k, v) ∈ U → g.1.writes.has k := fun k v hk => EffG_writes hU hk
    refine ⟨U, EffG_congr (s := s.ups V) (fun k hk => ?_) hU, V, EffG_congr (s := s) (fun k hk => ?_) hV, ?_⟩
    · exact (ups_other fun v hv => disj_spec h1 (wV k v hv) hk).symm
    · exact ups_other fun v hv => disj_spec h3 (wU k v hv) hk
    · rw [← ups_comm fun k v v' hv hu => disj_spec h2 (wV k v hv) (wU k v' hu)]
      exact h
end
end Go.Abs
