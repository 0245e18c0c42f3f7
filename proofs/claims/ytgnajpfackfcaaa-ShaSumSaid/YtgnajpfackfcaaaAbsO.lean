/- The abstract machine: a call of a function whose contract is known is sound. No condition. -/
import Derived.Test.YtgnajpfackfcaaaAbsN
set_option linter.unusedVariables false
set_option linter.unusedSimpArgs false
namespace Go.Abs
open Go.RowKit

/-- What an operation leaves, whatever it draws. -/
def NxtW (P : Program) (X : Ctx) (G : Gh) (o : Oper) (a : Act) (w : World) (s' : S) (mk : List Nat) : Prop :=
  ∀ (K : Act → World → Prop) (Q : Exit → Act → World → Prop),
    (∀ a' w' G', Rel X G' s' a' w' → a'.tmps.size = a.tmps.size → (∀ x, x ∉ mk → G'.site x = G.site x) → K a' w') → o.wp P a w K Q

theorem Nxt.W {P : Program} {X : Ctx} {G : Gh} {o : Oper} {a : Act} {w : World} {s' : S} {mk : List Nat} (h : Nxt P X G o a w s' mk) : NxtW P X G o a w s' mk := by
  intro K Q hK
  obtain ⟨a', w', G', h1, h2, h3, h4⟩ := h
  exact h1 K Q (hK a' w' G' h2 h3 h4)

def okCall (P : Program) (N : Nat) (d f : Nat) (xs : List Opd) (lent news frz : List Nat) (o : Oper) : Bool :=
  okDst N d o && (match o.op with
    | .call c => (match c.callee with
      | .value (.func g) => g == f && okXs xs c.args.toList && (match P.funcs[f]? with
        | some fn => fn.body.isSome && fn.name != "runtime.NumGoroutine"
        | none => false) && decide (lent ++ news).Nodup && decide (lent.length ≤ 1000) && (frz.all fun y => !lent.contains y)
      | _ => false)
    | _ => false)

theorem ups_mem {U : List (Key × AV)} : ∀ {s : S} {k : Key} {v : AV}, (U.map Prod.fst).Nodup → (k, v) ∈ U → s.ups U k = v := by
  induction U with
  | nil => intro s k v _ h; simp at h
  | cons p r ih =>
    intro s k v hn h
    obtain ⟨k', v'⟩ := p
    simp only [List.map_cons, List.nodup_cons] at hn
    simp only [S.ups]
    rcases List.mem_cons.1 h with h | h
    · cases h
      rw [ups_other fun u hu => hn.1 (List.mem_map.2 ⟨_, hu, rfl⟩), S.up_same]
    · exact ih hn.2 h

theorem zip_fst {l : List Nat} {l' : List AV} {f : Nat × AV → Key × AV} (hf : ∀ p, (f p).1 = .m p.1) (h : l'.length = l.length) : ((l.zip l').map f).map Prod.fst = l.map Key.m := by
  rw [List.map_map]
  have : (Prod.fst ∘ f) = fun p => Key.m p.1 := by funext p; exact hf p
  rw [this]
  have e : (fun p : Nat × AV => Key.m p.1) = Key.m ∘ Prod.fst := rfl
  rw [e, ← List.map_map, List.map_fst_zip (by omega)]

section
variable {P : Program} {X : Ctx} {G : Gh} {s : S} {a : Act} {w : World} {o : Oper} {U : List (Key × AV)} {N : Nat}

def inF (lent : List Nat) (x : Nat) : Option Nat := (lent.idxOf? x).map (1000 + ·)

/-- What the callee is given to know. -/
def cGh (G : Gh) (lent : List Nat) : Gh :=
  ⟨fun x => if 1000 ≤ x then (lent[x - 1000]?).bind G.site else none,
   fun k j => match k with
    | .t _ => none
    | .m x => if 1000 ≤ x then (match lent[x - 1000]? with
      | some y => G.own (.m y) j
      | none => none) else none⟩
def cCtx (X : Ctx) (G : Gh) (w : World) (lent frz : List Nat) : Ctx :=
  ⟨w, fun b o => b < w.heap.size ∧ (fp X G b o ∨ ∃ y ∈ frz, G.site y = some b), fun b => ∃ y ∈ lent, G.site y = some b ∨ ∃ j e, G.own (.m y) j = some (b, e)⟩

theorem cGh_site {lent : List Nat} {x b : Nat} (h : (cGh G lent).site x = some b) : ∃ y, 1000 ≤ x ∧ lent[x - 1000]? = some y ∧ G.site y = some b := by
  simp only [cGh] at h
  split at h
  · rename_i hx
    obtain ⟨y, h1, h2⟩ := Option.bind_eq_some_iff.1 h
    exact ⟨y, hx, h1, h2⟩
  · cases h
theorem cGh_own {lent : List Nat} {k : Key} {j b e : Nat} (h : (cGh G lent).own k j = some (b, e)) : ∃ x y, k = .m x ∧ 1000 ≤ x ∧ lent[x - 1000]? = some y ∧ G.own (.m y) j = some (b, e) := by
  simp only [cGh] at h
  split at h
  · cases h
  · rename_i x
    split at h
    · rename_i hx
      split at h
      · rename_i y hy
        exact ⟨x, y, rfl, hx, hy, h⟩
      · cases h
    · cases h

theorem nodup_get {l : List Nat} (h : l.Nodup) {i j x : Nat} (hi : l[i]? = some x) (hj : l[j]? = some x) : i = j := by
  induction l generalizing i j with
  | nil => simp at hi
  | cons y r ih =>
    rw [List.nodup_cons] at h
    cases i with
    | zero =>
      simp at hi
      subst hi
      cases j with
      | zero => rfl
      | succ j => exact absurd (List.mem_of_getElem? (by simpa using hj)) h.1
    | succ i =>
      cases j with
      | zero =>
        simp at hj
        subst hj
        exact absurd (List.mem_of_getElem? (by simpa using hi)) h.1
      | succ j => exact congrArg (· + 1) (ih h.2 (by simpa using hi) (by simpa using hj))

/-- What the callee knows of its arguments. -/
theorem call_in (hR : Rel X G s a w) {lent frz : List Nat} (hnd : lent.Nodup) (hfr : ∀ y ∈ frz, y ∉ lent) {args : List AV} {vals : Array Value} (hsz : vals.size = args.length)
    (hv : ∀ (i : Nat) v av, vals[i]? = some v → args[i]? = some av → V2 (fp (cCtx X G w lent frz) (cGh G lent)) (cGh G lent).site w v av) (hagg : ∀ y ∈ lent, (s (.m y)).isAgg) :
    Rel (cCtx X G w lent frz) (cGh G lent) (sinOf args (lent.map fun y => ren1 (inF lent) (s (.m y)))) ⟨vals, []⟩ w := by
  have hsafe : ∀ b oo, (cCtx X G w lent frz).ok b oo → (cGh G lent).safe b oo := fun b oo hok => by
    obtain ⟨hb, hok⟩ := hok
    refine ⟨fun x hx => ?_, fun k j e he => ?_⟩
    · obtain ⟨y, _, h1, h2⟩ := cGh_site hx
      rcases hok with hok | ⟨z, hz, hzb⟩
      · exact hok.2.1 y h2
      · have := hR.siteI _ _ _ hzb h2
        subst this
        exact hfr _ hz (List.mem_of_getElem? h1)
    · obtain ⟨x, y, _, _, h1, h2⟩ := cGh_own he
      rcases hok with hok | ⟨z, hz, hzb⟩
      · exact hok.2.2 _ _ _ h2
      · exact absurd hzb (hR.ownS _ _ _ _ _ h2)
  have hfp : ∀ b oo v, fp X G b oo → w.cell? ⟨b, oo, none⟩ = some v → fp (cCtx X G w lent frz) (cGh G lent) b oo := fun b oo v hf hc => by
    have hb := (cell_alloc (ob := .chan 0 #[] false 0 0 false) hc).2
    exact ⟨Or.inl ⟨hb, Or.inl hf⟩, hsafe b oo ⟨hb, Or.inl hf⟩⟩
  have hsite : ∀ x y b, inF lent x = some y → G.site x = some b → (cGh G lent).site y = some b := fun x y b hx hb => by
    unfold inF at hx
    rw [Option.map_eq_some_iff] at hx
    obtain ⟨k, hk, rfl⟩ := hx
    have := idx_back hk
    simp only [cGh]
    rw [if_pos (by omega), show 1000 + k - 1000 = k by omega, this]
    exact hb
  refine ⟨fun t => ?_, fun x => ?_, fun k j k' j' b e e' h1 h2 => ?_, fun k j b e x h1 h2 => ?_, fun x y b h1 h2 => ?_, fun x b h1 => ?_, fun k j b e h1 => ?_, hsafe, fun b oo h => h.1, ⟨rfl, rfl, rfl, Nat.le_refl _, fun _ _ _ => rfl, fun _ _ _ => rfl⟩, rfl⟩
  · have e1 : (cGh G lent).own (.t t) = fun _ => none := by funext j; rfl
    rw [e1]
    simp only [sinOf, List.getD_eq_getElem?_getD]
    cases ha : args[t]? with
    | none => exact VR2.undef _
    | some av =>
      have ht : t < vals.size := by rw [hsz]; exact (List.getElem?_eq_some_iff.1 ha).1
      have q : VR2 (fp (cCtx X G w lent frz) (cGh G lent)) (cGh G lent).site w vals[t] av (fun _ => none) := hv t vals[t] av (Array.getElem?_eq_getElem ht) ha
      simpa [Array.getD, ht] using q
  · simp only [sinOf]
    by_cases hx : 1000 ≤ x
    · rw [if_pos hx, List.getD_eq_getElem?_getD, List.getElem?_map]
      cases hl : lent[x - 1000]? with
      | none =>
        have e1 : (cGh G lent).own (.m x) = fun _ => none := by funext j; simp [cGh, hx, hl]
        rw [e1]
        exact fun _ => rfl
      | some y =>
        have e1 : (cGh G lent).own (.m x) = G.own (.m y) := by funext j; simp [cGh, hx, hl]
        have e2 : (cGh G lent).site x = G.site y := by simp [cGh, hx, hl]
        rw [e1, e2]
        simp only [Option.map_some, Option.getD_some]
        have hy := hagg y (List.mem_of_getElem? hl)
        have hm := hR.mem y
        generalize s (.m y) = z at hy hm
        cases z <;> simp only [AV.isAgg] at hy
        all_goals
          obtain ⟨b, cs, e, h1, h2, h3, _⟩ := hm
          exact ⟨b, cs, e, h1, h2, VR1.ren hfp hsite h3, trivial⟩
    · rw [if_neg hx]
      intro j
      simp [cGh, hx]
  · obtain ⟨x, y, rfl, hx, hxy, g1⟩ := cGh_own h1
    obtain ⟨x', y', rfl, hx', hxy', g2⟩ := cGh_own h2
    obtain ⟨e1, rfl⟩ := hR.ownI _ _ _ _ _ _ _ g1 g2
    cases e1
    have := nodup_get hnd hxy hxy'
    exact ⟨by rw [show x = x' by omega], rfl⟩
  · obtain ⟨z, y, rfl, hx, hxy, g1⟩ := cGh_own h1
    obtain ⟨y', _, _, g2⟩ := cGh_site h2
    exact hR.ownS _ _ _ _ _ g1 g2
  · obtain ⟨z, hx, q1, g1⟩ := cGh_site h1
    obtain ⟨z', hy, q2, g2⟩ := cGh_site h2
    have := hR.siteI _ _ _ g1 g2
    subst this
    have := nodup_get hnd q1 q2
    omega
  · obtain ⟨z, hx, q1, g1⟩ := cGh_site h1
    exact ⟨(hR.siteF z b g1).1, Or.inr ⟨⟨z, List.mem_of_getElem? q1, Or.inl g1⟩, hx⟩⟩
  · obtain ⟨z, y, rfl, hx, hxy, g1⟩ := cGh_own h1
    exact ⟨(hR.ownF _ _ _ _ g1).1, Or.inr ⟨y, List.mem_of_getElem? hxy, Or.inr ⟨_, _, g1⟩⟩⟩

/-- What is owned behind the call. -/
def rOwn (G G' : Gh) (d : Nat) (lent news : List Nat) : Key → Nat → Option (Nat × Nat) := fun k j => match k with
  | .t i => if i = d then G'.own (.t 0) j else G.own (.t i) j
  | .m x => match lent.idxOf? x with
    | some k => G'.own (.m (1000 + k)) j
    | none => match news.idxOf? x with
      | some k => G'.own (.m (2000 + k)) j
      | none => G.own (.m x) j
def rSite (G G' : Gh) (news : List Nat) : Nat → Option Nat := fun x => match news.idxOf? x with
  | some k => G'.site (2000 + k)
  | none => G.site x

theorem idx_of {l : List Nat} (h : l.Nodup) {k x : Nat} (hk : l[k]? = some x) : l.idxOf? x = some k := by
  cases hi : l.idxOf? x with
  | none =>
    rw [List.idxOf?_eq_none_iff] at hi
    exact absurd (List.mem_of_getElem? hk) hi
  | some k' => rw [nodup_get h (idx_back hi) hk]
theorem idx_none {l : List Nat} {x : Nat} (h : x ∉ l) : l.idxOf? x = none := List.idxOf?_eq_none_iff.2 h

/-- What the caller knows behind the call. -/
theorem call_out (hR : Rel X G s a w) {d : Nat} (hd : d < a.tmps.size) {lent news frz : List Nat} (hnd : (lent ++ news).Nodup) (hfr : ∀ y ∈ frz, y ∉ lent) (hfree : ∀ x ∈ news, G.site x = none)
    (hls : ∀ y ∈ lent, ∃ b, G.site y = some b)
    {r : AV} {lent' newc : List AV} (hl1 : lent'.length = lent.length) (hl2 : newc.length = news.length) (hg1 : ∀ a ∈ lent', a.isAgg) (hg2 : ∀ a ∈ newc, a.isAgg) (hflat : frz = [] ∨ (r.flat ∧ (∀ a ∈ lent', a.flat0) ∧ ∀ a ∈ newc, a.flat0))
    {G' : Gh} {v : Value} {w' : World} (hR' : Rel (cCtx X G w lent frz) G' (soutOf r lent' newc) ⟨#[v], []⟩ w') (hs1 : ∀ x, x < 2000 → 1000 ≤ x → G'.site x = (cGh G lent).site x) (hs2 : ∀ x b, 2000 ≤ x → G'.site x = some b → w.heap.size ≤ b)
    (hsmall : lent.length ≤ 1000) :
    Rel X ⟨rSite G G' news, rOwn G G' d lent news⟩ (s.ups ((.t d, ren2 (backF lent news) r) :: ((lent.zip lent').map fun (y, a) => (Key.m y, ren1 (backF lent news) a)) ++ ((news.zip newc).map fun (y, a) => (Key.m y, ren1 (backF lent news) a)))) (a.put (some d) v) w' := by
  have hndl : lent.Nodup := (List.nodup_append.1 hnd).1
  have hndn : news.Nodup := (List.nodup_append.1 hnd).2.1
  have hdis : ∀ x, x ∈ lent → x ∈ news → False := fun x h1 h2 => (List.nodup_append.1 hnd).2.2 x h1 x h2 rfl
  have hws : w.heap.size ≤ w'.heap.size := hR'.fr.size
  -- the lent variables lie where they lay
  have hls1 : ∀ k y b, lent[k]? = some y → (G'.site (1000 + k) = some b ↔ G.site y = some b) := fun k y b hk => by
    have hkl := (List.getElem?_eq_some_iff.1 hk).1
    rw [hs1 _ (by omega) (by omega)]
    simp only [cGh]
    rw [if_pos (by omega), show 1000 + k - 1000 = k by omega, hk]
    rfl
  -- what is owned
  have hrow : ∀ k j b e, rOwn G G' d lent news k j = some (b, e) →
      (G.own k j = some (b, e) ∧ (∀ y ∈ lent, k ≠ .m y) ∧ (∀ y ∈ news, k ≠ .m y) ∧ k ≠ .t d) ∨
      (∃ k', G'.own k' j = some (b, e) ∧ ((k = .t d ∧ k' = .t 0) ∨ (∃ i y, lent[i]? = some y ∧ k = .m y ∧ k' = .m (1000 + i)) ∨ (∃ i y, news[i]? = some y ∧ k = .m y ∧ k' = .m (2000 + i)))) := fun k j b e h => by
    cases k with
    | t i =>
      simp only [rOwn] at h
      split at h
      · rename_i hi; subst hi; exact Or.inr ⟨_, h, Or.inl ⟨rfl, rfl⟩⟩
      · rename_i hi; exact Or.inl ⟨h, by simp, by simp, by simpa using hi⟩
    | m x =>
      simp only [rOwn] at h
      split at h
      · rename_i i hi; exact Or.inr ⟨_, h, Or.inr (Or.inl ⟨i, x, idx_back hi, rfl, rfl⟩)⟩
      · rename_i hi
        split at h
        · rename_i i hj; exact Or.inr ⟨_, h, Or.inr (Or.inr ⟨i, x, idx_back hj, rfl, rfl⟩)⟩
        · rename_i hj
          rw [List.idxOf?_eq_none_iff] at hi hj
          exact Or.inl ⟨h, fun y hy e => hi (by cases e; exact hy), fun y hy e => hj (by cases e; exact hy), by simp⟩
  have hsite : ∀ x b, rSite G G' news x = some b → (x ∉ news ∧ G.site x = some b) ∨ (∃ k, news[k]? = some x ∧ G'.site (2000 + k) = some b ∧ w.heap.size ≤ b) := fun x b h => by
    simp only [rSite] at h
    split at h
    · rename_i k hk; exact Or.inr ⟨k, idx_back hk, h, hs2 _ _ (by omega) h⟩
    · rename_i hk; rw [List.idxOf?_eq_none_iff] at hk; exact Or.inl ⟨hk, h⟩
  have hlentL : ∀ {k j b e}, G'.own k j = some (b, e) → b < w.heap.size → (∃ y ∈ lent, G.site y = some b) ∨ ∃ y ∈ lent, ∃ j e, G.own (.m y) j = some (b, e) := fun ho hb => by
    rcases (hR'.ownF _ _ _ _ ho).2 with q | ⟨y, hy, q | q⟩
    · exact absurd hb (Nat.not_lt_of_le q)
    · exact Or.inl ⟨y, hy, q⟩
    · exact Or.inr ⟨y, hy, q⟩
  have hnoLs : ∀ {k j b e}, G'.own k j = some (b, e) → ∀ y ∈ lent, G.site y ≠ some b := fun ho y hy hb => by
    obtain ⟨i, hi⟩ := List.getElem?_of_mem hy
    exact hR'.ownS _ _ _ _ _ ho ((hls1 i y _ hi).2 hb)
  -- the old safe cells stay safe
  have hsafe1 : ∀ b oo, b < w.heap.size → G.safe b oo → (cCtx X G w lent frz).ok b oo → Gh.safe ⟨rSite G G' news, rOwn G G' d lent news⟩ b oo := fun b oo hb hs hok => by
    have hs' := hR'.okS b oo hok
    refine ⟨fun x hx => ?_, fun k j e he => ?_⟩
    · rcases hsite x b hx with ⟨_, q⟩ | ⟨_, _, _, q⟩
      · exact hs.1 x q
      · omega
    · rcases hrow k j b e he with ⟨q, _⟩ | ⟨k', q, _⟩
      · exact hs.2 _ _ _ q
      · exact hs'.2 _ _ _ q
  have hfp1 : ∀ b oo v, fp X G b oo → w.cell? ⟨b, oo, none⟩ = some v → fp X ⟨rSite G G' news, rOwn G G' d lent news⟩ b oo ∧ w'.cell? ⟨b, oo, none⟩ = some v := fun b oo v hf hc => by
    have hb := (cell_alloc (ob := .chan 0 #[] false 0 0 false) hc).2
    have hok : (cCtx X G w lent frz).ok b oo := ⟨hb, Or.inl hf⟩
    exact ⟨⟨hf.1, hsafe1 b oo hb hf.2 hok⟩, (hR'.fr.cell b oo hok).trans hc⟩
  -- what the callee answers is safe for the caller
  have hfp2 : frz = [] → ∀ b oo v, fp (cCtx X G w lent frz) G' b oo → w'.cell? ⟨b, oo, none⟩ = some v → fp X ⟨rSite G G' news, rOwn G G' d lent news⟩ b oo := fun hfz b oo v hf hc => by
    obtain ⟨h1, h2⟩ := hf
    have hcase : (b < w.heap.size ∧ fp X G b oo) ∨ w.heap.size ≤ b ∨ (b < w.heap.size ∧ ∃ y ∈ lent, ∃ j e, G.own (.m y) j = some (b, e)) := by
      rcases h1 with ⟨hb, q | ⟨y, hy, _⟩⟩ | q | ⟨y, hy, q | ⟨j, e, q⟩⟩
      · exact Or.inl ⟨hb, q⟩
      · rw [hfz] at hy; cases hy
      · exact Or.inr (Or.inl q)
      · obtain ⟨i, hi⟩ := List.getElem?_of_mem hy
        exact absurd ((hls1 i y b hi).2 q) (h2.1 _)
      · exact Or.inr (Or.inr ⟨(hR.ownF _ _ _ _ q).1, y, hy, j, e, q⟩)
    refine ⟨?_, fun x hx => ?_, fun k j e he => ?_⟩
    · rcases hcase with ⟨_, q⟩ | q | ⟨_, y, hy, j, e, q⟩
      · exact q.1
      · exact Or.inr (Or.inl (Nat.le_trans hR.fr.size q))
      · exact Or.inr ((hR.ownF _ _ _ _ q).2)
    · rcases hsite x b hx with ⟨hxn, q⟩ | ⟨k, _, q, _⟩
      · rcases hcase with ⟨_, q'⟩ | q' | ⟨_, y, hy, j, e, q'⟩
        · exact q'.2.1 x q
        · have := (hR.siteF _ _ q).1; omega
        · exact hR.ownS _ _ _ _ _ q' q
      · exact h2.1 _ q
    · rcases hrow k j b e he with ⟨q, g1, _⟩ | ⟨k', q, _⟩
      · rcases hcase with ⟨_, q'⟩ | q' | ⟨_, y, hy, j', e', q'⟩
        · exact q'.2.2 _ _ _ q
        · have := (hR.ownF _ _ _ _ q).1; omega
        · exact absurd (hR.ownI _ _ _ _ _ _ _ q q').1 (g1 y hy)
      · exact h2.2 _ _ _ q
  have hbs : ∀ x y b, backF lent news x = some y → G'.site x = some b → rSite G G' news y = some b := fun x y b hx hb => by
    unfold backF at hx
    split at hx
    · rename_i h
      simp only [rSite]
      rw [idx_of hndn hx]
      simpa [show 2000 + (x - 2000) = x by omega] using hb
    · split at hx
      · rename_i h
        have hyl := List.mem_of_getElem? hx
        simp only [rSite]
        rw [idx_none fun hn => hdis y hyl hn]
        have := (hls1 (x - 1000) y b hx).1 (by rw [show 1000 + (x - 1000) = x by omega]; exact hb)
        exact this
      · cases hx
  have v1 : ∀ {v a ow}, VR1 (fp (cCtx X G w lent frz) G') G'.site w' v a ow → (frz = [] ∨ a.flat0) → VR1 (fp X ⟨rSite G G' news, rOwn G G' d lent news⟩) (rSite G G' news) w' v (ren1 (backF lent news) a) ow := fun hv hf => by
    rcases hf with hf | hf
    · exact hv.ren (hfp2 hf) hbs
    · exact hv.flat hf
  have v2 : ∀ {v a ow}, VR2 (fp (cCtx X G w lent frz) G') G'.site w' v a ow → (frz = [] ∨ a.flat) → VR2 (fp X ⟨rSite G G' news, rOwn G G' d lent news⟩) (rSite G G' news) w' v (ren2 (backF lent news) a) ow := fun hv hf => by
    rcases hf with hf | hf
    · exact hv.ren (hfp2 hf) hbs
    · exact hv.flat hf
  -- the updates
  have hkeys : (((Key.t d, ren2 (backF lent news) r) :: ((lent.zip lent').map fun (y, a) => (Key.m y, ren1 (backF lent news) a)) ++ ((news.zip newc).map fun (y, a) => (Key.m y, ren1 (backF lent news) a))).map Prod.fst).Nodup := by
    rw [List.map_append, List.map_cons, zip_fst (by intro p; rfl) hl1, zip_fst (by intro p; rfl) hl2, List.cons_append, ← List.map_append]
    rw [List.nodup_cons]
    refine ⟨by simp, ?_⟩
    exact List.Pairwise.map _ (fun a b h e => h (by cases e; rfl)) hnd
  generalize hU : ((Key.t d, ren2 (backF lent news) r) :: ((lent.zip lent').map fun (y, a) => (Key.m y, ren1 (backF lent news) a)) ++ ((news.zip newc).map fun (y, a) => (Key.m y, ren1 (backF lent news) a))) = U at hkeys
  have u1 : s.ups U (.t d) = ren2 (backF lent news) r := ups_mem hkeys (by rw [← hU]; simp)
  have u2 : ∀ k y c, lent[k]? = some y → lent'[k]? = some c → s.ups U (.m y) = ren1 (backF lent news) c := fun k y c h1 h2 => ups_mem hkeys (by
    rw [← hU]
    refine List.mem_append_left _ (List.mem_cons_of_mem _ (List.mem_map.2 ⟨(y, c), List.mem_of_getElem? (i := k) (List.getElem?_zip_eq_some.2 ⟨h1, h2⟩), rfl⟩)))
  have u3 : ∀ k y c, news[k]? = some y → newc[k]? = some c → s.ups U (.m y) = ren1 (backF lent news) c := fun k y c h1 h2 => ups_mem hkeys (by
    rw [← hU]
    refine List.mem_append_right _ (List.mem_map.2 ⟨(y, c), List.mem_of_getElem? (i := k) (List.getElem?_zip_eq_some.2 ⟨h1, h2⟩), rfl⟩))
  have u4 : ∀ k, k ≠ .t d → (∀ y ∈ lent, k ≠ .m y) → (∀ y ∈ news, k ≠ .m y) → s.ups U k = s k := fun k h1 h2 h3 => ups_other fun v hv => by
    rw [← hU] at hv
    rcases List.mem_append.1 hv with hv | hv
    · rcases List.mem_cons.1 hv with hv | hv
      · cases hv; exact h1 rfl
      · obtain ⟨y, hy, rfl⟩ := mem_zip_map (by intro p; rfl) hv; exact h2 y hy rfl
    · obtain ⟨y, hy, rfl⟩ := mem_zip_map (by intro p; rfl) hv; exact h3 y hy rfl
  have hsiteOld : ∀ x b, G.site x = some b → rSite G G' news x = some b := fun x b hb => by
    simp only [rSite]
    rw [idx_none fun hn => by rw [hfree x hn] at hb; cases hb]
    exact hb
  have hnotL : ∀ b, b < w.heap.size → (∀ y ∈ lent, G.site y ≠ some b) → (∀ y ∈ lent, ∀ j e, G.own (.m y) j ≠ some (b, e)) → w'.heap[b]? = w.heap[b]? := fun b hb h1 h2 => hR'.fr.block b hb fun ⟨y, hy, q⟩ => by
    rcases q with q | ⟨j, e, q⟩
    · exact h1 y hy q
    · exact h2 y hy j e q
  have hownOld : ∀ k j g e, (∀ y ∈ lent, k ≠ .m y) → G.own k j = some (g, e) → w'.heap[g]? = w.heap[g]? := fun k j g e hk ho => hnotL g (hR.ownF _ _ _ _ ho).1 (fun y hy q => hR.ownS _ _ _ _ _ ho q) (fun y hy j' e' q => hk y hy (hR.ownI _ _ _ _ _ _ _ ho q).1)
  have hm0 := hR'.mem
  have ht0 := hR'.tmp 0
  refine ⟨fun t => ?_, fun x => ?_, fun k j k' j' b e e' h1 h2 => ?_, fun k j b e x h1 h2 => ?_, fun x y b h1 h2 => ?_, fun x b h1 => ?_, fun k j b e h1 => ?_, fun b oo hok => ?_, hR.okB, ?_, (put_defers _ _ _).trans hR.df⟩
  · by_cases htd : t = d
    · subst htd
      rw [getD_put_same hd, u1]
      have e1 : rOwn G G' t lent news (.t t) = G'.own (.t 0) := by funext j; simp [rOwn]
      simp only [e1]
      have ht0' : VR2 (fp (cCtx X G w lent frz) G') G'.site w' v r (G'.own (.t 0)) := by simpa [soutOf, Array.getD] using ht0
      exact v2 ht0' (hflat.imp id fun h => h.1)
    · rw [getD_put_other htd, u4 _ (by simp [htd]) (by simp) (by simp)]
      have e1 : rOwn G G' d lent news (.t t) = G.own (.t t) := by funext j; simp [rOwn, htd]
      simp only [e1]
      exact (hR.tmp t).mono hfp1 hsiteOld fun j g e he => hownOld _ _ _ _ (by simp) he
  · by_cases hxl : x ∈ lent
    · obtain ⟨k, hk⟩ := List.getElem?_of_mem hxl
      have hkl := (List.getElem?_eq_some_iff.1 hk).1
      obtain ⟨c, hc⟩ : ∃ c, lent'[k]? = some c := ⟨_, List.getElem?_eq_getElem (by omega)⟩
      rw [u2 k x c hk hc]
      have e1 : rOwn G G' d lent news (.m x) = G'.own (.m (1000 + k)) := by funext j; simp [rOwn, idx_of hndl hk]
      simp only [e1]
      have hm := hm0 (1000 + k)
      have e2 : soutOf r lent' newc (.m (1000 + k)) = c := by
        simp only [soutOf]
        rw [if_neg (by omega), if_pos (by omega), show 1000 + k - 1000 = k by omega, List.getD_eq_getElem?_getD, hc]
        rfl
      rw [e2] at hm
      have hca := hg1 c (List.mem_of_getElem? hc)
      have hcf : frz = [] ∨ c.flat0 := hflat.imp id fun h => h.2.1 c (List.mem_of_getElem? hc)
      have fin : ∃ b cs e, G'.site (1000 + k) = some b ∧ w'.heap[b]? = some (.cells cs e (0, 0)) ∧ VR1 (fp (cCtx X G w lent frz) G') G'.site w' (.agg cs) c (G'.own (.m (1000 + k))) := by
        cases c <;> simp only [AV.isAgg] at hca
        all_goals
          obtain ⟨b, cs, e, h1, h2, h3, _⟩ := hm
          exact ⟨b, cs, e, h1, h2, h3⟩
      obtain ⟨b, cs, e, h1, h2, h3⟩ := fin
      have h4 := v1 h3 hcf
      have h5 := hsiteOld x b ((hls1 k x b hk).1 h1)
      cases c <;> simp only [AV.isAgg] at hca
      · exact ⟨b, cs, e, h5, h2, h4, trivial⟩
      · exact ⟨b, cs, e, h5, h2, h4, trivial⟩
    · by_cases hxn : x ∈ news
      · obtain ⟨k, hk⟩ := List.getElem?_of_mem hxn
        have hkl := (List.getElem?_eq_some_iff.1 hk).1
        obtain ⟨c, hc⟩ : ∃ c, newc[k]? = some c := ⟨_, List.getElem?_eq_getElem (by omega)⟩
        rw [u3 k x c hk hc]
        have e1 : rOwn G G' d lent news (.m x) = G'.own (.m (2000 + k)) := by funext j; simp [rOwn, idx_none hxl, idx_of hndn hk]
        have e3 : rSite G G' news x = G'.site (2000 + k) := by simp [rSite, idx_of hndn hk]
        simp only [e1, e3]
        have hm := hm0 (2000 + k)
        have e2 : soutOf r lent' newc (.m (2000 + k)) = c := by
          simp only [soutOf]
          rw [if_pos (by omega), show 2000 + k - 2000 = k by omega, List.getD_eq_getElem?_getD, hc]
          rfl
        rw [e2] at hm
        have hca := hg2 c (List.mem_of_getElem? hc)
        have hcf : frz = [] ∨ c.flat0 := hflat.imp id fun h => h.2.2 c (List.mem_of_getElem? hc)
        have fin : ∃ b cs e, G'.site (2000 + k) = some b ∧ w'.heap[b]? = some (.cells cs e (0, 0)) ∧ VR1 (fp (cCtx X G w lent frz) G') G'.site w' (.agg cs) c (G'.own (.m (2000 + k))) := by
          cases c <;> simp only [AV.isAgg] at hca
          all_goals
            obtain ⟨b, cs, e, h1, h2, h3, _⟩ := hm
            exact ⟨b, cs, e, h1, h2, h3⟩
        obtain ⟨b, cs, e, h1, h2, h3⟩ := fin
        have h4 := v1 h3 hcf
        cases c <;> simp only [AV.isAgg] at hca
        · exact ⟨b, cs, e, h1, h2, h4, trivial⟩
        · exact ⟨b, cs, e, h1, h2, h4, trivial⟩
      · rw [u4 _ (by simp) (fun y hy e => hxl (by cases e; exact hy)) (fun y hy e => hxn (by cases e; exact hy))]
        have e1 : rOwn G G' d lent news (.m x) = G.own (.m x) := by funext j; simp [rOwn, idx_none hxl, idx_none hxn]
        have e3 : rSite G G' news x = G.site x := by simp [rSite, idx_none hxn]
        simp only [e1, e3]
        refine (hR.mem x).mono hfp1 hsiteOld (fun b hb => ⟨hb, hnotL b (hR.siteF _ _ hb).1 (fun y hy q => ?_) (fun y hy j e q => hR.ownS _ _ _ _ _ q hb)⟩) fun j g e he => hownOld _ _ _ _ (fun y hy e => hxl (by cases e; exact hy)) he
        have := hR.siteI _ _ _ hb q
        subst this
        exact hxl hy
  · rcases hrow k j b e h1 with ⟨q1, g1, g2, g3⟩ | ⟨k1, q1, g1⟩ <;> rcases hrow k' j' b e' h2 with ⟨q2, g4, g5, g6⟩ | ⟨k2, q2, g2'⟩
    · exact hR.ownI _ _ _ _ _ _ _ q1 q2
    · rcases hlentL q2 (hR.ownF _ _ _ _ q1).1 with ⟨y, hy, q⟩ | ⟨y, hy, j3, e3, q⟩
      · exact absurd q (hnoLs q2 y hy)
      · exact absurd (hR.ownI _ _ _ _ _ _ _ q1 q).1 (g1 y hy)
    · rcases hlentL q1 (hR.ownF _ _ _ _ q2).1 with ⟨y, hy, q⟩ | ⟨y, hy, j3, e3, q⟩
      · exact absurd q (hnoLs q1 y hy)
      · exact absurd (hR.ownI _ _ _ _ _ _ _ q2 q).1 (g4 y hy)
    · obtain ⟨e1, rfl⟩ := hR'.ownI _ _ _ _ _ _ _ q1 q2
      refine ⟨?_, rfl⟩
      rcases g1 with ⟨rfl, rfl⟩ | ⟨i, y, hy, rfl, rfl⟩ | ⟨i, y, hy, rfl, rfl⟩ <;> rcases g2' with ⟨rfl, rfl⟩ | ⟨i', y', hy', rfl, rfl⟩ | ⟨i', y', hy', rfl, rfl⟩
      all_goals first
        | rfl
        | (simp only [Key.m.injEq, reduceCtorEq] at e1; done)
        | (simp only [Key.m.injEq] at e1
           have hi1 := (List.getElem?_eq_some_iff.1 hy).1
           have hi2 := (List.getElem?_eq_some_iff.1 hy').1
           first
             | (exfalso; omega)
             | (have : i = i' := by omega
                subst this
                rw [hy] at hy'
                cases hy'
                rfl))
  · rcases hrow k j b e h1 with ⟨q1, g1, g2, g3⟩ | ⟨k1, q1, g1⟩
    · rcases hsite x b h2 with ⟨_, q⟩ | ⟨_, _, _, q⟩
      · exact hR.ownS _ _ _ _ _ q1 q
      · have := (hR.ownF _ _ _ _ q1).1; omega
    · rcases hsite x b h2 with ⟨_, q⟩ | ⟨_, _, q, _⟩
      · rcases hlentL q1 (hR.siteF _ _ q).1 with ⟨y, hy, q'⟩ | ⟨y, hy, j3, e3, q'⟩
        · exact hnoLs q1 y hy q'
        · exact hR.ownS _ _ _ _ _ q' q
      · exact hR'.ownS _ _ _ _ _ q1 q
  · rcases hsite x b h1 with ⟨_, q1⟩ | ⟨k1, g1, q1, r1⟩ <;> rcases hsite y b h2 with ⟨_, q2⟩ | ⟨k2, g2, q2, r2⟩
    · exact hR.siteI _ _ _ q1 q2
    · have := (hR.siteF _ _ q1).1; omega
    · have := (hR.siteF _ _ q2).1; omega
    · have := hR'.siteI _ _ _ q1 q2
      have : k1 = k2 := by omega
      subst this
      rw [g1] at g2
      cases g2
      rfl
  · rcases hsite x b h1 with ⟨_, q1⟩ | ⟨k1, g1, q1, r1⟩
    · obtain ⟨p1, p2⟩ := hR.siteF _ _ q1
      exact ⟨by omega, p2⟩
    · exact ⟨(hR'.siteF _ _ q1).1, Or.inl (Nat.le_trans hR.fr.size r1)⟩
  · rcases hrow k j b e h1 with ⟨q1, g1, g2, g3⟩ | ⟨k1, q1, g1⟩
    · obtain ⟨p1, p2⟩ := hR.ownF _ _ _ _ q1
      exact ⟨by omega, p2⟩
    · refine ⟨(hR'.ownF _ _ _ _ q1).1, ?_⟩
      rcases Nat.lt_or_ge b w.heap.size with hb | hb
      · rcases hlentL q1 hb with ⟨y, hy, q'⟩ | ⟨y, hy, j3, e3, q'⟩
        · exact absurd q' (hnoLs q1 y hy)
        · exact (hR.ownF _ _ _ _ q').2
      · exact Or.inl (Nat.le_trans hR.fr.size hb)
  · have hb := Nat.lt_of_lt_of_le (hR.okB b oo hok) hR.fr.size
    exact hsafe1 b oo hb (hR.okS b oo hok) ⟨hb, Or.inl ⟨Or.inl hok, hR.okS b oo hok⟩⟩
  · have hf := hR'.fr
    refine ⟨hf.os.trans hR.fr.os, hf.tape.trans hR.fr.tape, hf.output.trans hR.fr.output, Nat.le_trans hR.fr.size hf.size, fun b hb hl => ?_, fun b oo hok => ?_⟩
    · rw [← hR.fr.block b hb hl]
      refine hnotL b (Nat.lt_of_lt_of_le hb hR.fr.size) (fun y hy q => ?_) (fun y hy j e q => ?_)
      · rcases (hR.siteF _ _ q).2 with q' | q'
        · omega
        · exact hl q'.1
      · rcases (hR.ownF _ _ _ _ q).2 with q' | q'
        · omega
        · exact hl q'
    · rw [← hR.fr.cell b oo hok]
      have hb := Nat.lt_of_lt_of_le (hR.okB b oo hok) hR.fr.size
      exact hf.cell b oo ⟨hb, Or.inl ⟨Or.inl hok, hR.okS b oo hok⟩⟩
end
end Go.Abs
