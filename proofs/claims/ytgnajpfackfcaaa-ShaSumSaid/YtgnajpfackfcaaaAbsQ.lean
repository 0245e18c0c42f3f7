/- The abstract machine: regions, in the text's order and in whatever order is drawn. No condition. -/
import Derived.Test.YtgnajpfackfcaaaAbsP
set_option linter.unusedVariables false
set_option linter.unusedSimpArgs false
namespace Go.Abs
open Go.RowKit

section
variable {P : Program} {X : Ctx} {s : S} {o : Oper} {U : List (Key × AV)} {N : Nat}

/-- Variables that an operation writes are its own, or were there. -/
theorem EffR_fresh {i : IOp} (he : EffR P s i U) {x : Nat} {v : AV} (hk : (Key.m x, v) ∈ U) : x ∈ i.makes ∨ s (.m x) ≠ .undef := by
  cases i
  case call d f xs lent news frz =>
    obtain ⟨c, args, r, lent', newc, _, _, hagg, _, _, _, _, _, _, rfl⟩ := he
    rcases List.mem_append.1 hk with hk | hk
    · rcases List.mem_cons.1 hk with hk | hk
      · cases hk
      · obtain ⟨y, hy, e⟩ := mem_zip_map (by intro p; rfl) hk
        cases e
        have := hagg x hy
        right
        intro h
        rw [h] at this
        exact this
    · obtain ⟨y, hy, e⟩ := mem_zip_map (by intro p; rfl) hk
      cases e
      exact Or.inl hy
  all_goals
    obtain ⟨c, he, _⟩ := he
    simp only [eff] at he
    repeat' split at he
    all_goals first
      | (cases he; done)
      | (simp only [Option.some.injEq, Prod.mk.injEq] at he
         obtain ⟨_, rfl⟩ := he
         simp only [List.mem_cons, Prod.mk.injEq, List.not_mem_nil, or_false, Key.m.injEq, reduceCtorEq, false_and, false_or] at hk <;>
         first
           | (exact hk.elim)
           | (obtain ⟨rfl, _⟩ := hk
              first
                | (left; simp [IOp.makes]; done)
                | (right; intro h; rename_i hl; rw [h] at hl; exact storeA_isAgg hl)
                | (right; intro h; simp_all; done)))

theorem EffG_fresh {g : GOp} (he : EffG P s g U) {x : Nat} {v : AV} (hk : (Key.m x, v) ∈ U) : x ∈ g.1.makes ∨ s (.m x) ≠ .undef := by
  have hs : U = skipU g.1 → False := fun e => by
    subst e
    unfold skipU at hk
    cases hd : g.1.dst <;> rw [hd] at hk <;> simp at hk
  unfold EffG at he
  split at he
  · exact EffR_fresh he hk
  · split at he
    · split at he
      · exact EffR_fresh he hk
      · exact (hs he).elim
    · exact (hs he).elim
    · exact he.elim

/-- The sites still to be made are free. -/
def Free (G : Gh) (s : S) (l : List GOp) : Prop := ∀ x ∈ l.flatMap (·.1.makes), G.site x = none ∧ s (.m x) = .undef

theorem Free.step {G G' : Gh} {g : GOp} {l l' : List GOp} (hf : Free G s l) (hl : ∀ x ∈ l'.flatMap (·.1.makes), x ∈ l.flatMap (·.1.makes) ∧ x ∉ g.1.makes) (he : EffG P s g U) (hs : ∀ x, x ∉ g.1.makes → G'.site x = G.site x) : Free G' (s.ups U) l' := fun x hx => by
  obtain ⟨h1, h2⟩ := hl x hx
  obtain ⟨q1, q2⟩ := hf x h1
  refine ⟨(hs x h2).trans q1, ?_⟩
  rw [ups_other fun v hv => ?_]
  · exact q2
  · rcases EffG_fresh he hv with h | h
    · exact h2 h
    · exact h q2

/-- What is known behind some steps: the state, and where variables lie. -/
def Kn (X : Ctx) (N : Nat) (G0 : Gh) (al : List Nat) (K : S → Prop) (a : Act) (w : World) : Prop :=
  ∃ s G, K s ∧ Rel X G s a w ∧ a.tmps.size = N ∧ ∀ x, x ∉ al → G.site x = G0.site x

theorem textSound {ops : Array Oper} {Q : Exit → Act → World → Prop} {K : S → Prop} {G0 : Gh} {al : List Nat} (hK : ∀ a w, Kn X N G0 al K a w → Q .normal a w) :
    ∀ (gl : List GOp) (l : List Nat) (s : S) (G : Gh) (a : Act) (w : World), l.length = gl.length → (∀ (k : Nat) i g, l[k]? = some i → gl[k]? = some g → ∃ o, ops[i]? = some o ∧ okG P N ops g o = true) →
      (gl.flatMap (·.1.makes)).Nodup → (∀ x ∈ gl.flatMap (·.1.makes), x ∈ al) → (∀ x, x ∉ al → G.site x = G0.site x) → Free G s gl → Rel X G s a w → a.tmps.size = N → wpI P gl s K → wpOps P ops Q l a w := by
  intro gl
  induction gl with
  | nil =>
    intro l s G a w hl _ _ _ hG _ hR hN h
    have : l = [] := List.eq_nil_of_length_eq_zero hl
    subst this
    exact hK a w ⟨s, G, h, hR, hN, hG⟩
  | cons g gl ih =>
    intro l s G a w hl hok hnd hal hG hf hR hN h
    cases l with
    | nil => simp at hl
    | cons i l =>
      obtain ⟨U, hU, h⟩ := h
      obtain ⟨o, ho, hg⟩ := hok 0 i g rfl rfl
      rw [wpOps_cons]
      rw [List.flatMap_cons, List.nodup_append] at hnd
      refine gSound hR hN (fun x hx => hf x (by simp [hx])) ho hg hU fun a' w' G' h1 h2 h3 => ?_
      refine ih l _ G' a' w' (by simpa using hl) (fun k i g h1 h2 => hok (k + 1) i g (by simpa using h1) (by simpa using h2)) hnd.2.1 (fun x hx => hal x (by simp only [List.flatMap_cons, List.mem_append]; exact Or.inr hx)) (fun x hx => ?_) (hf.step (fun x hx => ⟨by simp only [List.flatMap_cons, List.mem_append]; exact Or.inr hx, fun hg => hnd.2.2 x hg x hx rfl⟩) hU h3) h1 h2 h
      rw [h3 x fun hm => hx (hal x (by simp [hm]))]
      exact hG x hx

/-- The edges of an operation. -/
def edges (o : Oper) : List Nat := (o.after.toList.filter (Region.binds .any)).map (·.on)
/-- Who is ahead of whom. -/
def befs : List (List Nat) → List Nat → List Nat
  | [], acc => acc
  | es :: r, acc => befs r (acc ++ [es.foldl (fun m e => m ||| 2 ^ e ||| acc.getD e 0) 0])

theorem fold_bits (acc : List Nat) : ∀ (es : List Nat) (m j : Nat), (es.foldl (fun m e => m ||| 2 ^ e ||| acc.getD e 0) m).testBit j = true → m.testBit j = true ∨ ∃ e ∈ es, j = e ∨ (acc.getD e 0).testBit j = true := by
  intro es
  induction es with
  | nil => intro m j h; exact Or.inl h
  | cons e es ih =>
    intro m j h
    rcases ih _ j h with h | ⟨e', he', h⟩
    · rw [Nat.testBit_or, Nat.testBit_or, Bool.or_eq_true, Bool.or_eq_true] at h
      rcases h with (h | h) | h
      · exact Or.inl h
      · right
        refine ⟨e, by simp, Or.inl ?_⟩
        rw [Nat.testBit_two_pow] at h
        exact (by simpa using h : e = j).symm
      · exact Or.inr ⟨e, by simp, Or.inr h⟩
    · exact Or.inr ⟨e', by simp [he'], h⟩

theorem befs_spec (L : Nat → Prop) (E : Nat → List Nat) (hcl : ∀ i, L i → ∀ e ∈ E i, L e) : ∀ (rest : List (List Nat)) (acc : List Nat),
    (∀ k es, rest[k]? = some es → es = E (acc.length + k)) → (∀ i, i < acc.length → (∀ e ∈ E i, L e) → ∀ j, (acc.getD i 0).testBit j = true → L j) →
    ∀ i, i < acc.length + rest.length → (∀ e ∈ E i, L e) → ∀ j, ((befs rest acc).getD i 0).testBit j = true → L j := by
  intro rest
  induction rest with
  | nil => intro acc _ h i hi; simpa [befs] using h i (by simpa using hi)
  | cons es rest ih =>
    intro acc hE h i hi
    simp only [befs]
    refine ih _ (fun k es' hk => ?_) (fun i hi he j hj => ?_) i (by simp at hi ⊢; omega)
    · rw [hE (k + 1) es' (by simpa using hk)]
      simp
      congr 1
      omega
    · by_cases hlt : i < acc.length
      · refine h i hlt he j ?_
        rw [List.getD_eq_getElem?_getD, List.getElem?_append_left hlt, ← List.getD_eq_getElem?_getD] at hj
        exact hj
      · have : i = acc.length := by simp at hi; omega
        subst this
        rw [List.getD_eq_getElem?_getD, List.getElem?_append_right (Nat.le_refl _)] at hj
        simp only [Nat.sub_self, List.getElem?_cons_zero, Option.getD_some] at hj
        have hes := hE 0 es rfl
        rw [Nat.add_zero] at hes
        rcases fold_bits acc es 0 j hj with h0 | ⟨e, hem, h0⟩
        · simp at h0
        · have hLe : L e := he e (by rw [← hes]; exact hem)
          rcases h0 with rfl | h0
          · exact hLe
          · by_cases hel : e < acc.length
            · exact h e hel (hcl e hLe) j h0
            · rw [List.getD_eq_getElem?_getD, List.getElem?_eq_none (by omega)] at h0
              simp at h0

/-- The drawn order does not matter: any two operations that may change places are independent. -/
def okOrd (ops : List Oper) (gl : List GOp) : Bool :=
  let b := befs (ops.map edges) []
  ((List.range gl.length).all fun i => (edges (ops.getD i default)).all fun e => decide (e < i)) &&
  (List.range gl.length).all fun i => (List.range i).all fun j => (b.getD i 0).testBit j || (match gl[j]?, gl[i]? with
    | some h, some g => indep h g
    | _, _ => false)

def idxd (gl : List GOp) : List (Nat × GOp) := (List.range gl.length).zip gl
def rem (gl : List GOp) (L : Array Bool) : List GOp := ((idxd gl).filter fun p => !(L.getD p.1 true)).map (·.2)

theorem idxd_get {gl : List GOp} {k i : Nat} {g : GOp} (h : (idxd gl)[k]? = some (i, g)) : k = i ∧ gl[i]? = some g := by
  unfold idxd at h
  rw [List.getElem?_zip_eq_some] at h
  obtain ⟨h1, h2⟩ := h
  obtain ⟨h3, h4⟩ := List.getElem?_eq_some_iff.1 h1
  simp at h4
  subst h4
  exact ⟨rfl, h2⟩
theorem idxd_split {gl : List GOp} {i : Nat} {g : GOp} (h : gl[i]? = some g) : ∃ l1 l2, idxd gl = l1 ++ (i, g) :: l2 ∧ (∀ p ∈ l1, p.1 < i ∧ gl[p.1]? = some p.2) ∧ ∀ p ∈ l2, p.1 ≠ i := by
  have hi := (List.getElem?_eq_some_iff.1 h).1
  have hk : (idxd gl)[i]? = some (i, g) := by
    unfold idxd
    rw [List.getElem?_zip_eq_some]
    exact ⟨by simp [hi], h⟩
  have hil := (List.getElem?_eq_some_iff.1 hk).1
  refine ⟨(idxd gl).take i, (idxd gl).drop (i + 1), ?_, fun p hp => ?_, fun p hp => ?_⟩
  · rw [← List.take_append_drop i (idxd gl)]
    congr 1
    · simp
    · rw [List.take_append_drop, List.drop_eq_getElem_cons hil, (List.getElem?_eq_some_iff.1 hk).2]
  · obtain ⟨k, hk⟩ := List.getElem?_of_mem hp
    rw [List.getElem?_take] at hk
    split at hk
    · rename_i hki
      obtain ⟨e, h2⟩ := idxd_get (i := p.1) (g := p.2) hk
      subst e
      exact ⟨hki, h2⟩
    · cases hk
  · obtain ⟨k, hk⟩ := List.getElem?_of_mem hp
    rw [List.getElem?_drop] at hk
    obtain ⟨e, _⟩ := idxd_get (i := p.1) (g := p.2) hk
    omega

theorem rem_split {gl : List GOp} {L : Array Bool} {i : Nat} {g : GOp} (h : gl[i]? = some g) (hL : L.getD i true = false) (hsz : L.size = gl.length) :
    ∃ pre post, rem gl L = pre ++ g :: post ∧ rem gl (L.setIfInBounds i true) = pre ++ post ∧ ∀ h ∈ pre, ∃ j, j < i ∧ gl[j]? = some h ∧ L.getD j true = false := by
  obtain ⟨l1, l2, h1, h2, h3⟩ := idxd_split h
  have hi := (List.getElem?_eq_some_iff.1 h).1
  have hset : ∀ j, j ≠ i → (L.setIfInBounds i true).getD j true = L.getD j true := fun j hj => by simp [Array.getD_eq_getD_getElem?, Array.getElem?_setIfInBounds_ne (Ne.symm hj)]
  have hseti : (L.setIfInBounds i true).getD i true = true := by
    have : i < L.size := by omega
    simp [Array.getD, this]
  refine ⟨(l1.filter fun p => !(L.getD p.1 true)).map (·.2), (l2.filter fun p => !(L.getD p.1 true)).map (·.2), ?_, ?_, fun q hq => ?_⟩
  · unfold rem
    rw [h1, List.filter_append, List.filter_cons, if_pos (by simp [hL])]
    simp
  · unfold rem
    rw [h1, List.filter_append, List.filter_cons, if_neg (by simp [hseti])]
    rw [List.map_append]
    congr 2
    · apply List.filter_congr
      intro p hp
      rw [hset p.1 (by have := (h2 p hp).1; omega)]
    · apply List.filter_congr
      intro p hp
      rw [hset p.1 (h3 p hp)]
  · obtain ⟨p, hp, rfl⟩ := List.mem_map.1 hq
    rw [List.mem_filter] at hp
    obtain ⟨q1, q2⟩ := h2 p hp.1
    exact ⟨p.1, q1, q2, by simpa using hp.2⟩

theorem rem_nil {gl : List GOp} {L : Array Bool} (h : rem gl L = []) {i : Nat} (hi : i < gl.length) : L.getD i true = true := by
  cases hL : L.getD i true with
  | true => rfl
  | false =>
    obtain ⟨l1, l2, h1, _, _⟩ := idxd_split (List.getElem?_eq_getElem hi)
    unfold rem at h
    rw [h1, List.filter_append, List.filter_cons, if_pos (by simp [hL])] at h
    simp at h

theorem anySound {ops : Array Oper} {Q : Exit → Act → World → Prop} {K : S → Prop} {G0 : Gh} {al : List Nat} {gl : List GOp} (hK : ∀ a w, Kn X N G0 al K a w → Q .normal a w)
    (hlen : ops.size = gl.length) (hok : ∀ (i : Nat) g, gl[i]? = some g → ∃ o, ops[i]? = some o ∧ okG P N ops g o = true) (hord : okOrd ops.toList gl = true)
    (hnd : (gl.flatMap (·.1.makes)).Nodup) (hal : ∀ x ∈ gl.flatMap (·.1.makes), x ∈ al) :
    ∀ (fuel : Nat) (L : Array Bool) (s : S) (G : Gh) (a : Act) (w : World), L.size = gl.length → (rem gl L).length = fuel →
      (∀ i, L.getD i false = true → ∀ e ∈ edges (ops.toList.getD i default), L.getD e false = true) → ((rem gl L).flatMap (·.1.makes)).Nodup → (∀ x ∈ (rem gl L).flatMap (·.1.makes), x ∈ al) →
      (∀ x, x ∉ al → G.site x = G0.site x) → Free G s (rem gl L) → Rel X G s a w → a.tmps.size = N → wpI P (rem gl L) s K → wpAny P .any ops Q fuel L a w := by
  simp only [okOrd, Bool.and_eq_true, List.all_eq_true, List.mem_range, decide_eq_true_eq, Bool.or_eq_true] at hord
  obtain ⟨hord1, hord2⟩ := hord
  have opsAt : ∀ i o, ops[i]? = some o → ops.toList.getD i default = o := fun i o h => by rw [List.getD_eq_getElem?_getD, Array.getElem?_toList, h]; rfl
  have dflt : ∀ (L : Array Bool) i, L.size = gl.length → i < gl.length → L.getD i false = L.getD i true := fun L i h1 h2 => by
    have : i < L.size := by omega
    simp [Array.getD, this]
  intro fuel
  induction fuel with
  | zero =>
    intro L s G a w hsz hr hcl _ _ hG hf hR hN h
    have hr0 : rem gl L = [] := List.eq_nil_of_length_eq_zero hr
    rw [hr0] at h
    refine ⟨?_, hK a w ⟨s, G, h, hR, hN, hG⟩⟩
    apply List.eq_nil_iff_forall_not_mem.2
    intro j hj
    obtain ⟨h1, o, ho, _⟩ := mem_ready.1 hj
    have hjl : j < gl.length := by rw [← hlen]; exact (Array.getElem?_eq_some_iff.1 ho).1
    rw [rem_nil hr0 hjl] at h1
    cases h1
  | succ fuel ih =>
    intro L s G a w hsz hr hcl hndr halr hG hf hR hN h
    refine ⟨fun hready => ?_, fun i hi => ?_⟩
    · exfalso
      -- the first that is not listed is ready
      have hne : ∃ i, i < gl.length ∧ L.getD i true = false := by
        apply Classical.byContradiction
        intro hno
        have : rem gl L = [] := by
          unfold rem
          rw [List.map_eq_nil_iff, List.filter_eq_nil_iff]
          intro p hp
          obtain ⟨k, hk⟩ := List.getElem?_of_mem hp
          obtain ⟨_, h2⟩ := idxd_get (i := p.1) (g := p.2) hk
          have hpl := (List.getElem?_eq_some_iff.1 h2).1
          cases hL : L.getD p.1 true with
          | true => simp
          | false => exact absurd ⟨p.1, hpl, hL⟩ hno
        rw [this] at hr
        simp at hr
      have hmin : ∃ i, i < gl.length ∧ L.getD i true = false ∧ ∀ j, j < i → L.getD j true = true := by
        obtain ⟨i, hi1, hi2⟩ := hne
        induction i using Nat.strongRecOn with
        | _ i ih' =>
          by_cases hall : ∀ j, j < i → L.getD j true = true
          · exact ⟨i, hi1, hi2, hall⟩
          · obtain ⟨j, hj⟩ := Classical.not_forall.1 hall
            rw [Classical.not_imp] at hj
            exact ih' j hj.1 (by omega) (by simpa using hj.2)
      obtain ⟨i, hil, hiL, hall⟩ := hmin
      have hmem : i ∈ Region.ready .any ops L := by
        refine mem_ready.2 ⟨hiL, ops[i]'(by omega), Array.getElem?_eq_getElem (by omega), fun e he hb => ?_⟩
        have hee : e.on ∈ edges (ops.toList.getD i default) := by
          rw [opsAt i _ (Array.getElem?_eq_getElem (by omega))]
          exact List.mem_map.2 ⟨e, List.mem_filter.2 ⟨by simpa using he, hb⟩, rfl⟩
        have := hord1 i hil e.on hee
        rw [dflt L _ hsz (by omega)]
        exact hall _ this
      rw [hready] at hmem
      cases hmem
    · obtain ⟨hiL, o, ho, hpre⟩ := mem_ready.1 hi
      have hil : i < gl.length := by rw [← hlen]; exact (Array.getElem?_eq_some_iff.1 ho).1
      obtain ⟨g, hg⟩ : ∃ g, gl[i]? = some g := ⟨_, List.getElem?_eq_getElem hil⟩
      obtain ⟨o', ho', hgo⟩ := hok i g hg
      rw [ho] at ho'
      cases ho'
      obtain ⟨pre, post, e1, e2, hpreI⟩ := rem_split hg hiL hsz
      have hedges : ∀ e ∈ edges (ops.toList.getD i default), L.getD e false = true := fun e he => by
        rw [opsAt i o ho] at he
        obtain ⟨ed, hed, rfl⟩ := List.mem_map.1 he
        rw [List.mem_filter] at hed
        exact hpre ed (by simpa using hed.1) hed.2
      rw [e1] at h
      have hfront := wpI_front (fun q hq => by
        obtain ⟨j, hj, hgj, hLj⟩ := hpreI q hq
        rcases hord2 i hil j hj with hb | hb
        · exfalso
          have hLt := befs_spec (fun j => L.getD j false = true) (fun i => edges (ops.toList.getD i default)) hcl (ops.toList.map edges) [] (fun k es hk => by
              rw [List.getElem?_map, Option.map_eq_some_iff] at hk
              obtain ⟨oo, hoo, rfl⟩ := hk
              simp [List.getD_eq_getElem?_getD, hoo]) (fun i hi => by simp at hi) i (by simp; omega) hedges j hb
          have hjl := (List.getElem?_eq_some_iff.1 hgj).1
          rw [dflt L j hsz hjl, hLj] at hLt
          cases hLt
        · rw [hgj, hg] at hb
          exact hb) h
      obtain ⟨U, hU, hrest⟩ := hfront
      have hflat : ∀ x, x ∈ (rem gl L).flatMap (·.1.makes) ↔ x ∈ pre.flatMap (·.1.makes) ∨ x ∈ g.1.makes ∨ x ∈ post.flatMap (·.1.makes) := fun x => by
        rw [e1, List.flatMap_append, List.flatMap_cons, List.mem_append, List.mem_append]
      have hndr' : (pre.flatMap (·.1.makes) ++ (g.1.makes ++ post.flatMap (·.1.makes))).Nodup := by
        rw [e1, List.flatMap_append, List.flatMap_cons] at hndr
        exact hndr
      rw [List.nodup_append] at hndr'
      obtain ⟨n1, n2, n3⟩ := hndr'
      rw [List.nodup_append] at n2
      obtain ⟨n4, n5, n6⟩ := n2
      refine gSound hR hN (fun x hx => hf x ((hflat x).2 (Or.inr (Or.inl hx)))) ho hgo hU fun a' w' G' q1 q2 q3 => ?_
      have hmem2 : ∀ x ∈ (pre ++ post).flatMap (·.1.makes), x ∈ (rem gl L).flatMap (·.1.makes) ∧ x ∉ g.1.makes := fun x hx => by
        rw [List.flatMap_append, List.mem_append] at hx
        rcases hx with hx | hx
        · exact ⟨(hflat x).2 (Or.inl hx), fun hm => n3 x hx x (List.mem_append_left _ hm) rfl⟩
        · exact ⟨(hflat x).2 (Or.inr (Or.inr hx)), fun hm => n6 x hm x hx rfl⟩
      refine ih (L.setIfInBounds i true) (s.ups U) G' a' w' (by simpa using hsz) ?_ ?_ ?_ ?_ ?_ ?_ q1 q2 (by rw [e2]; exact hrest)
      · rw [e2]; rw [e1] at hr; simp at hr ⊢; omega
      · intro j hj e he
        by_cases hji : j = i
        · subst hji
          exact getD_set_true (hedges e he)
        · rw [getD_set_ne _ (Ne.symm hji)] at hj
          exact getD_set_true (hcl j hj e he)
      · rw [e2, List.flatMap_append, List.nodup_append]
        exact ⟨n1, n5, fun x hx y hy e => n3 x hx y (List.mem_append_right _ hy) e⟩
      · rw [e2]; exact fun x hx => halr x (hmem2 x hx).1
      · intro x hx
        rw [q3 x fun hm => hx (halr x ((hflat x).2 (Or.inr (Or.inl hm))))]
        exact hG x hx
      · rw [e2]; exact hf.step hmem2 hU q3
end
end Go.Abs
