/- What the abstract machine's memory operations do to what is known: new variables, stores, appends. No condition. -/
import Derived.Test.YtgnajpfackfcaaaAbsE
set_option linter.unusedVariables false
set_option linter.unusedSimpArgs false
namespace Go.Abs
open Go.RowKit

section
variable {fp : Nat → Nat → Prop} {site : Nat → Option Nat} {w : World} {v : Value}

theorem cell_of_heap {g : Nat} {cs : Array Value} {e : TypeId} {fr : Nat × Nat} (h : w.heap[g]? = some (.cells cs e fr)) (j : Nat) : w.cell? ⟨g, j, none⟩ = cs[j]? := by
  simp [World.cell?, h]
theorem ownsRow_form {e sz n : Nat} {xs : List Value} (h : w.ownsRow 0 e sz v n xs) {g n' c : Nat} (hv : v = .slice (some ⟨g, 0, none⟩) n' c) :
    n' = n ∧ n ≤ c ∧ c ≤ maxLen ∧ ∀ (j : Nat) u, xs[j]? = some u → w.cell? ⟨g, j, none⟩ = some u := by
  rcases h.2 with ⟨h1, _⟩ | ⟨g', cap, cur, h1, _, h2, h3, h4, _, h5⟩
  · rw [h1] at hv; cases hv
  · rw [h1] at hv
    cases hv
    refine ⟨rfl, h3, h4, fun j u hu => ?_⟩
    rw [cell_of_heap h2]
    rw [← h5, List.getElem?_take] at hu
    split at hu
    · simpa using hu
    · cases hu

theorem VR0.dem {a : AV} {ow : Option (Nat × Nat)} (h : VR0 fp site w v a ow) (hf : ∀ g e, ow = some (g, e) → ∀ o, o < e → fp g o) : VR0 fp site w v a.dem0 none := by
  cases a with
  | os e sz es =>
    obtain ⟨xs, h1, h2, h3, h4, h5⟩ := h
    rcases h5 with ⟨rfl, rfl⟩ | ⟨g, n, c, rfl, rfl⟩
    · exact VR0.dem0n ⟨xs, h1, h2, h3, h4, Or.inl ⟨rfl, rfl⟩⟩
    · obtain ⟨rfl, g1, g2, g3⟩ := ownsRow_form h1 rfl
      refine ⟨PR.mksl g1 g2 h3 fun i r j p hi hj => ?_, rfl⟩
      have hfl := flat_at h3 hi hj
      obtain ⟨u, hu, hp⟩ := h2.get hfl
      have hlt := (List.getElem?_eq_some_iff.1 hfl).1
      rw [flat_len h3] at hlt
      rw [Nat.zero_add]
      exact ⟨hf g _ rfl _ hlt, u, g3 _ u hu, hp⟩
  | undef => exact rfl
  | none => exact ⟨h.1, rfl⟩
  | pv p => exact ⟨h.1, rfl⟩
  | ptr x o => exact ⟨h.1, rfl⟩
  | rp l => exact ⟨h.1, rfl⟩
  | sr x o n sz => exact ⟨h.1, rfl⟩
  | fn f => exact ⟨h.1, rfl⟩
  | pagg l => exact h.elim
  | agg l => exact h.elim
  | tup l => exact h.elim

theorem VR1.dem {a : AV} {ow : Nat → Option (Nat × Nat)} (h : VR1 fp site w v a ow) (hf : ∀ j g e, ow j = some (g, e) → ∀ o, o < e → fp g o) : VR1 fp site w v a.dem1 (fun _ => none) := by
  cases a
  case pagg l => exact ⟨h.1, fun _ => rfl⟩
  case agg l =>
    obtain ⟨⟨cs, h1, h2, h3⟩, h4⟩ := h
    refine ⟨⟨cs, h1, by simp [h2], fun j c u hc hu => ?_⟩, fun _ _ => rfl⟩
    rw [List.getElem?_map, Option.map_eq_some_iff] at hc
    obtain ⟨c', hc, rfl⟩ := hc
    exact (h3 j c' u hc hu).dem (hf j)
  case os e sz es => exact ⟨VR0.dem (a := .os e sz es) h.1 (hf 0), fun _ _ => rfl⟩
  case undef => exact ⟨VR0.dem (a := .undef) h.1 (hf 0), fun _ _ => rfl⟩
  case none => exact ⟨VR0.dem (a := .none) h.1 (hf 0), fun _ _ => rfl⟩
  case pv p => exact ⟨VR0.dem (a := .pv p) h.1 (hf 0), fun _ _ => rfl⟩
  case ptr x o => exact ⟨VR0.dem (a := .ptr x o) h.1 (hf 0), fun _ _ => rfl⟩
  case rp l => exact ⟨VR0.dem (a := .rp l) h.1 (hf 0), fun _ _ => rfl⟩
  case sr x o n sz => exact ⟨VR0.dem (a := .sr x o n sz) h.1 (hf 0), fun _ _ => rfl⟩
  case fn f => exact ⟨VR0.dem (a := .fn f) h.1 (hf 0), fun _ _ => rfl⟩
  case tup l => exact h.1.elim

theorem dem1_tup {a : AV} {l : List AV} (h : a.dem1 = .tup l) : a = .tup l := by
  cases a <;> first | exact h | cases h

theorem VR2.dem {a : AV} {ow : Nat → Option (Nat × Nat)} (h : VR2 fp site w v a ow) (hf : ∀ j g e, ow j = some (g, e) → ∀ o, o < e → fp g o) : V2 fp site w v a.dem2 := by
  by_cases ht : ∃ l, a = .tup l
  · obtain ⟨l, rfl⟩ := ht
    obtain ⟨⟨vs, h1, h2, h3⟩, h4⟩ := h
    refine ⟨⟨vs, h1, by simp [h2], fun j c u hc hu => ?_⟩, fun _ _ => rfl⟩
    rw [List.getElem?_map, Option.map_eq_some_iff] at hc
    obtain ⟨c', hc, rfl⟩ := hc
    have e0 : at0 (none : Option (Nat × Nat)) = fun _ => none := by funext j; simp [at0]
    rw [e0]
    refine (h3 j c' u hc hu).dem fun i g e he => ?_
    unfold at0 at he
    split at he
    · exact hf j g e he
    · cases he
  · have hn : ∀ l, a ≠ .tup l := fun l hl => ht ⟨l, hl⟩
    rw [VR2_eq hn] at h
    have e : a.dem2 = a.dem1 := by cases a <;> first | rfl | exact absurd rfl (hn _)
    rw [e]
    unfold V2
    rw [VR2_eq (fun l hl => hn l (dem1_tup hl))]
    exact h.dem hf
end

section
variable {X : Ctx} {G : Gh} {s : S} {a : Act} {w : World}

theorem Rel.ownfp (h : Rel X G s a w) {k : Key} {j g e : Nat} (ho : G.own k j = some (g, e)) {o : Nat} (hlt : o < e) : fp X G g o := by
  obtain ⟨_, h2⟩ := h.ownF k j g e ho
  refine ⟨?_, fun x => h.ownS k j g e x ho, fun k' j' e' ho' => ?_⟩
  · rcases h2 with h2 | h2
    · exact Or.inr (Or.inl h2)
    · exact Or.inr (Or.inr h2)
  · obtain ⟨rfl, rfl⟩ := h.ownI _ _ _ _ _ _ _ ho ho'
    rw [ho] at ho'
    cases ho'
    exact hlt

/-- The operands, copied. -/
theorem Rel.opd (h : Rel X G s a w) : OpdR (fp X G) G.site w a.eval (fun x => (ev s x).dem2) := by
  intro x y hx
  cases x with
  | t n =>
    cases y <;> simp only [okX, Bool.false_eq_true] at hx
    rename_i m
    simp only [beq_iff_eq] at hx
    subst hx
    exact (h.tmp n).dem fun j g e he o ho => h.ownfp he ho
  | c cv =>
    have key : V2 (fp X G) G.site w (a.eval y) cv → V2 (fp X G) G.site w (a.eval y) cv.dem2 := fun hv => VR2.dem hv (fun _ _ _ he => by cases he)
    unfold okX at hx
    split at hx
    · rename_i hcv; cases hcv
    · rename_i f g hcv
      cases hcv
      simp only [beq_iff_eq] at hx
      subst hx
      exact key ⟨⟨rfl, rfl⟩, fun _ _ => rfl⟩
    · rename_i cv' u hcv
      cases hcv
      exact key (okC_sound hx)
    · cases hx

/-- The operands of what only computes. -/
theorem Rel.opdp (h : Rel X G s a w) : OpdR (fp X G) G.site w a.eval (evd s) := by
  intro x y hx
  cases x with
  | t n => exact h.opd _ _ hx
  | c cv =>
    unfold okX at hx
    split at hx
    · rename_i hcv; cases hcv
    · rename_i f g hcv
      cases hcv
      simp only [beq_iff_eq] at hx
      subst hx
      exact ⟨⟨rfl, rfl⟩, fun _ _ => rfl⟩
    · rename_i cv' u hcv
      cases hcv
      exact okC_sound hx
    · cases hx

/-- A new block, that nobody owns or knows yet. -/
theorem cell_alloc {b o : Nat} {v : Value} {ob : Obj} (h : w.cell? ⟨b, o, none⟩ = some v) : (w.alloc ob).cell? ⟨b, o, none⟩ = some v ∧ b < w.heap.size := by
  have hb : b < w.heap.size := by
    by_cases hb : b < w.heap.size
    · exact hb
    · simp only [World.cell?, Array.getElem?_eq_none (Nat.le_of_not_lt hb)] at h; simp at h
  refine ⟨?_, hb⟩
  rw [← h]
  exact World.cell?_of_block (Below.heap_alloc w ob b hb)

theorem Frame.alloc (h : Frame X w) (ob : Obj) (hok : ∀ b o, X.ok b o → b < X.w0.heap.size) : Frame X (w.alloc ob) := by
  refine ⟨h.os, h.tape, h.output, Nat.le_trans h.size (by simp), fun b hb hl => ?_, fun b o ho => ?_⟩
  · exact (Below.heap_alloc w ob b (Nat.lt_of_lt_of_le hb h.size)).trans (h.block b hb hl)
  · have hb := Nat.lt_of_lt_of_le (hok b o ho) h.size
    exact (World.cell?_of_block (a := ⟨b, o, none⟩) (Below.heap_alloc w ob b hb)).trans (h.cell b o ho)

/-- A new block: what was known stays known. New sites and new owners may lie in it. -/
theorem Rel.newBlock (h : Rel X G s a w) (ob : Obj) {G' : Gh} {s' : S} {a' : Act}
    (hs1 : ∀ x b, G.site x = some b → G'.site x = some b) (hs2 : ∀ x b, G'.site x = some b → G.site x = some b ∨ b = w.heap.size)
    (ho1 : ∀ k j b e, G'.own k j = some (b, e) → G.own k j = some (b, e) ∨ b = w.heap.size)
    (hI1 : ∀ x y, G'.site x = some w.heap.size → G'.site y = some w.heap.size → x = y)
    (hI2 : ∀ k j k' j' e e', G'.own k j = some (w.heap.size, e) → G'.own k' j' = some (w.heap.size, e') → k = k' ∧ j = j')
    (hI3 : ∀ k j e x, G'.own k j = some (w.heap.size, e) → G'.site x ≠ some w.heap.size)
    (ht : (∀ b o v, fp X G b o → w.cell? ⟨b, o, none⟩ = some v → fp X G' b o ∧ (w.alloc ob).cell? ⟨b, o, none⟩ = some v) → ∀ t, VR2 (fp X G') G'.site (w.alloc ob) (a'.tmps.getD t Go.undef) (s' (.t t)) (G'.own (.t t)))
    (hm : (∀ b o v, fp X G b o → w.cell? ⟨b, o, none⟩ = some v → fp X G' b o ∧ (w.alloc ob).cell? ⟨b, o, none⟩ = some v) → ∀ x, MR (fp X G') G'.site (w.alloc ob) (s' (.m x)) (G'.site x) (G'.own (.m x)))
    (hd : a'.defers = []) : Rel X G' s' a' (w.alloc ob) := by
  have hsz : X.w0.heap.size ≤ w.heap.size := h.fr.size
  have hsafe : ∀ b o, b < w.heap.size → G.safe b o → G'.safe b o := fun b o hb hs => ⟨fun x hx => by
      rcases hs2 x b hx with h1 | h1
      · exact hs.1 x h1
      · omega, fun k j e he => by
      rcases ho1 k j b e he with h1 | h1
      · exact hs.2 k j e h1
      · omega⟩
  have hfp : ∀ b o v, fp X G b o → w.cell? ⟨b, o, none⟩ = some v → fp X G' b o ∧ (w.alloc ob).cell? ⟨b, o, none⟩ = some v := fun b o v hf hc => by
    obtain ⟨h1, h2⟩ := cell_alloc (ob := ob) hc
    exact ⟨⟨hf.1, hsafe b o h2 hf.2⟩, h1⟩
  refine ⟨ht hfp, hm hfp, fun k j k' j' b e e' h1 h2 => ?_, fun k j b e x h1 h2 => ?_, fun x y b h1 h2 => ?_, fun x b h1 => ?_, fun k j b e h1 => ?_, fun b o ho => hsafe b o (Nat.lt_of_lt_of_le (h.okB b o ho) hsz) (h.okS b o ho), h.okB, h.fr.alloc ob h.okB, hd⟩
  · rcases ho1 k j b e h1 with g1 | g1
    · rcases ho1 k' j' b e' h2 with g2 | g2
      · exact h.ownI _ _ _ _ _ _ _ g1 g2
      · subst g2
        have := (h.ownF k j _ e g1).1
        omega
    · subst g1
      exact hI2 _ _ _ _ _ _ h1 h2
  · rcases ho1 k j b e h1 with g1 | g1
    · rcases hs2 x b h2 with g2 | g2
      · exact h.ownS _ _ _ _ _ g1 g2
      · subst g2
        have := (h.ownF k j _ e g1).1
        omega
    · subst g1
      exact hI3 _ _ _ _ h1 h2
  · rcases hs2 x b h1 with g1 | g1
    · rcases hs2 y b h2 with g2 | g2
      · exact h.siteI _ _ _ g1 g2
      · subst g2
        have := (h.siteF x _ g1).1
        omega
    · subst g1
      exact hI1 _ _ h1 h2
  · rcases hs2 x b h1 with g1 | g1
    · obtain ⟨q1, q2⟩ := h.siteF x b g1
      exact ⟨by simp; omega, q2⟩
    · subst g1
      exact ⟨by simp, Or.inl hsz⟩
  · rcases ho1 k j b e h1 with g1 | g1
    · obtain ⟨q1, q2⟩ := h.ownF k j b e g1
      exact ⟨by simp; omega, q2⟩
    · subst g1
      exact ⟨by simp, Or.inl hsz⟩

theorem own_heap (h : Rel X G s a w) (ob : Obj) {k : Key} {j g e : Nat} (ho : G.own k j = some (g, e)) : (w.alloc ob).heap[g]? = w.heap[g]? :=
  Below.heap_alloc w ob g (h.ownF k j g e ho).1

/-- A new variable. -/
theorem Rel.newSite (h : Rel X G s a w) {d : Nat} (hd : d < a.tmps.size) (hfree : G.site d = none) (hmd : s (.m d) = .undef) {cs : Array Value} {e : TypeId} {c : AV} (hc : V2 (fp X G) G.site w (.agg cs) c) (hagg : c.isAgg) :
    ∃ G', Rel X G' ((s.up (.m d) c).up (.t d) (.ptr d 0)) (a.put (some d) (.pointer (some ⟨w.heap.size, 0, none⟩))) (w.alloc (.cells cs e)) ∧ ∀ x, x ≠ d → G'.site x = G.site x := by
  refine ⟨⟨fun x => if x = d then some w.heap.size else G.site x, clr G.own (.t d)⟩, ?_, fun x hx => by simp [hx]⟩
  refine h.newBlock _ (fun x b hb => ?_) (fun x b hb => ?_) (fun k j b e' hb => ?_) (fun x y h1 h2 => ?_) (fun k j k' j' e' e'' h1 h2 => ?_) (fun k j e' x h1 => ?_) (fun hfp t => ?_) (fun hfp x => ?_) ((put_defers _ _ _).trans h.df)
  · have : x ≠ d := by rintro rfl; rw [hfree] at hb; cases hb
    simp [this, hb]
  · simp only at hb
    split at hb
    · cases hb; exact Or.inr rfl
    · exact Or.inl hb
  · simp only [clr] at hb
    split at hb
    · cases hb
    · exact Or.inl hb
  · simp only at h1 h2
    have key : ∀ z, (if z = d then some w.heap.size else G.site z) = some w.heap.size → z = d := fun z hz => by
      by_cases hzd : z = d
      · exact hzd
      · rw [if_neg hzd] at hz
        have := (h.siteF z _ hz).1
        omega
    rw [key x h1, key y h2]
  · simp only [clr] at h1
    split at h1
    · cases h1
    · have := (h.ownF _ _ _ _ h1).1
      omega
  · simp only [clr] at h1
    split at h1
    · cases h1
    · have := (h.ownF _ _ _ _ h1).1
      omega
  · have hs : ∀ x b, G.site x = some b → (fun x => if x = d then some w.heap.size else G.site x) x = some b := fun x b hb => by
      have : x ≠ d := by rintro rfl; rw [hfree] at hb; cases hb
      simp [this, hb]
    by_cases ht : t = d
    · subst ht
      rw [getD_put_same hd, S.up_same]
      exact ⟨⟨⟨w.heap.size, by simp, rfl⟩, by simp [clr]⟩, fun _ _ => by simp [clr]⟩
    · rw [getD_put_other ht, S.up_other _ _ (by simp [ht]), S.up_other _ _ (by simp)]
      have e1 : clr G.own (.t d) (.t t) = G.own (.t t) := by funext j; simp [clr, ht]
      simp only [e1]
      exact (h.tmp t).mono hfp hs fun j g e' he => own_heap h _ he
  · have hs : ∀ x b, G.site x = some b → (fun x => if x = d then some w.heap.size else G.site x) x = some b := fun x b hb => by
      have : x ≠ d := by rintro rfl; rw [hfree] at hb; cases hb
      simp [this, hb]
    rw [S.up_other _ _ (by simp)]
    have e1 : clr G.own (.t d) (.m x) = G.own (.m x) := by funext j; simp [clr]
    simp only [e1]
    by_cases hx : x = d
    · subst hx
      rw [S.up_same]
      have hown : G.own (.m x) = fun _ => none := by
        have := h.mem x
        rw [hmd] at this
        funext j
        exact this j
      rw [hown]
      have hv1 : VR1 (fp X ⟨fun y => if y = x then some w.heap.size else G.site y, clr G.own (.t x)⟩) (fun y => if y = x then some w.heap.size else G.site y) (w.alloc (.cells cs e)) (.agg cs) c (fun _ => none) := by
        have hc' : VR1 (fp X G) G.site w (.agg cs) c (fun _ => none) := by cases c <;> first | exact hc | exact hagg.elim
        exact hc'.mono hfp hs fun j g e' he => by cases he
      cases c <;> first | exact hagg.elim | exact ⟨w.heap.size, cs, e, by simp, heap_alloc_new w _, hv1, trivial⟩
    · rw [S.up_other _ _ (by simp [hx])]
      refine (h.mem x).mono hfp hs (fun b hb => ⟨by simp [hx, hb], Below.heap_alloc w _ b (h.siteF x b hb).1⟩) fun j g e' he => own_heap h _ he

/-- A new block that a slot owns. -/
theorem Rel.newOwn (h : Rel X G s a w) {d : Nat} (hd : d < a.tmps.size) {cs : Array Value} {e sz : Nat} {es : List (List PV)} (hc : PRs (fp X G) w cs.toList es.flatten) (hl : ∀ r ∈ es, r.length = sz) (hsz : 0 < sz) (hm : es.length ≤ maxLen) :
    ∃ G', Rel X G' (s.up (.t d) (.os e sz es)) (a.put (some d) (.slice (some ⟨w.heap.size, 0, none⟩) es.length es.length)) (w.alloc (.cells cs e)) ∧ ∀ x, G'.site x = G.site x := by
  have hcs : cs.size = es.length * sz := by
    have := hc.1
    rw [flat_len hl] at this
    simpa using this
  refine ⟨⟨G.site, fun k j => if k = .t d then (if j = 0 then some (w.heap.size, es.length * sz) else none) else G.own k j⟩, ?_, fun _ => rfl⟩
  refine h.newBlock _ (fun x b hb => hb) (fun x b hb => Or.inl hb) (fun k j b e' hb => ?_) (fun x y h1 h2 => ?_) (fun k j k' j' e' e'' h1 h2 => ?_) (fun k j e' x h1 hx => ?_) (fun hfp t => ?_) (fun hfp x => ?_) ((put_defers _ _ _).trans h.df)
  · simp only at hb
    split at hb
    · split at hb
      · cases hb; exact Or.inr rfl
      · cases hb
    · exact Or.inl hb
  · have := (h.siteF x _ h1).1
    omega
  · have key : ∀ k j e', (if k = Key.t d then (if j = 0 then some (w.heap.size, es.length * sz) else none) else G.own k j) = some (w.heap.size, e') → k = .t d ∧ j = 0 := fun k j e' hk => by
      split at hk
      · split at hk
        · exact ⟨by assumption, by assumption⟩
        · cases hk
      · have := (h.ownF _ _ _ _ hk).1
        omega
    obtain ⟨rfl, rfl⟩ := key _ _ _ h1
    obtain ⟨rfl, rfl⟩ := key _ _ _ h2
    exact ⟨rfl, rfl⟩
  · have := (h.siteF x _ hx).1
    omega
  · by_cases ht : t = d
    · subst ht
      rw [getD_put_same hd, S.up_same]
      refine ⟨⟨cs.toList, ⟨by simp [hcs], Or.inr ⟨w.heap.size, es.length, cs, rfl, Nat.zero_le _, heap_alloc_new w _, Nat.le_refl _, hm, hcs, by rw [← hcs, ← Array.length_toList, List.take_length]⟩⟩, hc.mono hfp, hl, hsz, Or.inr ⟨_, _, _, rfl, by simp⟩⟩, fun j hj => ?_⟩
      simp [show j ≠ 0 by omega]
    · rw [getD_put_other ht, S.up_other _ _ (by simp [ht])]
      have e1 : (fun j => if Key.t t = Key.t d then (if j = 0 then some (w.heap.size, es.length * sz) else none) else G.own (.t t) j) = G.own (.t t) := by funext j; simp [ht]
      simp only [e1]
      exact (h.tmp t).mono hfp (fun _ _ h => h) fun j g e' he => own_heap h _ he
  · rw [S.up_other _ _ (by simp)]
    have e1 : (fun j => if Key.m x = Key.t d then (if j = 0 then some (w.heap.size, es.length * sz) else none) else G.own (.m x) j) = G.own (.m x) := by funext j; simp
    simp only [e1]
    exact (h.mem x).mono hfp (fun _ _ h => h) (fun b hb => ⟨hb, Below.heap_alloc w _ b (h.siteF x b hb).1⟩) fun j g e' he => own_heap h _ he
end
end Go.Abs
