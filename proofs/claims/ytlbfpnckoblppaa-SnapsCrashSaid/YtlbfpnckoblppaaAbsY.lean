/- The abstract machine: contracts by hand: what a function that was walked outside it answers. No condition. -/
import Derived.Test.YtlbfpnckoblppaaAbsX
set_option linter.unusedVariables false
set_option linter.unusedSimpArgs false
namespace Go.Abs
open Go.RowKit

section
variable {P : Program} {X : Ctx} {G : Gh} {s : S} {a : Act} {w w1 : World} {N : Nat}

theorem Rel.alike (h : Rel X G s a w) (ha : w1.Alike w) (ht : w1.tape = w.tape) : Rel X G s a w1 := by
  obtain ⟨h1, h2, h3⟩ := ha
  have e : w1 = { w with drawn := w1.drawn } := by
    cases w1
    cases w
    simp only at h1 h2 h3 ht
    subst h1 h2 h3 ht
    rfl
  rw [e]
  exact ⟨fun t => VR2.mono (w := w) (w' := { w with drawn := w1.drawn }) (fp' := fp X G) (site' := G.site) (fun _ _ _ hf hc => ⟨hf, hc⟩) (fun _ _ h => h) (fun _ _ _ _ => rfl) (h.tmp t), fun x => MR.mono (w := w) (w' := { w with drawn := w1.drawn }) (fp' := fp X G) (site' := G.site) (fun _ _ _ hf hc => ⟨hf, hc⟩) (fun _ _ h => h) (fun b hb => ⟨hb, rfl⟩) (fun _ _ _ _ => rfl) (h.mem x),
    h.ownI, h.ownS, h.siteI, h.siteF, h.ownF, h.okS, h.okB, ⟨h.fr.os, h.fr.tape, h.fr.output, h.fr.size, h.fr.block, h.fr.cell⟩, h.df⟩
/-- A block that nothing leads to. -/
theorem Rel.grow (h : Rel X G s a w) (ob : Obj) : Rel X G s a (w.alloc ob) := by
  refine h.newBlock ob (fun _ _ h => h) (fun _ _ h => Or.inl h) (fun _ _ _ _ h => Or.inl h) (fun x y h1 h2 => ?_) (fun k j k' j' e e' h1 h2 => ?_) (fun k j e x h1 => ?_) (fun hfp t => ?_) (fun hfp x => ?_) h.df
  · have := (h.siteF _ _ h1).1
    omega
  · have := (h.ownF _ _ _ _ h1).1
    omega
  · have := (h.ownF _ _ _ _ h1).1
    omega
  · exact (h.tmp t).mono hfp (fun _ _ h => h) fun j g e' he => own_heap h _ he
  · exact (h.mem x).mono hfp (fun _ _ h => h) (fun b hb => ⟨hb, Below.heap_alloc w _ b (h.siteF x b hb).1⟩) fun j g e' he => own_heap h _ he
/-- The answer is laid. -/
theorem Rel.ans {lent news : List AV} {v : Value} {r : AV} (h : Rel X G (soutOf .undef lent news) ⟨#[Go.undef], []⟩ w) (hv : VR2 (fp X G) G.site w v r (fun _ => none)) : Rel X { G with own := clr G.own (.t 0) } (soutOf r lent news) ⟨#[v], []⟩ w := by
  have := h.put (d := 0) (by simp) hv
  have e : (soutOf .undef lent news).up (.t 0) r = soutOf r lent news := by
    funext k
    cases k with
    | t i =>
      by_cases hi : i = 0
      · subst hi; rw [S.up_same]; simp [soutOf]
      · rw [S.up_other _ _ (by simp [hi])]; simp [soutOf, hi]
    | m x => rw [S.up_other _ _ (by simp)]; rfl
  rwa [e] at this
/-- A new map with entries. -/
theorem Rel.newMapAt (h : Rel X G s a w) {d y : Nat} (hd : d < a.tmps.size) (hfree : G.site y = none) (hmd : s (.m y) = .undef) {ag : Bool} {ks : List CK} {es : List (List PV × PV)} {ents : Array MapEntry} {clk : Nat} (hmr : MapR (Abs.fp X G) w ents ag ks es) (hst : St ents clk) :
    ∃ G', Rel X G' ((s.up (.m y) (.mc ag ks es)).up (.t d) (.mp y)) (a.put (some d) (.map (some w.heap.size))) (w.alloc (.map ents clk)) ∧ (∀ x, x ≠ y → G'.site x = G.site x) ∧ G'.site y = some w.heap.size := by
  refine ⟨⟨fun x => if x = y then some w.heap.size else G.site x, clr G.own (.t d)⟩, ?_, fun x hx => by simp [hx], by simp⟩
  refine h.newBlock _ (fun x b hb => ?_) (fun x b hb => ?_) (fun k j b e' hb => ?_) (fun x x' h1 h2 => ?_) (fun k j k' j' e' e'' h1 h2 => ?_) (fun k j e' x h1 => ?_) (fun hfp t => ?_) (fun hfp x => ?_) ((put_defers _ _ _).trans h.df)
  · have : x ≠ y := by rintro rfl; rw [hfree] at hb; cases hb
    simp [this, hb]
  · simp only at hb
    split at hb
    · cases hb; exact Or.inr rfl
    · exact Or.inl hb
  · simp only [clr] at hb
    split at hb
    · cases hb
    · exact Or.inl hb
  · simp only at h1 h2
    have key : ∀ z, (if z = y then some w.heap.size else G.site z) = some w.heap.size → z = y := fun z hz => by
      by_cases hzd : z = y
      · exact hzd
      · rw [if_neg hzd] at hz
        have := (h.siteF z _ hz).1
        omega
    rw [key x h1, key x' h2]
  · simp only [clr] at h1
    split at h1
    · cases h1
    · have := (h.ownF _ _ _ _ h1).1
      omega
  · simp only [clr] at h1
    split at h1
    · cases h1
    · have := (h.ownF _ _ _ _ h1).1
      omega
  · have hs : ∀ x b, G.site x = some b → (fun x => if x = y then some w.heap.size else G.site x) x = some b := fun x b hb => by
      have : x ≠ y := by rintro rfl; rw [hfree] at hb; cases hb
      simp [this, hb]
    by_cases ht : t = d
    · subst ht
      rw [getD_put_same hd, S.up_same]
      exact ⟨⟨⟨w.heap.size, by simp, rfl⟩, by simp [clr]⟩, fun _ _ => by simp [clr]⟩
    · rw [getD_put_other ht, S.up_other _ _ (by simp [ht]), S.up_other _ _ (by simp)]
      have e1 : clr G.own (.t d) (.t t) = G.own (.t t) := by funext j; simp [clr, ht]
      simp only [e1]
      exact (h.tmp t).mono hfp hs fun j g e' he => own_heap h _ he
  · have hs : ∀ x b, G.site x = some b → (fun x => if x = y then some w.heap.size else G.site x) x = some b := fun x b hb => by
      have : x ≠ y := by rintro rfl; rw [hfree] at hb; cases hb
      simp [this, hb]
    rw [S.up_other _ _ (by simp)]
    have e1 : clr G.own (.t d) (.m x) = G.own (.m x) := by funext j; simp [clr]
    simp only [e1]
    by_cases hx : x = y
    · subst hx
      rw [S.up_same]
      have hown : G.own (.m x) = fun _ => none := by
        have := h.mem x
        rw [hmd] at this
        funext j
        exact this j
      rw [hown]
      exact ⟨w.heap.size, ents, clk, by simp, heap_alloc_new w _, hmr.mono hfp, fun _ => rfl, hst⟩
    · rw [S.up_other _ _ (by simp [hx])]
      refine (h.mem x).mono hfp hs (fun b hb => ⟨by simp [hx, hb], Below.heap_alloc w _ b (h.siteF x b hb).1⟩) fun j g e' he => own_heap h _ he

end
end Go.Abs
