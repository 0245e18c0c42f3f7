/- The abstract machine: a call of a function whose contract is known. No condition. -/
import Derived.Test.YtgnajpfackfcaaaAbsM
set_option linter.unusedVariables false
set_option linter.unusedSimpArgs false
namespace Go.Abs
open Go.RowKit

section
variable {fp fp' : Nat → Nat → Prop} {site site' : Nat → Option Nat} {w : World} {v : Value} {f : Nat → Option Nat}

theorem VR0.ren (h : ∀ b o v, fp b o → w.cell? ⟨b, o, none⟩ = some v → fp' b o) (hs : ∀ x y b, f x = some y → site x = some b → site' y = some b) {a : AV} {ow : Option (Nat × Nat)} (hv : VR0 fp site w v a ow) : VR0 fp' site' w v (ren0 f a) ow := by
  have hm : ∀ b o v, fp b o → w.cell? ⟨b, o, none⟩ = some v → fp' b o ∧ w.cell? ⟨b, o, none⟩ = some v := fun b o v hf hc => ⟨h b o v hf hc, hc⟩
  cases a with
  | ptr x o =>
    obtain ⟨⟨b, h1, h2⟩, h3⟩ := hv
    simp only [ren0]
    cases hx : f x with
    | none => exact h3
    | some y => exact ⟨⟨b, hs x y b hx h1, h2⟩, h3⟩
  | sr x o n sz =>
    obtain ⟨⟨b, c, h1, h2⟩, h3⟩ := hv
    simp only [ren0]
    cases hx : f x with
    | none => exact h3
    | some y => exact ⟨⟨b, c, hs x y b hx h1, h2⟩, h3⟩
  | agg l => exact hv.elim
  | tup l => exact hv.elim
  | undef => exact hv
  | none => exact hv
  | pv p => exact ⟨hv.1.mono hm, hv.2⟩
  | os e sz es =>
    obtain ⟨xs, h1, h2, h3⟩ := hv
    exact ⟨xs, h1, h2.mono hm, h3⟩
  | rp l => exact VR0.mono (site := site) (site' := site) hm (fun _ _ h => h) (fun _ _ _ => rfl) hv
  | fn g => exact hv
  | pagg l => exact hv.elim

theorem VR1.ren (h : ∀ b o v, fp b o → w.cell? ⟨b, o, none⟩ = some v → fp' b o) (hs : ∀ x y b, f x = some y → site x = some b → site' y = some b) {a : AV} {ow : Nat → Option (Nat × Nat)} (hv : VR1 fp site w v a ow) : VR1 fp' site' w v (ren1 f a) ow := by
  have hm : ∀ b o v, fp b o → w.cell? ⟨b, o, none⟩ = some v → fp' b o ∧ w.cell? ⟨b, o, none⟩ = some v := fun b o v hf hc => ⟨h b o v hf hc, hc⟩
  cases a
  case agg l =>
    obtain ⟨⟨cs, h1, h2, h3⟩, h4⟩ := hv
    refine ⟨⟨cs, h1, by simpa using h2, fun j c u hc hu => ?_⟩, fun j hj => h4 j (by simpa using hj)⟩
    rw [List.getElem?_map, Option.map_eq_some_iff] at hc
    obtain ⟨c', hc, rfl⟩ := hc
    exact (h3 j c' u hc hu).ren h hs
  case pagg l =>
    obtain ⟨⟨cs, h1, h2⟩, h3⟩ := hv
    exact ⟨⟨cs, h1, h2.mono hm⟩, h3⟩
  case tup l => exact hv.1.elim
  case ptr x o =>
    have := VR0.ren (a := .ptr x o) h hs hv.1
    simp only [ren1]
    simp only [ren0] at this ⊢
    cases hx : f x <;> rw [hx] at this <;> exact ⟨this, hv.2⟩
  case sr x o n sz =>
    have := VR0.ren (a := .sr x o n sz) h hs hv.1
    simp only [ren1]
    simp only [ren0] at this ⊢
    cases hx : f x <;> rw [hx] at this <;> exact ⟨this, hv.2⟩
  case undef => exact ⟨VR0.ren (a := .undef) h hs hv.1, hv.2⟩
  case none => exact ⟨VR0.ren (a := .none) h hs hv.1, hv.2⟩
  case pv p => exact ⟨VR0.ren (a := .pv p) h hs hv.1, hv.2⟩
  case os e sz es => exact ⟨VR0.ren (a := .os e sz es) h hs hv.1, hv.2⟩
  case rp l => exact ⟨VR0.ren (a := .rp l) h hs hv.1, hv.2⟩
  case fn g => exact ⟨VR0.ren (a := .fn g) h hs hv.1, hv.2⟩

theorem VR2.ren (h : ∀ b o v, fp b o → w.cell? ⟨b, o, none⟩ = some v → fp' b o) (hs : ∀ x y b, f x = some y → site x = some b → site' y = some b) {a : AV} {ow : Nat → Option (Nat × Nat)} (hv : VR2 fp site w v a ow) : VR2 fp' site' w v (ren2 f a) ow := by
  by_cases ht : ∃ l, a = .tup l
  · obtain ⟨l, rfl⟩ := ht
    obtain ⟨⟨vs, h1, h2, h3⟩, h4⟩ := hv
    refine ⟨⟨vs, h1, by simpa using h2, fun j c u hc hu => ?_⟩, fun j hj => h4 j (by simpa using hj)⟩
    rw [List.getElem?_map, Option.map_eq_some_iff] at hc
    obtain ⟨c', hc, rfl⟩ := hc
    exact (h3 j c' u hc hu).ren h hs
  · have hn : ∀ l, a ≠ .tup l := fun l hl => ht ⟨l, hl⟩
    rw [VR2_eq hn] at hv
    have e : ren2 f a = ren1 f a := by cases a <;> first | rfl | exact absurd rfl (hn _)
    rw [e]
    have := hv.ren (f := f) h hs
    rwa [VR2_eq]
    intro l hl
    cases a <;> first | (cases hl; done) | (exact hn _ rfl) | (simp only [ren1, ren0] at hl; split at hl <;> cases hl)

theorem PR.flat {p : PV} (h : PR fp w v p) (hf : (AV.pv p).flat0) : PR fp' w v p := by
  cases h with
  | bool b => exact .bool b
  | int k n => exact .int k n
  | str s => exact .str s
  | nilp => exact .nilp
  | sl0 => exact hf.elim
  | sl => exact hf.elim

theorem VR1.flat {a : AV} {ow : Nat → Option (Nat × Nat)} (hv : VR1 fp site w v a ow) (hf : a.flat0) : VR1 fp' site' w v (ren1 f a) ow := by
  cases a <;> simp only [AV.flat0] at hf
  case undef => exact hv
  case none => exact hv
  case pv p => exact ⟨⟨hv.1.1.flat hf, hv.1.2⟩, hv.2⟩
  case pagg l =>
    obtain ⟨⟨cs, h1, h2⟩, h3⟩ := hv
    refine ⟨⟨cs, h1, ⟨h2.1, fun j u p hu hp => ?_⟩⟩, h3⟩
    exact (h2.2 j u p hu hp).flat (by have := hf p (List.mem_of_getElem? hp); cases p <;> first | exact this.elim | trivial)
theorem VR2.flat {a : AV} {ow : Nat → Option (Nat × Nat)} (hv : VR2 fp site w v a ow) (hf : a.flat) : VR2 fp' site' w v (ren2 f a) ow := by
  by_cases ht : ∃ l, a = .tup l
  · obtain ⟨l, rfl⟩ := ht
    obtain ⟨⟨vs, h1, h2, h3⟩, h4⟩ := hv
    refine ⟨⟨vs, h1, by simpa using h2, fun j c u hc hu => ?_⟩, fun j hj => h4 j (by simpa using hj)⟩
    rw [List.getElem?_map, Option.map_eq_some_iff] at hc
    obtain ⟨c', hc, rfl⟩ := hc
    exact (h3 j c' u hc hu).flat (hf c' (List.mem_of_getElem? hc))
  · have hn : ∀ l, a ≠ .tup l := fun l hl => ht ⟨l, hl⟩
    rw [VR2_eq hn] at hv
    have hf' : a.flat0 := by cases a <;> first | exact hf | exact absurd rfl (hn _)
    have e : ren2 f a = ren1 f a := by cases a <;> first | rfl | exact absurd rfl (hn _)
    rw [e]
    have := hv.flat (fp' := fp') (site' := site') (f := f) hf'
    rwa [VR2_eq]
    intro l hl
    cases a <;> first | (cases hl; done) | (exact hn _ rfl) | exact hf'.elim
end

theorem idx_back {lent : List Nat} {x k : Nat} (h : (lent.idxOf? x) = some k) : lent[k]? = some x := by
  induction lent generalizing k with
  | nil => simp at h
  | cons y r ih =>
    rw [List.idxOf?_cons] at h
    split at h
    · rename_i hy
      cases h
      simp only [beq_iff_eq] at hy
      simp [hy]
    · rw [Option.map_eq_some_iff] at h
      obtain ⟨k', h, rfl⟩ := h
      simpa using ih h
end Go.Abs
