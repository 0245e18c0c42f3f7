/- The abstract machine's operations on memory answer as the model's do: values, variables, loads, stores. No condition. -/
import Derived.Test.YtgnajpfackfcaaaAbsH
set_option linter.unusedVariables false
set_option linter.unusedSimpArgs false
namespace Go.Abs
open Go.RowKit

/-- What an operation leaves. -/
def Nxt (P : Program) (X : Ctx) (G : Gh) (o : Oper) (a : Act) (w : World) (s' : S) (mk : List Nat) : Prop :=
  ∃ a' w' G', (∀ (K : Act → World → Prop) (Q : Exit → Act → World → Prop), K a' w' → o.wp P a w K Q) ∧ Rel X G' s' a' w' ∧ a'.tmps.size = a.tmps.size ∧ ∀ x, x ∉ mk → G'.site x = G.site x

section
variable {P : Program} {X : Ctx} {G G' : Gh} {s s' : S} {a : Act} {w w' : World} {o : Oper} {c : Prop} {U : List (Key × AV)} {v : Value} {N : Nat} {mk : List Nat}

theorem Nxt.value (hr : (execOp a.eval o).run P w = .ok (.value v) w') (h : Rel X G' s' (a.put o.dst v) w') (hs : ∀ x, x ∉ mk → G'.site x = G.site x) : Nxt P X G o a w s' mk :=
  ⟨_, _, G', fun K Q hK => by unfold Oper.wp; rw [hr]; exact hK, h, put_size _ _ _, hs⟩
theorem Nxt.skip (hr : (execOp a.eval o).run P w = .ok .skip w') (hd : o.dst = none) (h : Rel X G' s' a w') (hs : ∀ x, x ∉ mk → G'.site x = G.site x) : Nxt P X G o a w s' mk :=
  ⟨_, _, G', fun K Q hK => by unfold Oper.wp; rw [hr]; simp only [Oper.upon, hd, Act.put]; exact hK, h, rfl, hs⟩

theorem okDst_spec {d : Nat} (h : okDst N d o = true) : o.dst = some d ∧ d < N := by simpa [okDst] using h

theorem okC_VR0 {fp : Nat → Nat → Prop} {site : Nat → Option Nat} {a : AV} {u : Value} (h : okC a u = true) : VR0 fp site w u a none := by
  have := okC_sound (fp := fp) (site := site) (w := w) h
  unfold okC at h
  split at h
  · exact this.1
  · exact this.1
  · exact this.1
  · exact this.1
  · exact this.1
  · cases h

theorem zip_at {α β : Type} {f : α × β → Bool} {l : List α} {r : List β} (h : (l.zip r).all f = true) {j : Nat} {x : α} {y : β} (hx : l[j]? = some x) (hy : r[j]? = some y) : f (x, y) = true := by
  rw [List.all_eq_true] at h
  exact h _ (List.mem_of_getElem? (i := j) (by simp [List.getElem?_zip_eq_some, hx, hy]))

theorem okCells_V2 {fp : Nat → Nat → Prop} {site : Nat → Option Nat} {z : AV} {cs : Array Value} (h : okCells z cs.toList = true) : V2 fp site w (.agg cs) z ∧ z.isAgg := by
  unfold okCells at h
  split at h
  · simp only [Bool.and_eq_true, beq_iff_eq] at h
    refine ⟨⟨⟨cs, rfl, ⟨h.1.symm, fun j u p hu hp => ?_⟩⟩, fun _ => rfl⟩, trivial⟩
    exact (okC_VR0 (site := fun _ => none) (zip_at h.2 hp hu)).1
  · simp only [Bool.and_eq_true, beq_iff_eq] at h
    refine ⟨⟨⟨cs, rfl, by simpa using h.1.symm, fun j p u hp hu => ?_⟩, fun _ _ => rfl⟩, trivial⟩
    exact okC_VR0 (zip_at h.2 hp (by simpa using hu))
  · cases h

theorem zero_spec {e : TypeId} {z : AV} (h : okZero P e z = true) : ∃ zv, (∀ w, (zeroValue e).run P w = .ok zv w) ∧ okCells z zv.cells.toList = true := by
  unfold okZero at h
  split at h
  · rename_i zv hz
    refine ⟨zv, fun w => ?_, h⟩
    unfold zeroOf at hz
    obtain ⟨i, hi, hz⟩ := Option.bind_eq_some_iff.1 hz
    simp [zeroValue, typeInfo, hi, hz]
  · cases h

theorem i_p {d : Nat} {po : POp} {xs : List Opd} (hR : Rel X G s a w) (hN : a.tmps.size = N) (hok : okI P N (.p d po xs) o = true) (he : eff s (.p d po xs) = some (c, U)) (hc : c) : Nxt P X G o a w (s.ups U) mk := by
  simp only [okI, Bool.and_eq_true] at hok
  obtain ⟨h1, h2⟩ := hok
  obtain ⟨hd, hlt⟩ := okDst_spec h1
  simp only [eff] at he
  split at he
  · rename_i c' r hp
    cases he
    obtain ⟨v, hr, hv⟩ := pSound hR.opdp h2 hp hc
    exact Nxt.value (G' := { G with own := clr G.own (.t d) }) hr (by rw [hd]; exact hR.put (by rw [hN]; exact hlt) hv) fun _ _ => rfl
  · cases he

theorem i_mv {d n : Nat} (hR : Rel X G s a w) (hN : a.tmps.size = N) (hok : okI P N (.mv d n) o = true) (he : eff s (.mv d n) = some (c, U)) : Nxt P X G o a w (s.ups U) mk := by
  simp only [okI, Bool.and_eq_true, bne_iff_ne] at hok
  obtain ⟨⟨h1, h2⟩, h3⟩ := hok
  obtain ⟨hd, hlt⟩ := okDst_spec h1
  cases he
  obtain ⟨G', hR', hs⟩ := hR.move (by rw [hN]; exact hlt) h2
  split at h3
  · rename_i m hop
    simp only [beq_iff_eq] at h3
    subst h3
    exact Nxt.value (v := a.tmps.getD m Go.undef) (by simp only [execOp, hop]; rfl) (by rw [hd]; exact hR') fun x _ => hs x
  · rename_i m hop
    simp only [beq_iff_eq] at h3
    subst h3
    exact Nxt.value (v := a.tmps.getD m Go.undef) (by simp only [execOp, hop]; rfl) (by rw [hd]; exact hR') fun x _ => hs x
  · cases h3

theorem i_alloc {d : Nat} {z : AV} (hR : Rel X G s a w) (hN : a.tmps.size = N) (hfree : G.site d = none) (hmd : s (.m d) = .undef) (hok : okI P N (.alloc d z) o = true) (he : eff s (.alloc d z) = some (c, U)) : Nxt P X G o a w (s.ups U) [d] := by
  simp only [okI, Bool.and_eq_true] at hok
  obtain ⟨h1, h2⟩ := hok
  obtain ⟨hd, hlt⟩ := okDst_spec h1
  cases he
  split at h2
  · rename_i e hop
    obtain ⟨zv, hz, hcs⟩ := zero_spec h2
    obtain ⟨hv, hagg⟩ := okCells_V2 (w := w) (fp := fp X G) (site := G.site) hcs
    obtain ⟨G', hR', hs⟩ := hR.newSite (d := d) (e := e) (by rw [hN]; exact hlt) hfree hmd hv hagg
    refine Nxt.value (v := .pointer (some ⟨w.heap.size, 0, none⟩)) (w' := w.alloc (.cells zv.cells e)) ?_ (by rw [hd]; exact hR') fun x hx => hs x (by simpa using hx)
    simp [execOp, hop, Instr.alloc, hz, newVar, newRow, newObj, Sem.run]
  · cases h2

theorem toCells_V2 {fp : Nat → Nat → Prop} {site : Nat → Option Nat} {x z : AV} (h : toCells x = some z) (hv : V2 fp site w v x) : V2 fp site w (.agg v.cells) z ∧ z.isAgg := by
  have key : ∀ (a : AV), VR0 fp site w v a none → v.cells = #[v] → V2 fp site w (.agg v.cells) (.agg [a]) := fun a ha hc => by
    refine ⟨⟨#[v], by rw [hc], rfl, fun j cc u h1 h2 => ?_⟩, fun _ _ => rfl⟩
    cases j with
    | zero => simp at h1 h2; subst h1 h2; exact ha
    | succ j => simp at h1
  cases x <;> simp only [toCells, AV.storable, Option.some.injEq, if_true, Bool.false_eq_true, if_false, reduceCtorEq] at h <;> subst h
  case pv p =>
    refine ⟨⟨⟨#[v], by rw [hv.pv.cells], ⟨rfl, fun j u q h1 h2 => ?_⟩⟩, fun _ => rfl⟩, trivial⟩
    cases j with
    | zero => simp at h1 h2; subst h1 h2; exact hv.pv
    | succ j => simp at h1
  case pagg l => obtain ⟨⟨cs, rfl, h1⟩, h2⟩ := hv; exact ⟨⟨⟨cs, rfl, h1⟩, h2⟩, trivial⟩
  case agg l => obtain ⟨⟨cs, rfl, h1⟩, h2⟩ := hv; exact ⟨⟨⟨cs, rfl, h1⟩, h2⟩, trivial⟩
  case os e sz es =>
    refine ⟨key _ hv.1 ?_, trivial⟩
    obtain ⟨xs, h1, _⟩ := hv.1
    rcases h1.2 with ⟨rfl, _⟩ | ⟨g, cap, cur, rfl, _⟩ <;> rfl
  case ptr y o => exact ⟨key _ hv.1 (by obtain ⟨b, _, rfl⟩ := hv.ptr; rfl), trivial⟩
  case rp l => exact ⟨key _ hv.1 (by obtain ⟨b, oo, rfl, _⟩ := hv.rp; rfl), trivial⟩
  case sr y o n sz => exact ⟨key _ hv.1 (by obtain ⟨b, cc, _, rfl, _⟩ := hv.sr; rfl), trivial⟩
  case fn f => exact ⟨key _ hv.1 (by have := hv.1.1; subst this; rfl), trivial⟩

theorem i_box {d : Nat} {x : Opd} (hR : Rel X G s a w) (hN : a.tmps.size = N) (hfree : G.site d = none) (hmd : s (.m d) = .undef) (hok : okI P N (.box d x) o = true) (he : eff s (.box d x) = some (c, U)) : Nxt P X G o a w (s.ups U) [d] := by
  simp only [okI, Bool.and_eq_true] at hok
  obtain ⟨h1, h2⟩ := hok
  obtain ⟨hd, hlt⟩ := okDst_spec h1
  simp only [eff] at he
  split at he
  · rename_i z hz
    cases he
    split at h2
    · rename_i e y hop
      have hx := hR.opd _ _ h2
      obtain ⟨hv, hagg⟩ := toCells_V2 hz hx
      obtain ⟨G', hR', hs⟩ := hR.newSite (d := d) (e := e) (by rw [hN]; exact hlt) hfree hmd hv hagg
      refine Nxt.value (v := .pointer (some ⟨w.heap.size, 0, none⟩)) (w' := w.alloc (.cells (a.eval y).cells e)) ?_ (by rw [hd]; exact hR') fun x hx => hs x (by simpa using hx)
      simp [execOp, hop, Instr.box, newVar, newRow, newObj, Sem.run]
    · cases h2
  · cases he

/-- What an aggregate holds, once some of its cells are replaced. -/
def ow1 (ow : Nat → Option (Nat × Nat)) (o : Nat) (ov : Option (Nat × Nat)) (j : Nat) : Option (Nat × Nat) := if j = o then ov else ow j

theorem splice_get {α : Type} {l vs : List α} {o j : Nat} (h : o + vs.length ≤ l.length) : (l.take o ++ vs ++ l.drop (o + vs.length))[j]? = if j < o then l[j]? else if j < o + vs.length then vs[j - o]? else l[j]? := by
  rw [List.append_assoc, List.getElem?_append, List.getElem?_append]
  simp only [List.length_take, List.getElem?_take, List.getElem?_drop]
  have : min o l.length = o := by omega
  rw [this]
  split
  · rfl
  · split
    · rw [if_pos (by omega)]
    · rw [if_neg (by omega)]
      congr 1
      omega

/-- A scalar put into an aggregate. -/
theorem put0 {fp : Nat → Nat → Prop} {site : Nat → Option Nat} {z r v0 : AV} {o : Nat} {cs : Array Value} {ow : Nat → Option (Nat × Nat)} {ov : Option (Nat × Nat)} {u : Value}
    (hz : VR1 fp site w (.agg cs) z ow) (hagg : z.isAgg) (hv : VR0 fp site w u v0 ov) (hst : v0.storable = true) (hp : putA z o v0 = some (c, r)) (hc : c) :
    o < cs.size ∧ VR1 fp site w (.agg (cs.setIfInBounds o u)) r (ow1 ow o ov) ∧ r.isAgg := by
  have genA : ∀ l : List AV, VR1 fp site w (.agg cs) (.agg l) ow → o < l.length → o < cs.size ∧ VR1 fp site w (.agg (cs.setIfInBounds o u)) (.agg (l.set o v0)) (ow1 ow o ov) := by
    intro l hl hlt
    obtain ⟨⟨cs', e, h1, h2⟩, h3⟩ := hl
    cases e
    refine ⟨by omega, ⟨_, rfl, by simp [h1], fun j cc uu hj hu => ?_⟩, fun j hj => ?_⟩
    · rw [List.getElem?_set] at hj
      rw [Array.getElem?_setIfInBounds] at hu
      unfold ow1
      by_cases hjo : o = j
      · subst hjo
        rw [if_pos rfl, if_pos hlt] at hj
        rw [if_pos rfl] at hu
        cases hj
        split at hu
        · cases hu; rw [if_pos rfl]; exact hv
        · cases hu
      · rw [if_neg hjo] at hj hu
        rw [if_neg (Ne.symm hjo)]
        exact h2 j cc uu hj hu
    · unfold ow1
      rw [List.length_set] at hj
      rw [if_neg (by omega)]
      exact h3 j hj
  have toA : ∀ l : List PV, VR1 fp site w (.agg cs) (.pagg l) ow → VR1 fp site w (.agg cs) (.agg (l.map AV.pv)) ow := by
    intro l hl
    obtain ⟨⟨cs', e, h1⟩, h3⟩ := hl
    cases e
    refine ⟨⟨cs, rfl, by simpa using h1.1, fun j cc uu hj hu => ?_⟩, fun j _ => h3 j⟩
    rw [List.getElem?_map, Option.map_eq_some_iff] at hj
    obtain ⟨p, hp, rfl⟩ := hj
    exact ⟨h1.2 j uu p (by simpa using hu) hp, h3 j⟩
  cases z <;> simp only [AV.isAgg] at hagg
  case pagg l =>
    cases v0 <;> simp only [AV.storable, Bool.false_eq_true] at hst
    case pv p =>
      simp only [putA, Option.some.injEq, Prod.mk.injEq] at hp
      obtain ⟨rfl, rfl⟩ := hp
      obtain ⟨⟨cs', e, h1⟩, h3⟩ := hz
      cases e
      have hl : cs.size = l.length := by simpa using h1.1
      refine ⟨by omega, ⟨⟨_, rfl, ?_⟩, fun j => ?_⟩, trivial⟩
      · rw [Array.toList_setIfInBounds]
        exact h1.set o hv.1
      · unfold ow1
        split
        · exact hv.2
        · exact h3 j
    all_goals
      simp only [putA, AV.storable, if_true, Option.some.injEq, Prod.mk.injEq] at hp
      obtain ⟨rfl, rfl⟩ := hp
      obtain ⟨q1, q2⟩ := genA _ (toA l hz) (by simpa using hc)
      exact ⟨q1, q2, trivial⟩
  case agg l =>
    cases v0 <;> simp only [AV.storable, Bool.false_eq_true] at hst
    all_goals
      simp only [putA, AV.storable, if_true, Option.some.injEq, Prod.mk.injEq] at hp
      obtain ⟨rfl, rfl⟩ := hp
      obtain ⟨q1, q2⟩ := genA _ hz hc
      exact ⟨q1, q2, trivial⟩
end
end Go.Abs
