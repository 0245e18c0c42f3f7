/- The abstract machine's operations on memory answer as the model's do: aggregates that are built, slices that are built. No condition. -/
import Derived.Test.YtgnajpfackfcaaaAbsI
import Derived.Great.BuildSlice
set_option linter.unusedVariables false
set_option linter.unusedSimpArgs false
namespace Go.Abs
open Go.RowKit

def spl (cs : Array Value) (o : Nat) (vs : Array Value) : Array Value := (cs.toList.take o ++ vs.toList ++ cs.toList.drop (o + vs.size)).toArray

section
variable {P : Program} {X : Ctx} {G G' : Gh} {s s' : S} {a : Act} {w w' : World} {o : Oper} {c : Prop} {U : List (Key × AV)} {v : Value} {N : Nat} {mk : List Nat}
variable {fp : Nat → Nat → Prop} {site : Nat → Option Nat}

theorem spl_get {cs vs : Array Value} {o j : Nat} (h : o + vs.size ≤ cs.size) : (spl cs o vs)[j]? = if j < o then cs[j]? else if j < o + vs.size then vs[j - o]? else cs[j]? := by
  have := splice_get (l := cs.toList) (vs := vs.toList) (o := o) (j := j) (by simpa using h)
  simpa [spl] using this
theorem spl_size {cs vs : Array Value} {o : Nat} (h : o + vs.size ≤ cs.size) : (spl cs o vs).size = cs.size := by
  simp [spl]; omega
theorem spl_one {cs : Array Value} {o : Nat} {u : Value} (h : o < cs.size) : spl cs o #[u] = cs.setIfInBounds o u := by
  apply Array.ext_getElem?
  intro j
  rw [spl_get (show o + 1 ≤ cs.size from h), Array.getElem?_setIfInBounds]
  by_cases h1 : j < o
  · rw [if_pos h1, if_neg (by omega)]
  · rw [if_neg h1]
    by_cases h2 : j = o
    · subst h2; simp [h]
    · have : ¬ j < o + 1 := by omega
      simp [this, Ne.symm h2]

theorem fold_spl : ∀ (vs : List Value) (off k : Nat) (cs : Array Value), off + k + vs.length ≤ cs.size →
    ((vs.zipIdx k).foldl (fun cs (p : Value × Nat) => cs.setIfInBounds (off + p.2) p.1) cs) = spl cs (off + k) vs.toArray
  | [], off, k, cs, h => by simp [spl]
  | u :: vs, off, k, cs, h => by
    simp only [List.zipIdx_cons, List.foldl_cons]
    simp only [List.length_cons] at h
    rw [fold_spl vs off (k + 1) _ (by simp; omega)]
    apply Array.ext_getElem?
    intro j
    rw [spl_get (by simp; omega), spl_get (by simp; omega), Array.getElem?_setIfInBounds]
    simp only [List.size_toArray, List.length_cons]
    by_cases h1 : j < off + k
    · rw [if_pos h1, if_pos (by omega), if_neg (by omega)]
    · by_cases h2 : j = off + k
      · subst h2
        rw [if_pos (by omega), if_pos rfl, if_pos (by omega), if_neg (by omega), if_pos (by omega)]
        simp
      · rw [if_neg (show ¬ j < off + k by omega), if_neg (show ¬ j < off + (k + 1) by omega)]
        by_cases h3 : j < off + k + (vs.length + 1)
        · rw [if_pos (by omega), if_pos h3]
          rw [show j - (off + k) = (j - (off + (k + 1))) + 1 by omega]
          simp
        · rw [if_neg (by omega), if_neg h3, if_neg (by omega)]

def owN (ow : Nat → Option (Nat × Nat)) (o n : Nat) (j : Nat) : Option (Nat × Nat) := if o ≤ j ∧ j < o + n then none else ow j

theorem pagg_agg {cs : Array Value} {l : List PV} {ow : Nat → Option (Nat × Nat)} (hl : VR1 fp site w (.agg cs) (.pagg l) ow) : VR1 fp site w (.agg cs) (.agg (l.map AV.pv)) ow := by
  obtain ⟨⟨cs', e, h1⟩, h3⟩ := hl
  cases e
  refine ⟨⟨cs, rfl, by simpa using h1.1, fun j cc uu hj hu => ?_⟩, fun j _ => h3 j⟩
  rw [List.getElem?_map, Option.map_eq_some_iff] at hj
  obtain ⟨p, hp, rfl⟩ := hj
  exact ⟨h1.2 j uu p (by simpa using hu) hp, h3 j⟩

theorem agg_splice {cs vs : Array Value} {l lv : List AV} {ow : Nat → Option (Nat × Nat)} {o : Nat} (hz : VR1 fp site w (.agg cs) (.agg l) ow) (hv : VR1 fp site w (.agg vs) (.agg lv) (fun _ => none)) (hle : o + lv.length ≤ l.length) :
    o + vs.size ≤ cs.size ∧ vs.size = lv.length ∧ VR1 fp site w (.agg (spl cs o vs)) (.agg (l.take o ++ lv ++ l.drop (o + lv.length))) (owN ow o vs.size) := by
  obtain ⟨⟨cs', e, h1, h2⟩, h3⟩ := hz
  cases e
  obtain ⟨⟨vs', e, g1, g2⟩, g3⟩ := hv
  cases e
  have hle' : o + vs.size ≤ cs.size := by omega
  refine ⟨hle', g1, ⟨_, rfl, by rw [spl_size hle', h1]; simp; omega, fun j cc u hj hu => ?_⟩, fun j hj => ?_⟩
  · rw [splice_get hle] at hj
    rw [spl_get hle'] at hu
    unfold owN
    by_cases q1 : j < o
    · rw [if_pos q1] at hj hu
      rw [if_neg (by omega)]
      exact h2 j cc u hj hu
    · rw [if_neg q1] at hj hu
      by_cases q2 : j < o + lv.length
      · rw [if_pos q2] at hj
        rw [if_pos (by omega)] at hu
        rw [if_pos (by omega)]
        exact g2 _ cc u hj hu
      · rw [if_neg q2] at hj
        rw [if_neg (by omega)] at hu
        rw [if_neg (by omega)]
        exact h2 j cc u hj hu
  · unfold owN
    simp at hj
    rw [if_neg (by omega)]
    exact h3 j (by omega)

/-- An aggregate put into an aggregate. -/
theorem putN {z r v0 : AV} {o : Nat} {cs vs : Array Value} {ow : Nat → Option (Nat × Nat)}
    (hz : VR1 fp site w (.agg cs) z ow) (hagg : z.isAgg) (hv : VR1 fp site w (.agg vs) v0 (fun _ => none)) (hva : v0.isAgg) (hp : putA z o v0 = some (c, r)) (hc : c) :
    o + vs.size ≤ cs.size ∧ VR1 fp site w (.agg (spl cs o vs)) r (owN ow o vs.size) ∧ r.isAgg ∧ vs.size = avSize v0 := by
  have e0 : ∀ {l lv : List AV} {rr : AV}, VR1 fp site w (.agg cs) (.agg l) ow → VR1 fp site w (.agg vs) (.agg lv) (fun _ => none) → o + lv.length ≤ l.length → rr = .agg (l.take o ++ lv ++ l.drop (o + lv.length)) →
      o + vs.size ≤ cs.size ∧ VR1 fp site w (.agg (spl cs o vs)) rr (owN ow o vs.size) ∧ rr.isAgg ∧ vs.size = lv.length := by
    intro l lv rr h1 h2 h3 h4
    subst h4
    obtain ⟨q1, q2, q3⟩ := agg_splice h1 h2 h3
    exact ⟨q1, q3, trivial, q2⟩
  cases z <;> simp only [AV.isAgg] at hagg <;> cases v0 <;> simp only [AV.isAgg] at hva
  case pagg.pagg l lv =>
    simp only [putA, Option.some.injEq, Prod.mk.injEq] at hp
    obtain ⟨rfl, rfl⟩ := hp
    obtain ⟨⟨cs', e, h1⟩, h3⟩ := hz
    cases e
    obtain ⟨⟨vs', e, g1⟩, _⟩ := hv
    cases e
    have e1 : vs.size = lv.length := by simpa using g1.1
    have e2 : cs.size = l.length := by simpa using h1.1
    refine ⟨by omega, ⟨⟨_, rfl, ?_⟩, fun j => ?_⟩, trivial, e1⟩
    · have := ((h1.take o).append g1).append (h1.drop (o + lv.length))
      simpa [spl, e1] using this
    · unfold owN; split
      · rfl
      · exact h3 j
  case pagg.agg l lv =>
    simp only [putA, Option.some.injEq, Prod.mk.injEq] at hp
    obtain ⟨rfl, rfl⟩ := hp
    exact e0 (pagg_agg hz) hv (by simpa using hc.1) (by rw [← List.map_take, ← List.map_drop])
  case agg.pagg l lv =>
    simp only [putA, Option.some.injEq, Prod.mk.injEq] at hp
    obtain ⟨rfl, rfl⟩ := hp
    have := e0 hz (pagg_agg hv) (by simpa using hc) rfl
    simpa [avSize] using this
  case agg.agg l lv =>
    simp only [putA, Option.some.injEq, Prod.mk.injEq] at hp
    obtain ⟨rfl, rfl⟩ := hp
    exact e0 hz hv hc.1 rfl

theorem VR0.one {a : AV} {ow : Option (Nat × Nat)} (h : VR0 fp site w v a ow) (hs : a.storable = true) : v.oneCell' = true ∧ v.cells = #[v] := by
  cases a <;> simp only [AV.storable, Bool.false_eq_true] at hs
  · exact ⟨h.1.one, h.1.cells⟩
  · obtain ⟨xs, h1, _⟩ := h
    rcases h1.2 with ⟨rfl, _⟩ | ⟨g, cap, cur, rfl, _⟩ <;> exact ⟨rfl, rfl⟩
  · obtain ⟨⟨b, _, rfl⟩, _⟩ := h; exact ⟨rfl, rfl⟩
  · obtain ⟨⟨b, oo, rfl, _⟩, _⟩ := h; exact ⟨rfl, rfl⟩
  · obtain ⟨⟨b, cc, _, rfl, _⟩, _⟩ := h; exact ⟨rfl, rfl⟩
  · obtain ⟨rfl, _⟩ := h; exact ⟨rfl, rfl⟩

theorem owN_none (o n : Nat) : owN (fun _ => none) o n = fun _ => none := by funext j; simp [owN]
theorem ow1_none (o : Nat) : ow1 (fun _ => none) o none = fun _ => none := by funext j; simp [ow1]

theorem V2_VR1 {a : AV} (h : V2 fp site w v a) (ha : a.isAgg) : VR1 fp site w v a (fun _ => none) := by cases a <;> first | exact h | exact ha.elim
theorem V2_VR0 {a : AV} (h : V2 fp site w v a) (ha : a.storable = true) : VR0 fp site w v a none := by
  cases a <;> simp only [AV.storable, Bool.false_eq_true] at ha <;> exact h.1
theorem VR1_V2 {a : AV} (h : VR1 fp site w v a (fun _ => none)) : V2 fp site w v a := by
  cases a <;> first | exact h | exact h.1.elim

/-- A value put into an aggregate. -/
theorem putV {z r v0 : AV} {o : Nat} {cs : Array Value} {u : Value}
    (hz : VR1 fp site w (.agg cs) z (fun _ => none)) (hagg : z.isAgg) (hv : V2 fp site w u v0) (hp : putA z o v0 = some (c, r)) (hc : c) :
    o + u.cells.size ≤ cs.size ∧ VR1 fp site w (.agg (spl cs o u.cells)) r (fun _ => none) ∧ r.isAgg ∧ u.cells.size = avSize v0 := by
  by_cases hst : v0.storable = true
  · have hv0 := V2_VR0 hv hst
    obtain ⟨_, hcells⟩ := hv0.one hst
    obtain ⟨q1, q2, q3⟩ := put0 hz hagg hv0 hst hp hc
    rw [ow1_none] at q2
    rw [hcells]
    refine ⟨q1, ?_, q3, ?_⟩
    · rw [spl_one q1]; exact q2
    · cases v0 <;> simp only [AV.storable, Bool.false_eq_true] at hst <;> rfl
  · have hva : v0.isAgg := by
      cases z <;> simp only [AV.isAgg] at hagg <;> cases v0 <;> first | trivial | exact absurd rfl hst | simp [putA, AV.storable] at hp
    have hv1 := V2_VR1 hv hva
    have hu : ∃ vs, u = .agg vs := by
      cases v0 <;> simp only [AV.isAgg] at hva
      · obtain ⟨⟨vs, rfl, _⟩, _⟩ := hv1; exact ⟨vs, rfl⟩
      · obtain ⟨⟨vs, rfl, _⟩, _⟩ := hv1; exact ⟨vs, rfl⟩
    obtain ⟨vs, rfl⟩ := hu
    obtain ⟨q1, q2, q3, q4⟩ := putN hz hagg hv1 hva hp hc
    rw [owN_none] at q2
    exact ⟨q1, q2, q3, q4⟩

theorem fill_sound {place : Nat → Option (Nat × Nat)} (H : OpdR fp site w a.eval (fun x => (ev s x).dem2)) : ∀ (ps : List (Nat × Nat × Opd)) (ps' : List (Nat × Operand)) (z r : AV) (c : Prop) (cs : Array Value),
    okPlaces place ps ps' = true → fillA s z ps = some (c, r) → c → VR1 fp site w (.agg cs) z (fun _ => none) → z.isAgg →
    ∃ cs', Instr.fill place cs (ps'.map fun (i, x) => (i, a.eval x)) = some cs' ∧ VR1 fp site w (.agg cs') r (fun _ => none) ∧ r.isAgg := by
  intro ps
  induction ps with
  | nil =>
    intro ps' z r c cs h1 h2 _ h3 h4
    cases ps' with
    | nil => simp only [fillA, Option.some.injEq, Prod.mk.injEq] at h2; obtain ⟨_, rfl⟩ := h2; exact ⟨cs, rfl, h3, h4⟩
    | cons _ _ => simp [okPlaces] at h1
  | cons p ps ih =>
    intro ps' z r c cs h1 h2 hc h3 h4
    obtain ⟨off, n, x⟩ := p
    cases ps' with
    | nil => simp [okPlaces] at h1
    | cons p' ps' =>
      obtain ⟨i, y⟩ := p'
      simp only [okPlaces, Bool.and_eq_true, decide_eq_true_eq] at h1
      obtain ⟨⟨hpl, hx⟩, h1⟩ := h1
      simp only [fillA] at h2
      split at h2
      · rename_i c1 z1 hput
        split at h2
        · rename_i c2 z2 hfill
          cases h2
          obtain ⟨hn, hc1, hc2⟩ := hc
          obtain ⟨q1, q2, q3, q4⟩ := putV h3 h4 (H _ _ hx) hput hc1
          dsimp only at q4
          obtain ⟨cs', g1, g2, g3⟩ := ih ps' z1 r c2 _ h1 hfill hc2 q2 q3
          refine ⟨cs', ?_, g2, g3⟩
          have hsz : (a.eval y).cells.size = n := by rw [q4]; exact hn
          have hfold : (a.eval y).cells.zipIdx.foldl (fun cs (x : Value × Nat) => cs.setIfInBounds (off + x.2) x.1) cs = spl cs off (a.eval y).cells := by
            have := fold_spl (a.eval y).cells.toList off 0 cs (by simpa using q1)
            rw [← Array.foldl_toList, Array.toList_zipIdx]
            simpa using this
          simp only [List.map_cons, Instr.fill, hpl]
          rw [if_neg (by simp [hsz]; omega)]
          rw [hfold]
          exact g1
        · cases h2
      · cases h2

theorem i_build {d : Nat} {z : AV} {ps : List (Nat × Nat × Opd)} (hR : Rel X G s a w) (hN : a.tmps.size = N) (hok : okI P N (.build d z ps) o = true) (he : eff s (.build d z ps) = some (c, U)) (hc : c) : Nxt P X G o a w (s.ups U) mk := by
  simp only [okI, Bool.and_eq_true] at hok
  obtain ⟨h1, h2⟩ := hok
  obtain ⟨hd, hlt⟩ := okDst_spec h1
  simp only [eff] at he
  split at he
  · rename_i c' r hfill
    cases he
    split at h2
    · rename_i t ps' hop
      simp only [Bool.and_eq_true] at h2
      obtain ⟨hz, h2⟩ := h2
      unfold okZero at hz
      split at hz
      · rename_i zv hzv
        unfold zeroOf at hzv
        obtain ⟨it, hit, hzi⟩ := Option.bind_eq_some_iff.1 hzv
        obtain ⟨hv, hagg⟩ := okCells_V2 (w := w) (fp := Abs.fp X G) (site := G.site) hz
        have hv1 := V2_VR1 hv hagg
        have fin : ∀ cs', P.built t (ps'.map fun (i, x) => (i, a.eval x)).toList = some cs' → VR1 (Abs.fp X G) G.site w (.agg cs') r (fun _ => none) → r.isAgg → Nxt P X G o a w (s.ups [(.t d, r)]) mk := by
          intro cs' hb hr _
          have hrun := run_build (P := P) w t _ cs' hb
          exact Nxt.value (G' := { G with own := clr G.own (.t d) }) (v := .agg cs') (by simp only [execOp, hop, Sem.run_bind, hrun, Result.andThen_ok]; rfl) (by rw [hd]; exact hR.put (by rw [hN]; exact hlt) (VR1_V2 hr)) fun _ _ => rfl
        split at h2
        · rename_i fs hu
          split at h2
          · rename_i places hpl
            obtain ⟨cs', g1, g2, g3⟩ := fill_sound hR.opd ps ps'.toList z r _ zv.cells h2 hfill hc hv1 hagg
            refine fin cs' ?_ g2 g3
            simp only [Program.built, hit, hu, hzi, hpl]
            simpa using g1
          · cases h2
        · rename_i n el hu
          split at h2
          · rename_i sz hsz
            obtain ⟨ie, hie, hsn⟩ := Option.map_eq_some_iff.1 hsz
            obtain ⟨cs', g1, g2, g3⟩ := fill_sound hR.opd ps ps'.toList z r _ zv.cells h2 hfill hc hv1 hagg
            refine fin cs' ?_ g2 g3
            simp only [Program.built, hit, hu, hzi, hie, hsn]
            simpa using g1
          · cases h2
        · cases h2
      · cases hz
    · cases h2
  · cases he
end
end Go.Abs
